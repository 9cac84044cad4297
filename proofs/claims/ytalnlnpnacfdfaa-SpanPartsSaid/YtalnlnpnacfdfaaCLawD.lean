import Derived.Test.YtalnlnpnacfdfaaCAlive
import Derived.Test.YtalnlnpnacfdfaaCPartsM
import Derived.Deep.QuietTactic
import Derived.BigQuiet
import Derived.Deep.DeepCutAuto
namespace Go.Proofs.Ytalnlnpnacfdfaa
open Go.RowKit
set_option maxHeartbeats 3200000 in
set_option maxRecDepth 1000000 in
theorem lpoint (a b k : Int) (w : World) (v : V a b) (k0 : 0 ≤ k) (k1 : k < 18446744073709551616) : Calls Try.prog 47 #[.agg #[.int .i64 a, .int .i64 b], .int .u64 k] w fun e w' => e = .returned (.int .i64 (a + k % (b - a + 1))) ∧ Steps w w' := by
  obtain ⟨v0, v1, v2⟩ := v
  have m0 := Int.emod_nonneg k (show b - a + 1 ≠ 0 by omega)
  have m1 := Int.emod_lt_of_pos k (show 0 < b - a + 1 by omega)
  have M := Hid.mk_ (And.intro m0 m1)
  have e10 : ¬ b - a + 1 = 0 := by omega
  clear m0 m1
  go_enter Try.func47, Try.ntmps47
  go_wp2_with fail
  go_quiet (fail)
  go_wp2
  go_returns
  exact ⟨retI (by have := M.out; unfold wrap64; omega), belowB⟩
theorem point_in {a b k : Int} (v : V a b) : a ≤ a + k % (b - a + 1) ∧ a + k % (b - a + 1) ≤ b := by
  obtain ⟨v0, v1, v2⟩ := v
  have m0 := Int.emod_nonneg k (show b - a + 1 ≠ 0 by omega)
  have m1 := Int.emod_lt_of_pos k (show 0 < b - a + 1 by omega)
  omega
set_option maxHeartbeats 12800000 in
set_option maxRecDepth 1000000 in
theorem parts_bad (a b c d k l m n : Int) (w : World) (hv : ¬ (V a b ∧ V c d)) : Calls Try.prog 6 #[.agg #[.int .i64 a, .int .i64 b], .agg #[.int .i64 c, .int .i64 d], .int .u64 k, .int .u64 l, .int .u64 m, .int .u64 n] w fun e w' => e = .returned (.bool true) ∧ Below w.heap.size w w' := by
  by_cases h1 : V a b
  · have E1 : errV (V a b) = 0 := if_pos h1
    have E2 : errV (V c d) = 8 := if_neg (fun h => hv ⟨h1, h⟩)
    have k1 := fun w' => rcheck3 a b w'
    have k2 := fun w' => rcheck3 c d w'
    rw [E1] at k1
    rw [E2] at k2
    clear E1 E2 h1 hv
    go_enter Try.func6, Try.ntmps6
    go_wp2_with fail
    refine (lalive _).mono ?_
    rintro e w1 ⟨rfl, hb1⟩
    have st : Steps _ w1 := hb1
    have Bn : Below w.heap.size w w1 := belowA st
    have na : Blk w1 (w.heap.size) 23 #[.int .i64 (a), .int .i64 (b)] := Blk.stepsA st
    have nb : Blk w1 (w.heap.size + 1) 23 #[.int .i64 (c), .int .i64 (d)] := Blk.stepsA st
    clear st
    have B := Bn
    clear Bn
    have oa := na
    clear na
    have ca0 : World.cell? w1 ⟨w.heap.size, 0, none⟩ = some (.int .i64 (a)) := oa.c 0 rfl
    have ca1 : World.cell? w1 ⟨w.heap.size, 1, none⟩ = some (.int .i64 (b)) := oa.c 1 rfl
    have fa := oa.fr
    have la := oa.lt
    have ob := nb
    clear nb
    have cb0 : World.cell? w1 ⟨w.heap.size + 1, 0, none⟩ = some (.int .i64 (c)) := ob.c 0 rfl
    have cb1 : World.cell? w1 ⟨w.heap.size + 1, 1, none⟩ = some (.int .i64 (d)) := ob.c 1 rfl
    have fb := ob.fr
    have lb := ob.lt
    go_wp2_with fail
    refine (k1 _).mono ?_
    rintro e w2 ⟨rfl, hb2⟩
    have st : Steps _ w2 := hb2
    have Bn : Below w.heap.size w w2 := belowA st
    have na : Blk w2 (w.heap.size) 23 #[.int .i64 (a), .int .i64 (b)] := Blk.stepsA st
    have nb : Blk w2 (w.heap.size + 1) 23 #[.int .i64 (c), .int .i64 (d)] := Blk.stepsA st
    clear B oa ob ca0 ca1 fa la cb0 cb1 fb lb
    clear st
    have B := Bn
    clear Bn
    have oa := na
    clear na
    have ca0 : World.cell? w2 ⟨w.heap.size, 0, none⟩ = some (.int .i64 (a)) := oa.c 0 rfl
    have ca1 : World.cell? w2 ⟨w.heap.size, 1, none⟩ = some (.int .i64 (b)) := oa.c 1 rfl
    have fa := oa.fr
    have la := oa.lt
    have ob := nb
    clear nb
    have cb0 : World.cell? w2 ⟨w.heap.size + 1, 0, none⟩ = some (.int .i64 (c)) := ob.c 0 rfl
    have cb1 : World.cell? w2 ⟨w.heap.size + 1, 1, none⟩ = some (.int .i64 (d)) := ob.c 1 rfl
    have fb := ob.fr
    have lb := ob.lt
    go_wp2_with fail
    refine (k2 _).mono ?_
    rintro e w3 ⟨rfl, hb3⟩
    have st : Steps _ w3 := hb3
    have Bn : Below w.heap.size w w3 := belowA st
    have na : Blk w3 (w.heap.size) 23 #[.int .i64 (a), .int .i64 (b)] := Blk.stepsA st
    have nb : Blk w3 (w.heap.size + 1) 23 #[.int .i64 (c), .int .i64 (d)] := Blk.stepsA st
    clear B oa ob ca0 ca1 fa la cb0 cb1 fb lb
    clear st
    have B := Bn
    clear Bn
    have oa := na
    clear na
    have ca0 : World.cell? w3 ⟨w.heap.size, 0, none⟩ = some (.int .i64 (a)) := oa.c 0 rfl
    have ca1 : World.cell? w3 ⟨w.heap.size, 1, none⟩ = some (.int .i64 (b)) := oa.c 1 rfl
    have fa := oa.fr
    have la := oa.lt
    have ob := nb
    clear nb
    have cb0 : World.cell? w3 ⟨w.heap.size + 1, 0, none⟩ = some (.int .i64 (c)) := ob.c 0 rfl
    have cb1 : World.cell? w3 ⟨w.heap.size + 1, 1, none⟩ = some (.int .i64 (d)) := ob.c 1 rfl
    have fb := ob.fr
    have lb := ob.lt
    go_wp2
    go_returns
    exact ⟨rfl, belowB⟩
  · have E1 : errV (V a b) = 8 := if_neg h1
    have k1 := fun w' => rcheck3 a b w'
    rw [E1] at k1
    clear E1 h1 hv
    go_enter Try.func6, Try.ntmps6
    go_wp2_with fail
    refine (lalive _).mono ?_
    rintro e w1 ⟨rfl, hb1⟩
    have st : Steps _ w1 := hb1
    have Bn : Below w.heap.size w w1 := belowA st
    have na : Blk w1 (w.heap.size) 23 #[.int .i64 (a), .int .i64 (b)] := Blk.stepsA st
    have nb : Blk w1 (w.heap.size + 1) 23 #[.int .i64 (c), .int .i64 (d)] := Blk.stepsA st
    clear st
    have B := Bn
    clear Bn
    have oa := na
    clear na
    have ca0 : World.cell? w1 ⟨w.heap.size, 0, none⟩ = some (.int .i64 (a)) := oa.c 0 rfl
    have ca1 : World.cell? w1 ⟨w.heap.size, 1, none⟩ = some (.int .i64 (b)) := oa.c 1 rfl
    have fa := oa.fr
    have la := oa.lt
    have ob := nb
    clear nb
    have cb0 : World.cell? w1 ⟨w.heap.size + 1, 0, none⟩ = some (.int .i64 (c)) := ob.c 0 rfl
    have cb1 : World.cell? w1 ⟨w.heap.size + 1, 1, none⟩ = some (.int .i64 (d)) := ob.c 1 rfl
    have fb := ob.fr
    have lb := ob.lt
    go_wp2_with fail
    refine (k1 _).mono ?_
    rintro e w2 ⟨rfl, hb2⟩
    have st : Steps _ w2 := hb2
    have Bn : Below w.heap.size w w2 := belowA st
    have na : Blk w2 (w.heap.size) 23 #[.int .i64 (a), .int .i64 (b)] := Blk.stepsA st
    have nb : Blk w2 (w.heap.size + 1) 23 #[.int .i64 (c), .int .i64 (d)] := Blk.stepsA st
    clear B oa ob ca0 ca1 fa la cb0 cb1 fb lb
    clear st
    have B := Bn
    clear Bn
    have oa := na
    clear na
    have ca0 : World.cell? w2 ⟨w.heap.size, 0, none⟩ = some (.int .i64 (a)) := oa.c 0 rfl
    have ca1 : World.cell? w2 ⟨w.heap.size, 1, none⟩ = some (.int .i64 (b)) := oa.c 1 rfl
    have fa := oa.fr
    have la := oa.lt
    have ob := nb
    clear nb
    have cb0 : World.cell? w2 ⟨w.heap.size + 1, 0, none⟩ = some (.int .i64 (c)) := ob.c 0 rfl
    have cb1 : World.cell? w2 ⟨w.heap.size + 1, 1, none⟩ = some (.int .i64 (d)) := ob.c 1 rfl
    have fb := ob.fr
    have lb := ob.lt
    go_wp2
    go_returns
    exact ⟨rfl, belowB⟩
set_option maxHeartbeats 25600000 in
set_option maxRecDepth 1000000 in
theorem parts_ok (a b c d k l m n : Int) (w : World) (v1 : V a b) (v2 : V c d) (k0 : 0 ≤ k) (k1 : k < 18446744073709551616) (l0 : 0 ≤ l) (l1 : l < 18446744073709551616) (m0 : 0 ≤ m) (m1 : m < 18446744073709551616) (n0 : 0 ≤ n) (n1 : n < 18446744073709551616) :
    Calls Try.prog 6 #[.agg #[.int .i64 a, .int .i64 b], .agg #[.int .i64 c, .int .i64 d], .int .u64 k, .int .u64 l, .int .u64 m, .int .u64 n] w fun e w' => e = .returned (.bool true) ∧ Below w.heap.size w w' := by
  have ck1 : ∀ w', Calls Try.prog 21 #[.agg #[.int .i64 a, .int .i64 b]] w' fun e w2 => e = .returned (.int .i64 0) ∧ Below w'.heap.size w' w2 := fun w' => by have := rcheck3 a b w'; rwa [show errV (V a b) = 0 from if_pos v1] at this
  have ck2 : ∀ w', Calls Try.prog 21 #[.agg #[.int .i64 c, .int .i64 d]] w' fun e w2 => e = .returned (.int .i64 0) ∧ Below w'.heap.size w' w2 := fun w' => by have := rcheck3 c d w'; rwa [show errV (V c d) = 0 from if_pos v2] at this
  have P1 := point_in (k := k) v1
  have P2 := point_in (k := l) v1
  have P3 := point_in (k := m) v2
  have P4 := point_in (k := n) v2
  have q1 := fun w' => lpoint a b k w' v1 k0 k1
  have q2 := fun w' => lpoint a b l w' v1 l0 l1
  have q3 := fun w' => lpoint c d m w' v2 m0 m1
  have q4 := fun w' => lpoint c d n w' v2 n0 n1
  obtain ⟨x, hx⟩ : ∃ x, a + k % (b - a + 1) = x := ⟨_, rfl⟩
  obtain ⟨y, hy⟩ : ∃ x, a + l % (b - a + 1) = x := ⟨_, rfl⟩
  obtain ⟨z, hz⟩ : ∃ x, c + m % (d - c + 1) = x := ⟨_, rfl⟩
  obtain ⟨u, hu⟩ : ∃ x, c + n % (d - c + 1) = x := ⟨_, rfl⟩
  rw [hx] at q1 P1
  rw [hy] at q2 P2
  rw [hz] at q3 P3
  rw [hu] at q4 P4
  obtain ⟨x1, hx1⟩ : ∃ t, min x y = t := ⟨_, rfl⟩
  obtain ⟨x2, hx2⟩ : ∃ t, max x y = t := ⟨_, rfl⟩
  obtain ⟨z1, hz1⟩ : ∃ t, min z u = t := ⟨_, rfl⟩
  obtain ⟨z2, hz2⟩ : ∃ t, max z u = t := ⟨_, rfl⟩
  have i1 := fun w' => liv x1 x2 w'
  have i2 := fun w' => liv z1 z2 w'
  have mA1 : (if y < x then y else x) = x1 := by split <;> omega
  have mA2 : (if x < y then y else x) = x2 := by split <;> omega
  have mB1 : (if u < z then u else z) = z1 := by split <;> omega
  have mB2 : (if z < u then u else z) = z2 := by split <;> omega
  have B1 : a ≤ x1 ∧ x1 ≤ x2 ∧ x2 ≤ b := by omega
  have B2 : c ≤ z1 ∧ z1 ≤ z2 ∧ z2 ≤ d := by omega
  have S0 := mul_sub' v1 v2 B1.1 B1.2.1 B1.2.2 B2.1 B2.2.1 B2.2.2
  have f01 := fun w' => mul_p a b c d w'
  have f02 := fun w' => mul_p x1 x2 z1 z2 w'
  obtain ⟨⟨p0, r0, e0⟩, hT0⟩ : ∃ T, mulS a b c d = T := ⟨_, rfl⟩
  obtain ⟨⟨s0, t0, g0⟩, hU0⟩ : ∃ T, mulS x1 x2 z1 z2 = T := ⟨_, rfl⟩
  rw [hT0] at S0 f01
  rw [hU0] at S0 f02
  have S0' : Hid ((e0 == 0) = false ∨ ((e0 == 0) = true ∧ g0 = 0 ∧ ¬ s0 < p0 ∧ ¬ r0 < t0)) := by
    show _ ∨ _
    by_cases h : e0 = 0
    · right
      have := S0 h
      exact ⟨by simp [h], this.1, by have := this.2.1; dsimp only at this; omega, by have := this.2.2; dsimp only at this; omega⟩
    · left; simp [h]
  have S1 := div_sub' v1 v2 B1.1 B1.2.1 B1.2.2 B2.1 B2.2.1 B2.2.2
  have f11 := fun w' => div_p a b c d w'
  have f12 := fun w' => div_p x1 x2 z1 z2 w'
  obtain ⟨⟨p1, r1, e1⟩, hT1⟩ : ∃ T, divS a b c d = T := ⟨_, rfl⟩
  obtain ⟨⟨s1, t1, g1⟩, hU1⟩ : ∃ T, divS x1 x2 z1 z2 = T := ⟨_, rfl⟩
  rw [hT1] at S1 f11
  rw [hU1] at S1 f12
  have S1' : Hid ((e1 == 0) = false ∨ ((e1 == 0) = true ∧ g1 = 0 ∧ ¬ s1 < p1 ∧ ¬ r1 < t1)) := by
    show _ ∨ _
    by_cases h : e1 = 0
    · right
      have := S1 h
      exact ⟨by simp [h], this.1, by have := this.2.1; dsimp only at this; omega, by have := this.2.2; dsimp only at this; omega⟩
    · left; simp [h]
  have S2 := sq_sub v1 B1.1 B1.2.1 B1.2.2
  have f21 := fun w' => sq_p a b w'
  have f22 := fun w' => sq_p x1 x2 w'
  obtain ⟨⟨p2, r2, e2⟩, hT2⟩ : ∃ T, sqS a b = T := ⟨_, rfl⟩
  obtain ⟨⟨s2, t2, g2⟩, hU2⟩ : ∃ T, sqS x1 x2 = T := ⟨_, rfl⟩
  rw [hT2] at S2 f21
  rw [hU2] at S2 f22
  have S2' : Hid ((e2 == 0) = false ∨ ((e2 == 0) = true ∧ g2 = 0 ∧ ¬ s2 < p2 ∧ ¬ r2 < t2)) := by
    show _ ∨ _
    by_cases h : e2 = 0
    · right
      have := S2 h
      exact ⟨by simp [h], this.1, by have := this.2.1; dsimp only at this; omega, by have := this.2.2; dsimp only at this; omega⟩
    · left; simp [h]
  have S3 := sub_sub' v1 v2 B1.1 B1.2.1 B1.2.2 B2.1 B2.2.1 B2.2.2
  have f31 := fun w' => sub_p a b c d w'
  have f32 := fun w' => sub_p x1 x2 z1 z2 w'
  obtain ⟨⟨p3, r3, e3⟩, hT3⟩ : ∃ T, subS a b c d = T := ⟨_, rfl⟩
  obtain ⟨⟨s3, t3, g3⟩, hU3⟩ : ∃ T, subS x1 x2 z1 z2 = T := ⟨_, rfl⟩
  rw [hT3] at S3 f31
  rw [hU3] at S3 f32
  have S3' : Hid ((e3 == 0) = false ∨ ((e3 == 0) = true ∧ g3 = 0 ∧ ¬ s3 < p3 ∧ ¬ r3 < t3)) := by
    show _ ∨ _
    by_cases h : e3 = 0
    · right
      have := S3 h
      exact ⟨by simp [h], this.1, by have := this.2.1; dsimp only at this; omega, by have := this.2.2; dsimp only at this; omega⟩
    · left; simp [h]
  obtain ⟨I1, I2, I3, I4⟩ := in_is v1 B1.1 B1.2.1 B1.2.2
  have j1 : ∀ w', Calls Try.prog 38 #[.agg #[.int .i64 x1, .int .i64 x2], .agg #[.int .i64 a, .int .i64 b]] w' fun e w2 => e = .returned (.tuple #[.bool true, .int .i64 0]) ∧ Below w'.heap.size w' w2 := fun w' => by have := in_p x1 x2 a b w'; rwa [I1, I2] at this
  have j2 := fun w' => meet_p x1 x2 a b w'
  rw [I3] at j2
  have j3 := fun w' => hull_p x1 x2 a b w'
  rw [I4] at j3
  clear I1 I2 I3 I4 v1 v2 k0 k1 l0 l1 m0 m1 n0 n1 hx hy hz hu hx1 hx2 hz1 hz2 B1 B2 P1 P2 P3 P4 S0 S1 S2 S3 hT0 hT1 hT2 hT3 hU0 hU1 hU2 hU3
  go_enter Try.func6, Try.ntmps6
  go_wp2_with fail
  refine (lalive _).mono ?_
  rintro e w1 ⟨rfl, hb1⟩
  have st : Steps _ w1 := hb1
  have Bn : Below w.heap.size w w1 := belowA st
  have na : Blk w1 (w.heap.size) 23 #[.int .i64 (a), .int .i64 (b)] := Blk.stepsA st
  have nb : Blk w1 (w.heap.size + 1) 23 #[.int .i64 (c), .int .i64 (d)] := Blk.stepsA st
  clear st
  have B := Bn
  clear Bn
  have oa := na
  clear na
  have ca0 : World.cell? w1 ⟨w.heap.size, 0, none⟩ = some (.int .i64 (a)) := oa.c 0 rfl
  have ca1 : World.cell? w1 ⟨w.heap.size, 1, none⟩ = some (.int .i64 (b)) := oa.c 1 rfl
  have fa := oa.fr
  have la := oa.lt
  have ob := nb
  clear nb
  have cb0 : World.cell? w1 ⟨w.heap.size + 1, 0, none⟩ = some (.int .i64 (c)) := ob.c 0 rfl
  have cb1 : World.cell? w1 ⟨w.heap.size + 1, 1, none⟩ = some (.int .i64 (d)) := ob.c 1 rfl
  have fb := ob.fr
  have lb := ob.lt
  go_wp2_with fail
  refine (ck1 _).mono ?_
  rintro e w2 ⟨rfl, hb2⟩
  have st : Steps _ w2 := hb2
  have Bn : Below w.heap.size w w2 := belowA st
  have na : Blk w2 (w.heap.size) 23 #[.int .i64 (a), .int .i64 (b)] := Blk.stepsA st
  have nb : Blk w2 (w.heap.size + 1) 23 #[.int .i64 (c), .int .i64 (d)] := Blk.stepsA st
  clear B oa ob ca0 ca1 fa la cb0 cb1 fb lb
  clear st
  have B := Bn
  clear Bn
  have oa := na
  clear na
  have ca0 : World.cell? w2 ⟨w.heap.size, 0, none⟩ = some (.int .i64 (a)) := oa.c 0 rfl
  have ca1 : World.cell? w2 ⟨w.heap.size, 1, none⟩ = some (.int .i64 (b)) := oa.c 1 rfl
  have fa := oa.fr
  have la := oa.lt
  have ob := nb
  clear nb
  have cb0 : World.cell? w2 ⟨w.heap.size + 1, 0, none⟩ = some (.int .i64 (c)) := ob.c 0 rfl
  have cb1 : World.cell? w2 ⟨w.heap.size + 1, 1, none⟩ = some (.int .i64 (d)) := ob.c 1 rfl
  have fb := ob.fr
  have lb := ob.lt
  clear ck1
  go_wp2_with fail
  refine (ck2 _).mono ?_
  rintro e w3 ⟨rfl, hb3⟩
  have st : Steps _ w3 := hb3
  have Bn : Below w.heap.size w w3 := belowA st
  have na : Blk w3 (w.heap.size) 23 #[.int .i64 (a), .int .i64 (b)] := Blk.stepsA st
  have nb : Blk w3 (w.heap.size + 1) 23 #[.int .i64 (c), .int .i64 (d)] := Blk.stepsA st
  clear B oa ob ca0 ca1 fa la cb0 cb1 fb lb
  clear st
  have B := Bn
  clear Bn
  have oa := na
  clear na
  have ca0 : World.cell? w3 ⟨w.heap.size, 0, none⟩ = some (.int .i64 (a)) := oa.c 0 rfl
  have ca1 : World.cell? w3 ⟨w.heap.size, 1, none⟩ = some (.int .i64 (b)) := oa.c 1 rfl
  have fa := oa.fr
  have la := oa.lt
  have ob := nb
  clear nb
  have cb0 : World.cell? w3 ⟨w.heap.size + 1, 0, none⟩ = some (.int .i64 (c)) := ob.c 0 rfl
  have cb1 : World.cell? w3 ⟨w.heap.size + 1, 1, none⟩ = some (.int .i64 (d)) := ob.c 1 rfl
  have fb := ob.fr
  have lb := ob.lt
  clear ck2
  go_upto_region 4 with fail
  go_cut [14, 15, 16, 17] (fun s1 s2 s3 s4 wx => s1 = .int .i64 x ∧ s2 = .int .i64 y ∧ s3 = .int .i64 z ∧ s4 = .int .i64 u ∧ Blk wx (w.heap.size) 23 #[.int .i64 (a), .int .i64 (b)] ∧ Blk wx (w.heap.size + 1) 23 #[.int .i64 (c), .int .i64 (d)] ∧ Below w.heap.size w wx)
  case first => as_aux_lemma =>
    go_region_held3 (fun w' => w'.cell? ⟨w.heap.size, 0, none⟩ = some (.int .i64 (a)) ∧ w'.cell? ⟨w.heap.size, 1, none⟩ = some (.int .i64 (b)) ∧ w'.cell? ⟨w.heap.size + 1, 0, none⟩ = some (.int .i64 (c)) ∧ w'.cell? ⟨w.heap.size + 1, 1, none⟩ = some (.int .i64 (d)))
      ((refine ⟨Blk.c (t := 23) (cs := #[.int .i64 (a), .int .i64 (b)]) ?_ 0 rfl, Blk.c (t := 23) (cs := #[.int .i64 (a), .int .i64 (b)]) ?_ 1 rfl, Blk.c (t := 23) (cs := #[.int .i64 (c), .int .i64 (d)]) ?_ 0 rfl, Blk.c (t := 23) (cs := #[.int .i64 (c), .int .i64 (d)]) ?_ 1 rfl⟩ <;> (repeat' first | with_reducible assumption | (with_reducible refine Blk.new' ?_; first | with_reducible rfl | (simp only [World.size_alloc, World.size_setCell, World.size_drew]; done)) | with_reducible refine Blk.alloc ?_ _ | with_reducible refine Blk.drew ?_ | with_reducible refine Blk.drewN ?_ _ | with_reducible apply Blk.both | with_reducible refine Blk.far' ?_ ?_ | (show _ ≠ _; omega))))
      (first
        | ((go_at_call 47; with_reducible refine (q1 _).mono ?_; rintro e wv ⟨rfl, hbv⟩; go_must (have st : Steps _ wv := hbv; have Bn : Below w.heap.size w wv := belowA st; have na : Blk wv (w.heap.size) 23 #[.int .i64 (a), .int .i64 (b)] := Blk.stepsA st; have nb : Blk wv (w.heap.size + 1) 23 #[.int .i64 (c), .int .i64 (d)] := Blk.stepsA st; clear B oa ob ca0 ca1 fa la cb0 cb1 fb lb; clear st; have B := Bn; clear Bn; have oa := na; clear na; have ca0 : World.cell? wv ⟨w.heap.size, 0, none⟩ = some (.int .i64 (a)) := oa.c 0 rfl; have ca1 : World.cell? wv ⟨w.heap.size, 1, none⟩ = some (.int .i64 (b)) := oa.c 1 rfl; have fa := oa.fr; have la := oa.lt; have ob := nb; clear nb; have cb0 : World.cell? wv ⟨w.heap.size + 1, 0, none⟩ = some (.int .i64 (c)) := ob.c 0 rfl; have cb1 : World.cell? wv ⟨w.heap.size + 1, 1, none⟩ = some (.int .i64 (d)) := ob.c 1 rfl; have fb := ob.fr; have lb := ob.lt)))
        | ((go_at_call 47; with_reducible refine (q2 _).mono ?_; rintro e wv ⟨rfl, hbv⟩; go_must (have st : Steps _ wv := hbv; have Bn : Below w.heap.size w wv := belowA st; have na : Blk wv (w.heap.size) 23 #[.int .i64 (a), .int .i64 (b)] := Blk.stepsA st; have nb : Blk wv (w.heap.size + 1) 23 #[.int .i64 (c), .int .i64 (d)] := Blk.stepsA st; clear B oa ob ca0 ca1 fa la cb0 cb1 fb lb; clear st; have B := Bn; clear Bn; have oa := na; clear na; have ca0 : World.cell? wv ⟨w.heap.size, 0, none⟩ = some (.int .i64 (a)) := oa.c 0 rfl; have ca1 : World.cell? wv ⟨w.heap.size, 1, none⟩ = some (.int .i64 (b)) := oa.c 1 rfl; have fa := oa.fr; have la := oa.lt; have ob := nb; clear nb; have cb0 : World.cell? wv ⟨w.heap.size + 1, 0, none⟩ = some (.int .i64 (c)) := ob.c 0 rfl; have cb1 : World.cell? wv ⟨w.heap.size + 1, 1, none⟩ = some (.int .i64 (d)) := ob.c 1 rfl; have fb := ob.fr; have lb := ob.lt)))
        | ((go_at_call 47; with_reducible refine (q3 _).mono ?_; rintro e wv ⟨rfl, hbv⟩; go_must (have st : Steps _ wv := hbv; have Bn : Below w.heap.size w wv := belowA st; have na : Blk wv (w.heap.size) 23 #[.int .i64 (a), .int .i64 (b)] := Blk.stepsA st; have nb : Blk wv (w.heap.size + 1) 23 #[.int .i64 (c), .int .i64 (d)] := Blk.stepsA st; clear B oa ob ca0 ca1 fa la cb0 cb1 fb lb; clear st; have B := Bn; clear Bn; have oa := na; clear na; have ca0 : World.cell? wv ⟨w.heap.size, 0, none⟩ = some (.int .i64 (a)) := oa.c 0 rfl; have ca1 : World.cell? wv ⟨w.heap.size, 1, none⟩ = some (.int .i64 (b)) := oa.c 1 rfl; have fa := oa.fr; have la := oa.lt; have ob := nb; clear nb; have cb0 : World.cell? wv ⟨w.heap.size + 1, 0, none⟩ = some (.int .i64 (c)) := ob.c 0 rfl; have cb1 : World.cell? wv ⟨w.heap.size + 1, 1, none⟩ = some (.int .i64 (d)) := ob.c 1 rfl; have fb := ob.fr; have lb := ob.lt)))
        | ((go_at_call 47; with_reducible refine (q4 _).mono ?_; rintro e wv ⟨rfl, hbv⟩; go_must (have st : Steps _ wv := hbv; have Bn : Below w.heap.size w wv := belowA st; have na : Blk wv (w.heap.size) 23 #[.int .i64 (a), .int .i64 (b)] := Blk.stepsA st; have nb : Blk wv (w.heap.size + 1) 23 #[.int .i64 (c), .int .i64 (d)] := Blk.stepsA st; clear B oa ob ca0 ca1 fa la cb0 cb1 fb lb; clear st; have B := Bn; clear Bn; have oa := na; clear na; have ca0 : World.cell? wv ⟨w.heap.size, 0, none⟩ = some (.int .i64 (a)) := oa.c 0 rfl; have ca1 : World.cell? wv ⟨w.heap.size, 1, none⟩ = some (.int .i64 (b)) := oa.c 1 rfl; have fa := oa.fr; have la := oa.lt; have ob := nb; clear nb; have cb0 : World.cell? wv ⟨w.heap.size + 1, 0, none⟩ = some (.int .i64 (c)) := ob.c 0 rfl; have cb1 : World.cell? wv ⟨w.heap.size + 1, 1, none⟩ = some (.int .i64 (d)) := ob.c 1 rfl; have fb := ob.fr; have lb := ob.lt))))
    all_goals (go_wp2_with fail; go_meet; exact ⟨rfl, rfl, rfl, rfl, oa, ob, belowB⟩)
  case rest => as_aux_lemma =>
    clear q1 q2 q3 q4 B oa ob ca0 ca1 fa la cb0 cb1 fb lb
    obtain ⟨rfl, rfl, rfl, rfl, oa, ob, B⟩ := hcut
    have ca0 : World.cell? _ ⟨w.heap.size, 0, none⟩ = some (.int .i64 (a)) := oa.c 0 rfl
    have ca1 : World.cell? _ ⟨w.heap.size, 1, none⟩ = some (.int .i64 (b)) := oa.c 1 rfl
    have fa := oa.fr
    have la := oa.lt
    have cb0 : World.cell? _ ⟨w.heap.size + 1, 0, none⟩ = some (.int .i64 (c)) := ob.c 0 rfl
    have cb1 : World.cell? _ ⟨w.heap.size + 1, 1, none⟩ = some (.int .i64 (d)) := ob.c 1 rfl
    have fb := ob.fr
    have lb := ob.lt
    go_wp2_with fail
    refine (i1 _).mono ?_
    rintro e w4 ⟨rfl, hb4⟩
    have st : Steps _ w4 := hb4
    have Bn : Below w.heap.size w w4 := belowA st
    have na : Blk w4 (w.heap.size) 23 #[.int .i64 (a), .int .i64 (b)] := Blk.stepsA st
    have nb : Blk w4 (w.heap.size + 1) 23 #[.int .i64 (c), .int .i64 (d)] := Blk.stepsA st
    clear B oa ob ca0 ca1 fa la cb0 cb1 fb lb
    clear st
    have B := Bn
    clear Bn
    have oa := na
    clear na
    have ca0 : World.cell? w4 ⟨w.heap.size, 0, none⟩ = some (.int .i64 (a)) := oa.c 0 rfl
    have ca1 : World.cell? w4 ⟨w.heap.size, 1, none⟩ = some (.int .i64 (b)) := oa.c 1 rfl
    have fa := oa.fr
    have la := oa.lt
    have ob := nb
    clear nb
    have cb0 : World.cell? w4 ⟨w.heap.size + 1, 0, none⟩ = some (.int .i64 (c)) := ob.c 0 rfl
    have cb1 : World.cell? w4 ⟨w.heap.size + 1, 1, none⟩ = some (.int .i64 (d)) := ob.c 1 rfl
    have fb := ob.fr
    have lb := ob.lt
    clear i1 mA1 mA2
    go_wp2_with fail
    refine (i2 _).mono ?_
    rintro e w5 ⟨rfl, hb5⟩
    have st : Steps _ w5 := hb5
    have Bn : Below w.heap.size w w5 := belowA st
    have na : Blk w5 (w.heap.size) 23 #[.int .i64 (a), .int .i64 (b)] := Blk.stepsA st
    have nb : Blk w5 (w.heap.size + 1) 23 #[.int .i64 (c), .int .i64 (d)] := Blk.stepsA st
    clear B oa ob ca0 ca1 fa la cb0 cb1 fb lb
    clear st
    have B := Bn
    clear Bn
    have oa := na
    clear na
    have ca0 : World.cell? w5 ⟨w.heap.size, 0, none⟩ = some (.int .i64 (a)) := oa.c 0 rfl
    have ca1 : World.cell? w5 ⟨w.heap.size, 1, none⟩ = some (.int .i64 (b)) := oa.c 1 rfl
    have fa := oa.fr
    have la := oa.lt
    have ob := nb
    clear nb
    have cb0 : World.cell? w5 ⟨w.heap.size + 1, 0, none⟩ = some (.int .i64 (c)) := ob.c 0 rfl
    have cb1 : World.cell? w5 ⟨w.heap.size + 1, 1, none⟩ = some (.int .i64 (d)) := ob.c 1 rfl
    have fb := ob.fr
    have lb := ob.lt
    clear i2 mB1 mB2
    have zz1 : w.heap.size + 1 < w5.heap.size := ob.lt
    go_wp2_with fail
    refine (f01 _).mono ?_
    rintro e w6 ⟨rfl, hb6⟩
    have st : Steps _ w6 := hb6
    have Bn : Below w.heap.size w w6 := belowA st
    have na : Blk w6 (w.heap.size) 23 #[.int .i64 (a), .int .i64 (b)] := Blk.stepsA st
    have nb : Blk w6 (w.heap.size + 1) 23 #[.int .i64 (c), .int .i64 (d)] := Blk.stepsA st
    have nx : Blk w6 (w5.heap.size) 23 #[.int .i64 (x1), .int .i64 (x2)] := Blk.stepsA st
    have nz : Blk w6 (w5.heap.size + 1) 23 #[.int .i64 (z1), .int .i64 (z2)] := Blk.stepsA st
    clear B oa ob ca0 ca1 fa la cb0 cb1 fb lb
    clear st
    have B := Bn
    clear Bn
    have oa := na
    clear na
    have ca0 : World.cell? w6 ⟨w.heap.size, 0, none⟩ = some (.int .i64 (a)) := oa.c 0 rfl
    have ca1 : World.cell? w6 ⟨w.heap.size, 1, none⟩ = some (.int .i64 (b)) := oa.c 1 rfl
    have fa := oa.fr
    have la := oa.lt
    have ob := nb
    clear nb
    have cb0 : World.cell? w6 ⟨w.heap.size + 1, 0, none⟩ = some (.int .i64 (c)) := ob.c 0 rfl
    have cb1 : World.cell? w6 ⟨w.heap.size + 1, 1, none⟩ = some (.int .i64 (d)) := ob.c 1 rfl
    have fb := ob.fr
    have lb := ob.lt
    have ox := nx
    clear nx
    have cx0 : World.cell? w6 ⟨w5.heap.size, 0, none⟩ = some (.int .i64 (x1)) := ox.c 0 rfl
    have cx1 : World.cell? w6 ⟨w5.heap.size, 1, none⟩ = some (.int .i64 (x2)) := ox.c 1 rfl
    have fx := ox.fr
    have lx := ox.lt
    have oz := nz
    clear nz
    have cz0 : World.cell? w6 ⟨w5.heap.size + 1, 0, none⟩ = some (.int .i64 (z1)) := oz.c 0 rfl
    have cz1 : World.cell? w6 ⟨w5.heap.size + 1, 1, none⟩ = some (.int .i64 (z2)) := oz.c 1 rfl
    have fz := oz.fr
    have lz := oz.lt
    clear f01
    have zz2 : w5.heap.size + 1 < w6.heap.size := oz.lt
    go_wp2_with fail
    refine (f02 _).mono ?_
    rintro e w7 ⟨rfl, hb7⟩
    have st : Steps _ w7 := hb7
    have Bn : Below w.heap.size w w7 := belowA st
    have na : Blk w7 (w.heap.size) 23 #[.int .i64 (a), .int .i64 (b)] := Blk.stepsA st
    have nb : Blk w7 (w.heap.size + 1) 23 #[.int .i64 (c), .int .i64 (d)] := Blk.stepsA st
    have nx : Blk w7 (w5.heap.size) 23 #[.int .i64 (x1), .int .i64 (x2)] := Blk.stepsA st
    have nz : Blk w7 (w5.heap.size + 1) 23 #[.int .i64 (z1), .int .i64 (z2)] := Blk.stepsA st
    have np : Blk w7 (w6.heap.size) 23 #[.int .i64 (p0), .int .i64 (r0)] := Blk.stepsA st
    clear B oa ob ox oz ca0 ca1 fa la cb0 cb1 fb lb cx0 cx1 fx lx cz0 cz1 fz lz
    clear st
    have B := Bn
    clear Bn
    have oa := na
    clear na
    have ca0 : World.cell? w7 ⟨w.heap.size, 0, none⟩ = some (.int .i64 (a)) := oa.c 0 rfl
    have ca1 : World.cell? w7 ⟨w.heap.size, 1, none⟩ = some (.int .i64 (b)) := oa.c 1 rfl
    have fa := oa.fr
    have la := oa.lt
    have ob := nb
    clear nb
    have cb0 : World.cell? w7 ⟨w.heap.size + 1, 0, none⟩ = some (.int .i64 (c)) := ob.c 0 rfl
    have cb1 : World.cell? w7 ⟨w.heap.size + 1, 1, none⟩ = some (.int .i64 (d)) := ob.c 1 rfl
    have fb := ob.fr
    have lb := ob.lt
    have ox := nx
    clear nx
    have cx0 : World.cell? w7 ⟨w5.heap.size, 0, none⟩ = some (.int .i64 (x1)) := ox.c 0 rfl
    have cx1 : World.cell? w7 ⟨w5.heap.size, 1, none⟩ = some (.int .i64 (x2)) := ox.c 1 rfl
    have fx := ox.fr
    have lx := ox.lt
    have oz := nz
    clear nz
    have cz0 : World.cell? w7 ⟨w5.heap.size + 1, 0, none⟩ = some (.int .i64 (z1)) := oz.c 0 rfl
    have cz1 : World.cell? w7 ⟨w5.heap.size + 1, 1, none⟩ = some (.int .i64 (z2)) := oz.c 1 rfl
    have fz := oz.fr
    have lz := oz.lt
    have op := np
    clear np
    have cp0 : World.cell? w7 ⟨w6.heap.size, 0, none⟩ = some (.int .i64 (p0)) := op.c 0 rfl
    have cp1 : World.cell? w7 ⟨w6.heap.size, 1, none⟩ = some (.int .i64 (r0)) := op.c 1 rfl
    have fp := op.fr
    have lp := op.lt
    clear f02
    have zz3 : w6.heap.size < w7.heap.size := op.lt
    go_upto_region 8 with fail
    go_cut [101, 21, 23] (fun sc _ _ wx => sc = .bool false ∧ Blk wx (w.heap.size) 23 #[.int .i64 (a), .int .i64 (b)] ∧ Blk wx (w.heap.size + 1) 23 #[.int .i64 (c), .int .i64 (d)] ∧ Blk wx (w5.heap.size) 23 #[.int .i64 (x1), .int .i64 (x2)] ∧ Blk wx (w5.heap.size + 1) 23 #[.int .i64 (z1), .int .i64 (z2)] ∧ Blk wx (w6.heap.size) 23 #[.int .i64 (p0), .int .i64 (r0)] ∧ Blk wx (w7.heap.size) 23 #[.int .i64 (s0), .int .i64 (t0)] ∧ Below w.heap.size w wx)
    case first => as_aux_lemma =>
      rcases S0'.out with h1 | ⟨h1, h2, h3, h4⟩
      all_goals (go_wp2_with fail)
      all_goals ((go_meet; exact ⟨by first | rfl | (rw [decide_eq_false (show ¬ s0 < p0 by omega), decide_eq_false (show ¬ r0 < t0 by omega)]; rfl), ownB, ownB, ownB, ownB, ownB, ownB, belowB⟩))
    case rest => as_aux_lemma =>
      clear S0' B oa ob ox oz op ca0 ca1 fa la cb0 cb1 fb lb cx0 cx1 fx lx cz0 cz1 fz lz cp0 cp1 fp lp
      obtain ⟨rfl, oa, ob, ox, oz, op, oq, B⟩ := hcut
      have ca0 : World.cell? _ ⟨w.heap.size, 0, none⟩ = some (.int .i64 (a)) := oa.c 0 rfl
      have ca1 : World.cell? _ ⟨w.heap.size, 1, none⟩ = some (.int .i64 (b)) := oa.c 1 rfl
      have fa := oa.fr
      have la := oa.lt
      have cb0 : World.cell? _ ⟨w.heap.size + 1, 0, none⟩ = some (.int .i64 (c)) := ob.c 0 rfl
      have cb1 : World.cell? _ ⟨w.heap.size + 1, 1, none⟩ = some (.int .i64 (d)) := ob.c 1 rfl
      have fb := ob.fr
      have lb := ob.lt
      have cx0 : World.cell? _ ⟨w5.heap.size, 0, none⟩ = some (.int .i64 (x1)) := ox.c 0 rfl
      have cx1 : World.cell? _ ⟨w5.heap.size, 1, none⟩ = some (.int .i64 (x2)) := ox.c 1 rfl
      have fx := ox.fr
      have lx := ox.lt
      have cz0 : World.cell? _ ⟨w5.heap.size + 1, 0, none⟩ = some (.int .i64 (z1)) := oz.c 0 rfl
      have cz1 : World.cell? _ ⟨w5.heap.size + 1, 1, none⟩ = some (.int .i64 (z2)) := oz.c 1 rfl
      have fz := oz.fr
      have lz := oz.lt
      have cp0 : World.cell? _ ⟨w6.heap.size, 0, none⟩ = some (.int .i64 (p0)) := op.c 0 rfl
      have cp1 : World.cell? _ ⟨w6.heap.size, 1, none⟩ = some (.int .i64 (r0)) := op.c 1 rfl
      have fp := op.fr
      have lp := op.lt
      have cq0 : World.cell? _ ⟨w7.heap.size, 0, none⟩ = some (.int .i64 (s0)) := oq.c 0 rfl
      have cq1 : World.cell? _ ⟨w7.heap.size, 1, none⟩ = some (.int .i64 (t0)) := oq.c 1 rfl
      have fq := oq.fr
      have lq := oq.lt
      go_wp2_with fail
      refine (f11 _).mono ?_
      rintro e w8 ⟨rfl, hb8⟩
      have st : Steps _ w8 := hb8
      have Bn : Below w.heap.size w w8 := belowA st
      have na : Blk w8 (w.heap.size) 23 #[.int .i64 (a), .int .i64 (b)] := Blk.stepsA st
      have nb : Blk w8 (w.heap.size + 1) 23 #[.int .i64 (c), .int .i64 (d)] := Blk.stepsA st
      have nx : Blk w8 (w5.heap.size) 23 #[.int .i64 (x1), .int .i64 (x2)] := Blk.stepsA st
      have nz : Blk w8 (w5.heap.size + 1) 23 #[.int .i64 (z1), .int .i64 (z2)] := Blk.stepsA st
      have np : Blk w8 (w6.heap.size) 23 #[.int .i64 (p0), .int .i64 (r0)] := Blk.stepsA st
      have nq : Blk w8 (w7.heap.size) 23 #[.int .i64 (s0), .int .i64 (t0)] := Blk.stepsA st
      clear B oa ob ox oz op oq ca0 ca1 fa la cb0 cb1 fb lb cx0 cx1 fx lx cz0 cz1 fz lz cp0 cp1 fp lp cq0 cq1 fq lq
      clear st
      have B := Bn
      clear Bn
      have oa := na
      clear na
      have ca0 : World.cell? w8 ⟨w.heap.size, 0, none⟩ = some (.int .i64 (a)) := oa.c 0 rfl
      have ca1 : World.cell? w8 ⟨w.heap.size, 1, none⟩ = some (.int .i64 (b)) := oa.c 1 rfl
      have fa := oa.fr
      have la := oa.lt
      have ob := nb
      clear nb
      have cb0 : World.cell? w8 ⟨w.heap.size + 1, 0, none⟩ = some (.int .i64 (c)) := ob.c 0 rfl
      have cb1 : World.cell? w8 ⟨w.heap.size + 1, 1, none⟩ = some (.int .i64 (d)) := ob.c 1 rfl
      have fb := ob.fr
      have lb := ob.lt
      have ox := nx
      clear nx
      have cx0 : World.cell? w8 ⟨w5.heap.size, 0, none⟩ = some (.int .i64 (x1)) := ox.c 0 rfl
      have cx1 : World.cell? w8 ⟨w5.heap.size, 1, none⟩ = some (.int .i64 (x2)) := ox.c 1 rfl
      have fx := ox.fr
      have lx := ox.lt
      have oz := nz
      clear nz
      have cz0 : World.cell? w8 ⟨w5.heap.size + 1, 0, none⟩ = some (.int .i64 (z1)) := oz.c 0 rfl
      have cz1 : World.cell? w8 ⟨w5.heap.size + 1, 1, none⟩ = some (.int .i64 (z2)) := oz.c 1 rfl
      have fz := oz.fr
      have lz := oz.lt
      have op := np
      clear np
      have cp0 : World.cell? w8 ⟨w6.heap.size, 0, none⟩ = some (.int .i64 (p0)) := op.c 0 rfl
      have cp1 : World.cell? w8 ⟨w6.heap.size, 1, none⟩ = some (.int .i64 (r0)) := op.c 1 rfl
      have fp := op.fr
      have lp := op.lt
      have oq := nq
      clear nq
      have cq0 : World.cell? w8 ⟨w7.heap.size, 0, none⟩ = some (.int .i64 (s0)) := oq.c 0 rfl
      have cq1 : World.cell? w8 ⟨w7.heap.size, 1, none⟩ = some (.int .i64 (t0)) := oq.c 1 rfl
      have fq := oq.fr
      have lq := oq.lt
      clear f11
      go_wp2_with fail
      refine (f12 _).mono ?_
      rintro e w9 ⟨rfl, hb9⟩
      have st : Steps _ w9 := hb9
      have Bn : Below w.heap.size w w9 := belowA st
      have na : Blk w9 (w.heap.size) 23 #[.int .i64 (a), .int .i64 (b)] := Blk.stepsA st
      have nb : Blk w9 (w.heap.size + 1) 23 #[.int .i64 (c), .int .i64 (d)] := Blk.stepsA st
      have nx : Blk w9 (w5.heap.size) 23 #[.int .i64 (x1), .int .i64 (x2)] := Blk.stepsA st
      have nz : Blk w9 (w5.heap.size + 1) 23 #[.int .i64 (z1), .int .i64 (z2)] := Blk.stepsA st
      have np : Blk w9 (w6.heap.size) 23 #[.int .i64 (p1), .int .i64 (r1)] := Blk.stepsA st
      have nq : Blk w9 (w7.heap.size) 23 #[.int .i64 (s0), .int .i64 (t0)] := Blk.stepsA st
      clear B oa ob ox oz op oq ca0 ca1 fa la cb0 cb1 fb lb cx0 cx1 fx lx cz0 cz1 fz lz cp0 cp1 fp lp cq0 cq1 fq lq
      clear st
      have B := Bn
      clear Bn
      have oa := na
      clear na
      have ca0 : World.cell? w9 ⟨w.heap.size, 0, none⟩ = some (.int .i64 (a)) := oa.c 0 rfl
      have ca1 : World.cell? w9 ⟨w.heap.size, 1, none⟩ = some (.int .i64 (b)) := oa.c 1 rfl
      have fa := oa.fr
      have la := oa.lt
      have ob := nb
      clear nb
      have cb0 : World.cell? w9 ⟨w.heap.size + 1, 0, none⟩ = some (.int .i64 (c)) := ob.c 0 rfl
      have cb1 : World.cell? w9 ⟨w.heap.size + 1, 1, none⟩ = some (.int .i64 (d)) := ob.c 1 rfl
      have fb := ob.fr
      have lb := ob.lt
      have ox := nx
      clear nx
      have cx0 : World.cell? w9 ⟨w5.heap.size, 0, none⟩ = some (.int .i64 (x1)) := ox.c 0 rfl
      have cx1 : World.cell? w9 ⟨w5.heap.size, 1, none⟩ = some (.int .i64 (x2)) := ox.c 1 rfl
      have fx := ox.fr
      have lx := ox.lt
      have oz := nz
      clear nz
      have cz0 : World.cell? w9 ⟨w5.heap.size + 1, 0, none⟩ = some (.int .i64 (z1)) := oz.c 0 rfl
      have cz1 : World.cell? w9 ⟨w5.heap.size + 1, 1, none⟩ = some (.int .i64 (z2)) := oz.c 1 rfl
      have fz := oz.fr
      have lz := oz.lt
      have op := np
      clear np
      have cp0 : World.cell? w9 ⟨w6.heap.size, 0, none⟩ = some (.int .i64 (p1)) := op.c 0 rfl
      have cp1 : World.cell? w9 ⟨w6.heap.size, 1, none⟩ = some (.int .i64 (r1)) := op.c 1 rfl
      have fp := op.fr
      have lp := op.lt
      have oq := nq
      clear nq
      have cq0 : World.cell? w9 ⟨w7.heap.size, 0, none⟩ = some (.int .i64 (s0)) := oq.c 0 rfl
      have cq1 : World.cell? w9 ⟨w7.heap.size, 1, none⟩ = some (.int .i64 (t0)) := oq.c 1 rfl
      have fq := oq.fr
      have lq := oq.lt
      clear f12
      go_upto_region 12 with fail
      go_cut [133, 21, 23] (fun sc _ _ wx => sc = .bool false ∧ Blk wx (w.heap.size) 23 #[.int .i64 (a), .int .i64 (b)] ∧ Blk wx (w.heap.size + 1) 23 #[.int .i64 (c), .int .i64 (d)] ∧ Blk wx (w5.heap.size) 23 #[.int .i64 (x1), .int .i64 (x2)] ∧ Blk wx (w5.heap.size + 1) 23 #[.int .i64 (z1), .int .i64 (z2)] ∧ Blk wx (w6.heap.size) 23 #[.int .i64 (p1), .int .i64 (r1)] ∧ Blk wx (w7.heap.size) 23 #[.int .i64 (s1), .int .i64 (t1)] ∧ Below w.heap.size w wx)
      case first => as_aux_lemma =>
        rcases S1'.out with h1 | ⟨h1, h2, h3, h4⟩
        all_goals (go_wp2_with fail)
        all_goals ((go_meet; exact ⟨by first | rfl | (rw [decide_eq_false (show ¬ s1 < p1 by omega), decide_eq_false (show ¬ r1 < t1 by omega)]; rfl), ownB, ownB, ownB, ownB, ownB, ownB, belowB⟩))
      case rest => as_aux_lemma =>
        clear S1' B oa ob ox oz op oq ca0 ca1 fa la cb0 cb1 fb lb cx0 cx1 fx lx cz0 cz1 fz lz cp0 cp1 fp lp cq0 cq1 fq lq
        obtain ⟨rfl, oa, ob, ox, oz, op, oq, B⟩ := hcut
        have ca0 : World.cell? _ ⟨w.heap.size, 0, none⟩ = some (.int .i64 (a)) := oa.c 0 rfl
        have ca1 : World.cell? _ ⟨w.heap.size, 1, none⟩ = some (.int .i64 (b)) := oa.c 1 rfl
        have fa := oa.fr
        have la := oa.lt
        have cb0 : World.cell? _ ⟨w.heap.size + 1, 0, none⟩ = some (.int .i64 (c)) := ob.c 0 rfl
        have cb1 : World.cell? _ ⟨w.heap.size + 1, 1, none⟩ = some (.int .i64 (d)) := ob.c 1 rfl
        have fb := ob.fr
        have lb := ob.lt
        have cx0 : World.cell? _ ⟨w5.heap.size, 0, none⟩ = some (.int .i64 (x1)) := ox.c 0 rfl
        have cx1 : World.cell? _ ⟨w5.heap.size, 1, none⟩ = some (.int .i64 (x2)) := ox.c 1 rfl
        have fx := ox.fr
        have lx := ox.lt
        have cz0 : World.cell? _ ⟨w5.heap.size + 1, 0, none⟩ = some (.int .i64 (z1)) := oz.c 0 rfl
        have cz1 : World.cell? _ ⟨w5.heap.size + 1, 1, none⟩ = some (.int .i64 (z2)) := oz.c 1 rfl
        have fz := oz.fr
        have lz := oz.lt
        have cp0 : World.cell? _ ⟨w6.heap.size, 0, none⟩ = some (.int .i64 (p1)) := op.c 0 rfl
        have cp1 : World.cell? _ ⟨w6.heap.size, 1, none⟩ = some (.int .i64 (r1)) := op.c 1 rfl
        have fp := op.fr
        have lp := op.lt
        have cq0 : World.cell? _ ⟨w7.heap.size, 0, none⟩ = some (.int .i64 (s1)) := oq.c 0 rfl
        have cq1 : World.cell? _ ⟨w7.heap.size, 1, none⟩ = some (.int .i64 (t1)) := oq.c 1 rfl
        have fq := oq.fr
        have lq := oq.lt
        go_wp2_with fail
        refine (f21 _).mono ?_
        rintro e w10 ⟨rfl, hb10⟩
        have st : Steps _ w10 := hb10
        have Bn : Below w.heap.size w w10 := belowA st
        have na : Blk w10 (w.heap.size) 23 #[.int .i64 (a), .int .i64 (b)] := Blk.stepsA st
        have nb : Blk w10 (w.heap.size + 1) 23 #[.int .i64 (c), .int .i64 (d)] := Blk.stepsA st
        have nx : Blk w10 (w5.heap.size) 23 #[.int .i64 (x1), .int .i64 (x2)] := Blk.stepsA st
        have nz : Blk w10 (w5.heap.size + 1) 23 #[.int .i64 (z1), .int .i64 (z2)] := Blk.stepsA st
        have np : Blk w10 (w6.heap.size) 23 #[.int .i64 (p1), .int .i64 (r1)] := Blk.stepsA st
        have nq : Blk w10 (w7.heap.size) 23 #[.int .i64 (s1), .int .i64 (t1)] := Blk.stepsA st
        clear B oa ob ox oz op oq ca0 ca1 fa la cb0 cb1 fb lb cx0 cx1 fx lx cz0 cz1 fz lz cp0 cp1 fp lp cq0 cq1 fq lq
        clear st
        have B := Bn
        clear Bn
        have oa := na
        clear na
        have ca0 : World.cell? w10 ⟨w.heap.size, 0, none⟩ = some (.int .i64 (a)) := oa.c 0 rfl
        have ca1 : World.cell? w10 ⟨w.heap.size, 1, none⟩ = some (.int .i64 (b)) := oa.c 1 rfl
        have fa := oa.fr
        have la := oa.lt
        have ob := nb
        clear nb
        have cb0 : World.cell? w10 ⟨w.heap.size + 1, 0, none⟩ = some (.int .i64 (c)) := ob.c 0 rfl
        have cb1 : World.cell? w10 ⟨w.heap.size + 1, 1, none⟩ = some (.int .i64 (d)) := ob.c 1 rfl
        have fb := ob.fr
        have lb := ob.lt
        have ox := nx
        clear nx
        have cx0 : World.cell? w10 ⟨w5.heap.size, 0, none⟩ = some (.int .i64 (x1)) := ox.c 0 rfl
        have cx1 : World.cell? w10 ⟨w5.heap.size, 1, none⟩ = some (.int .i64 (x2)) := ox.c 1 rfl
        have fx := ox.fr
        have lx := ox.lt
        have oz := nz
        clear nz
        have cz0 : World.cell? w10 ⟨w5.heap.size + 1, 0, none⟩ = some (.int .i64 (z1)) := oz.c 0 rfl
        have cz1 : World.cell? w10 ⟨w5.heap.size + 1, 1, none⟩ = some (.int .i64 (z2)) := oz.c 1 rfl
        have fz := oz.fr
        have lz := oz.lt
        have op := np
        clear np
        have cp0 : World.cell? w10 ⟨w6.heap.size, 0, none⟩ = some (.int .i64 (p1)) := op.c 0 rfl
        have cp1 : World.cell? w10 ⟨w6.heap.size, 1, none⟩ = some (.int .i64 (r1)) := op.c 1 rfl
        have fp := op.fr
        have lp := op.lt
        have oq := nq
        clear nq
        have cq0 : World.cell? w10 ⟨w7.heap.size, 0, none⟩ = some (.int .i64 (s1)) := oq.c 0 rfl
        have cq1 : World.cell? w10 ⟨w7.heap.size, 1, none⟩ = some (.int .i64 (t1)) := oq.c 1 rfl
        have fq := oq.fr
        have lq := oq.lt
        clear f21
        go_wp2_with fail
        refine (f22 _).mono ?_
        rintro e w11 ⟨rfl, hb11⟩
        have st : Steps _ w11 := hb11
        have Bn : Below w.heap.size w w11 := belowA st
        have na : Blk w11 (w.heap.size) 23 #[.int .i64 (a), .int .i64 (b)] := Blk.stepsA st
        have nb : Blk w11 (w.heap.size + 1) 23 #[.int .i64 (c), .int .i64 (d)] := Blk.stepsA st
        have nx : Blk w11 (w5.heap.size) 23 #[.int .i64 (x1), .int .i64 (x2)] := Blk.stepsA st
        have nz : Blk w11 (w5.heap.size + 1) 23 #[.int .i64 (z1), .int .i64 (z2)] := Blk.stepsA st
        have np : Blk w11 (w6.heap.size) 23 #[.int .i64 (p2), .int .i64 (r2)] := Blk.stepsA st
        have nq : Blk w11 (w7.heap.size) 23 #[.int .i64 (s1), .int .i64 (t1)] := Blk.stepsA st
        clear B oa ob ox oz op oq ca0 ca1 fa la cb0 cb1 fb lb cx0 cx1 fx lx cz0 cz1 fz lz cp0 cp1 fp lp cq0 cq1 fq lq
        clear st
        have B := Bn
        clear Bn
        have oa := na
        clear na
        have ca0 : World.cell? w11 ⟨w.heap.size, 0, none⟩ = some (.int .i64 (a)) := oa.c 0 rfl
        have ca1 : World.cell? w11 ⟨w.heap.size, 1, none⟩ = some (.int .i64 (b)) := oa.c 1 rfl
        have fa := oa.fr
        have la := oa.lt
        have ob := nb
        clear nb
        have cb0 : World.cell? w11 ⟨w.heap.size + 1, 0, none⟩ = some (.int .i64 (c)) := ob.c 0 rfl
        have cb1 : World.cell? w11 ⟨w.heap.size + 1, 1, none⟩ = some (.int .i64 (d)) := ob.c 1 rfl
        have fb := ob.fr
        have lb := ob.lt
        have ox := nx
        clear nx
        have cx0 : World.cell? w11 ⟨w5.heap.size, 0, none⟩ = some (.int .i64 (x1)) := ox.c 0 rfl
        have cx1 : World.cell? w11 ⟨w5.heap.size, 1, none⟩ = some (.int .i64 (x2)) := ox.c 1 rfl
        have fx := ox.fr
        have lx := ox.lt
        have oz := nz
        clear nz
        have cz0 : World.cell? w11 ⟨w5.heap.size + 1, 0, none⟩ = some (.int .i64 (z1)) := oz.c 0 rfl
        have cz1 : World.cell? w11 ⟨w5.heap.size + 1, 1, none⟩ = some (.int .i64 (z2)) := oz.c 1 rfl
        have fz := oz.fr
        have lz := oz.lt
        have op := np
        clear np
        have cp0 : World.cell? w11 ⟨w6.heap.size, 0, none⟩ = some (.int .i64 (p2)) := op.c 0 rfl
        have cp1 : World.cell? w11 ⟨w6.heap.size, 1, none⟩ = some (.int .i64 (r2)) := op.c 1 rfl
        have fp := op.fr
        have lp := op.lt
        have oq := nq
        clear nq
        have cq0 : World.cell? w11 ⟨w7.heap.size, 0, none⟩ = some (.int .i64 (s1)) := oq.c 0 rfl
        have cq1 : World.cell? w11 ⟨w7.heap.size, 1, none⟩ = some (.int .i64 (t1)) := oq.c 1 rfl
        have fq := oq.fr
        have lq := oq.lt
        clear f22
        go_upto_region 16 with fail
        go_cut [163, 21, 23] (fun sc _ _ wx => sc = .bool false ∧ Blk wx (w.heap.size) 23 #[.int .i64 (a), .int .i64 (b)] ∧ Blk wx (w.heap.size + 1) 23 #[.int .i64 (c), .int .i64 (d)] ∧ Blk wx (w5.heap.size) 23 #[.int .i64 (x1), .int .i64 (x2)] ∧ Blk wx (w5.heap.size + 1) 23 #[.int .i64 (z1), .int .i64 (z2)] ∧ Blk wx (w6.heap.size) 23 #[.int .i64 (p2), .int .i64 (r2)] ∧ Blk wx (w7.heap.size) 23 #[.int .i64 (s2), .int .i64 (t2)] ∧ Below w.heap.size w wx)
        case first => as_aux_lemma =>
          rcases S2'.out with h1 | ⟨h1, h2, h3, h4⟩
          all_goals (go_wp2_with fail)
          all_goals ((go_meet; exact ⟨by first | rfl | (rw [decide_eq_false (show ¬ s2 < p2 by omega), decide_eq_false (show ¬ r2 < t2 by omega)]; rfl), ownB, ownB, ownB, ownB, ownB, ownB, belowB⟩))
        case rest => as_aux_lemma =>
          clear S2' B oa ob ox oz op oq ca0 ca1 fa la cb0 cb1 fb lb cx0 cx1 fx lx cz0 cz1 fz lz cp0 cp1 fp lp cq0 cq1 fq lq
          obtain ⟨rfl, oa, ob, ox, oz, op, oq, B⟩ := hcut
          have ca0 : World.cell? _ ⟨w.heap.size, 0, none⟩ = some (.int .i64 (a)) := oa.c 0 rfl
          have ca1 : World.cell? _ ⟨w.heap.size, 1, none⟩ = some (.int .i64 (b)) := oa.c 1 rfl
          have fa := oa.fr
          have la := oa.lt
          have cb0 : World.cell? _ ⟨w.heap.size + 1, 0, none⟩ = some (.int .i64 (c)) := ob.c 0 rfl
          have cb1 : World.cell? _ ⟨w.heap.size + 1, 1, none⟩ = some (.int .i64 (d)) := ob.c 1 rfl
          have fb := ob.fr
          have lb := ob.lt
          have cx0 : World.cell? _ ⟨w5.heap.size, 0, none⟩ = some (.int .i64 (x1)) := ox.c 0 rfl
          have cx1 : World.cell? _ ⟨w5.heap.size, 1, none⟩ = some (.int .i64 (x2)) := ox.c 1 rfl
          have fx := ox.fr
          have lx := ox.lt
          have cz0 : World.cell? _ ⟨w5.heap.size + 1, 0, none⟩ = some (.int .i64 (z1)) := oz.c 0 rfl
          have cz1 : World.cell? _ ⟨w5.heap.size + 1, 1, none⟩ = some (.int .i64 (z2)) := oz.c 1 rfl
          have fz := oz.fr
          have lz := oz.lt
          have cp0 : World.cell? _ ⟨w6.heap.size, 0, none⟩ = some (.int .i64 (p2)) := op.c 0 rfl
          have cp1 : World.cell? _ ⟨w6.heap.size, 1, none⟩ = some (.int .i64 (r2)) := op.c 1 rfl
          have fp := op.fr
          have lp := op.lt
          have cq0 : World.cell? _ ⟨w7.heap.size, 0, none⟩ = some (.int .i64 (s2)) := oq.c 0 rfl
          have cq1 : World.cell? _ ⟨w7.heap.size, 1, none⟩ = some (.int .i64 (t2)) := oq.c 1 rfl
          have fq := oq.fr
          have lq := oq.lt
          go_wp2_with fail
          refine (f31 _).mono ?_
          rintro e w12 ⟨rfl, hb12⟩
          have st : Steps _ w12 := hb12
          have Bn : Below w.heap.size w w12 := belowA st
          have na : Blk w12 (w.heap.size) 23 #[.int .i64 (a), .int .i64 (b)] := Blk.stepsA st
          have nb : Blk w12 (w.heap.size + 1) 23 #[.int .i64 (c), .int .i64 (d)] := Blk.stepsA st
          have nx : Blk w12 (w5.heap.size) 23 #[.int .i64 (x1), .int .i64 (x2)] := Blk.stepsA st
          have nz : Blk w12 (w5.heap.size + 1) 23 #[.int .i64 (z1), .int .i64 (z2)] := Blk.stepsA st
          have np : Blk w12 (w6.heap.size) 23 #[.int .i64 (p2), .int .i64 (r2)] := Blk.stepsA st
          have nq : Blk w12 (w7.heap.size) 23 #[.int .i64 (s2), .int .i64 (t2)] := Blk.stepsA st
          clear B oa ob ox oz op oq ca0 ca1 fa la cb0 cb1 fb lb cx0 cx1 fx lx cz0 cz1 fz lz cp0 cp1 fp lp cq0 cq1 fq lq
          clear st
          have B := Bn
          clear Bn
          have oa := na
          clear na
          have ca0 : World.cell? w12 ⟨w.heap.size, 0, none⟩ = some (.int .i64 (a)) := oa.c 0 rfl
          have ca1 : World.cell? w12 ⟨w.heap.size, 1, none⟩ = some (.int .i64 (b)) := oa.c 1 rfl
          have fa := oa.fr
          have la := oa.lt
          have ob := nb
          clear nb
          have cb0 : World.cell? w12 ⟨w.heap.size + 1, 0, none⟩ = some (.int .i64 (c)) := ob.c 0 rfl
          have cb1 : World.cell? w12 ⟨w.heap.size + 1, 1, none⟩ = some (.int .i64 (d)) := ob.c 1 rfl
          have fb := ob.fr
          have lb := ob.lt
          have ox := nx
          clear nx
          have cx0 : World.cell? w12 ⟨w5.heap.size, 0, none⟩ = some (.int .i64 (x1)) := ox.c 0 rfl
          have cx1 : World.cell? w12 ⟨w5.heap.size, 1, none⟩ = some (.int .i64 (x2)) := ox.c 1 rfl
          have fx := ox.fr
          have lx := ox.lt
          have oz := nz
          clear nz
          have cz0 : World.cell? w12 ⟨w5.heap.size + 1, 0, none⟩ = some (.int .i64 (z1)) := oz.c 0 rfl
          have cz1 : World.cell? w12 ⟨w5.heap.size + 1, 1, none⟩ = some (.int .i64 (z2)) := oz.c 1 rfl
          have fz := oz.fr
          have lz := oz.lt
          have op := np
          clear np
          have cp0 : World.cell? w12 ⟨w6.heap.size, 0, none⟩ = some (.int .i64 (p2)) := op.c 0 rfl
          have cp1 : World.cell? w12 ⟨w6.heap.size, 1, none⟩ = some (.int .i64 (r2)) := op.c 1 rfl
          have fp := op.fr
          have lp := op.lt
          have oq := nq
          clear nq
          have cq0 : World.cell? w12 ⟨w7.heap.size, 0, none⟩ = some (.int .i64 (s2)) := oq.c 0 rfl
          have cq1 : World.cell? w12 ⟨w7.heap.size, 1, none⟩ = some (.int .i64 (t2)) := oq.c 1 rfl
          have fq := oq.fr
          have lq := oq.lt
          clear f31
          go_wp2_with fail
          refine (f32 _).mono ?_
          rintro e w13 ⟨rfl, hb13⟩
          have st : Steps _ w13 := hb13
          have Bn : Below w.heap.size w w13 := belowA st
          have na : Blk w13 (w.heap.size) 23 #[.int .i64 (a), .int .i64 (b)] := Blk.stepsA st
          have nb : Blk w13 (w.heap.size + 1) 23 #[.int .i64 (c), .int .i64 (d)] := Blk.stepsA st
          have nx : Blk w13 (w5.heap.size) 23 #[.int .i64 (x1), .int .i64 (x2)] := Blk.stepsA st
          have nz : Blk w13 (w5.heap.size + 1) 23 #[.int .i64 (z1), .int .i64 (z2)] := Blk.stepsA st
          have np : Blk w13 (w6.heap.size) 23 #[.int .i64 (p3), .int .i64 (r3)] := Blk.stepsA st
          have nq : Blk w13 (w7.heap.size) 23 #[.int .i64 (s2), .int .i64 (t2)] := Blk.stepsA st
          clear B oa ob ox oz op oq ca0 ca1 fa la cb0 cb1 fb lb cx0 cx1 fx lx cz0 cz1 fz lz cp0 cp1 fp lp cq0 cq1 fq lq
          clear st
          have B := Bn
          clear Bn
          have oa := na
          clear na
          have ca0 : World.cell? w13 ⟨w.heap.size, 0, none⟩ = some (.int .i64 (a)) := oa.c 0 rfl
          have ca1 : World.cell? w13 ⟨w.heap.size, 1, none⟩ = some (.int .i64 (b)) := oa.c 1 rfl
          have fa := oa.fr
          have la := oa.lt
          have ob := nb
          clear nb
          have cb0 : World.cell? w13 ⟨w.heap.size + 1, 0, none⟩ = some (.int .i64 (c)) := ob.c 0 rfl
          have cb1 : World.cell? w13 ⟨w.heap.size + 1, 1, none⟩ = some (.int .i64 (d)) := ob.c 1 rfl
          have fb := ob.fr
          have lb := ob.lt
          have ox := nx
          clear nx
          have cx0 : World.cell? w13 ⟨w5.heap.size, 0, none⟩ = some (.int .i64 (x1)) := ox.c 0 rfl
          have cx1 : World.cell? w13 ⟨w5.heap.size, 1, none⟩ = some (.int .i64 (x2)) := ox.c 1 rfl
          have fx := ox.fr
          have lx := ox.lt
          have oz := nz
          clear nz
          have cz0 : World.cell? w13 ⟨w5.heap.size + 1, 0, none⟩ = some (.int .i64 (z1)) := oz.c 0 rfl
          have cz1 : World.cell? w13 ⟨w5.heap.size + 1, 1, none⟩ = some (.int .i64 (z2)) := oz.c 1 rfl
          have fz := oz.fr
          have lz := oz.lt
          have op := np
          clear np
          have cp0 : World.cell? w13 ⟨w6.heap.size, 0, none⟩ = some (.int .i64 (p3)) := op.c 0 rfl
          have cp1 : World.cell? w13 ⟨w6.heap.size, 1, none⟩ = some (.int .i64 (r3)) := op.c 1 rfl
          have fp := op.fr
          have lp := op.lt
          have oq := nq
          clear nq
          have cq0 : World.cell? w13 ⟨w7.heap.size, 0, none⟩ = some (.int .i64 (s2)) := oq.c 0 rfl
          have cq1 : World.cell? w13 ⟨w7.heap.size, 1, none⟩ = some (.int .i64 (t2)) := oq.c 1 rfl
          have fq := oq.fr
          have lq := oq.lt
          clear f32
          go_upto_region 20 with fail
          go_cut [195, 21, 23] (fun sc _ _ wx => sc = .bool false ∧ Blk wx (w.heap.size) 23 #[.int .i64 (a), .int .i64 (b)] ∧ Blk wx (w.heap.size + 1) 23 #[.int .i64 (c), .int .i64 (d)] ∧ Blk wx (w5.heap.size) 23 #[.int .i64 (x1), .int .i64 (x2)] ∧ Blk wx (w5.heap.size + 1) 23 #[.int .i64 (z1), .int .i64 (z2)] ∧ Blk wx (w6.heap.size) 23 #[.int .i64 (p3), .int .i64 (r3)] ∧ Blk wx (w7.heap.size) 23 #[.int .i64 (s3), .int .i64 (t3)] ∧ Below w.heap.size w wx)
          case first => as_aux_lemma =>
            rcases S3'.out with h1 | ⟨h1, h2, h3, h4⟩
            all_goals (go_wp2_with fail)
            all_goals ((go_meet; exact ⟨by first | rfl | (rw [decide_eq_false (show ¬ s3 < p3 by omega), decide_eq_false (show ¬ r3 < t3 by omega)]; rfl), ownB, ownB, ownB, ownB, ownB, ownB, belowB⟩))
          case rest => as_aux_lemma =>
            clear S3' B oa ob ox oz op oq ca0 ca1 fa la cb0 cb1 fb lb cx0 cx1 fx lx cz0 cz1 fz lz cp0 cp1 fp lp cq0 cq1 fq lq
            obtain ⟨rfl, oa, ob, ox, oz, op, oq, B⟩ := hcut
            have ca0 : World.cell? _ ⟨w.heap.size, 0, none⟩ = some (.int .i64 (a)) := oa.c 0 rfl
            have ca1 : World.cell? _ ⟨w.heap.size, 1, none⟩ = some (.int .i64 (b)) := oa.c 1 rfl
            have fa := oa.fr
            have la := oa.lt
            have cb0 : World.cell? _ ⟨w.heap.size + 1, 0, none⟩ = some (.int .i64 (c)) := ob.c 0 rfl
            have cb1 : World.cell? _ ⟨w.heap.size + 1, 1, none⟩ = some (.int .i64 (d)) := ob.c 1 rfl
            have fb := ob.fr
            have lb := ob.lt
            have cx0 : World.cell? _ ⟨w5.heap.size, 0, none⟩ = some (.int .i64 (x1)) := ox.c 0 rfl
            have cx1 : World.cell? _ ⟨w5.heap.size, 1, none⟩ = some (.int .i64 (x2)) := ox.c 1 rfl
            have fx := ox.fr
            have lx := ox.lt
            have cz0 : World.cell? _ ⟨w5.heap.size + 1, 0, none⟩ = some (.int .i64 (z1)) := oz.c 0 rfl
            have cz1 : World.cell? _ ⟨w5.heap.size + 1, 1, none⟩ = some (.int .i64 (z2)) := oz.c 1 rfl
            have fz := oz.fr
            have lz := oz.lt
            have cp0 : World.cell? _ ⟨w6.heap.size, 0, none⟩ = some (.int .i64 (p3)) := op.c 0 rfl
            have cp1 : World.cell? _ ⟨w6.heap.size, 1, none⟩ = some (.int .i64 (r3)) := op.c 1 rfl
            have fp := op.fr
            have lp := op.lt
            have cq0 : World.cell? _ ⟨w7.heap.size, 0, none⟩ = some (.int .i64 (s3)) := oq.c 0 rfl
            have cq1 : World.cell? _ ⟨w7.heap.size, 1, none⟩ = some (.int .i64 (t3)) := oq.c 1 rfl
            have fq := oq.fr
            have lq := oq.lt
            go_wp2_with fail
            refine (j1 _).mono ?_
            rintro e w14 ⟨rfl, hb14⟩
            have st : Steps _ w14 := hb14
            have Bn : Below w.heap.size w w14 := belowA st
            have na : Blk w14 (w.heap.size) 23 #[.int .i64 (a), .int .i64 (b)] := Blk.stepsA st
            have nb : Blk w14 (w.heap.size + 1) 23 #[.int .i64 (c), .int .i64 (d)] := Blk.stepsA st
            have nx : Blk w14 (w5.heap.size) 23 #[.int .i64 (x1), .int .i64 (x2)] := Blk.stepsA st
            have nz : Blk w14 (w5.heap.size + 1) 23 #[.int .i64 (z1), .int .i64 (z2)] := Blk.stepsA st
            have np : Blk w14 (w6.heap.size) 23 #[.int .i64 (p3), .int .i64 (r3)] := Blk.stepsA st
            have nq : Blk w14 (w7.heap.size) 23 #[.int .i64 (s3), .int .i64 (t3)] := Blk.stepsA st
            clear B oa ob ox oz op oq ca0 ca1 fa la cb0 cb1 fb lb cx0 cx1 fx lx cz0 cz1 fz lz cp0 cp1 fp lp cq0 cq1 fq lq
            clear st
            have B := Bn
            clear Bn
            have oa := na
            clear na
            have ca0 : World.cell? w14 ⟨w.heap.size, 0, none⟩ = some (.int .i64 (a)) := oa.c 0 rfl
            have ca1 : World.cell? w14 ⟨w.heap.size, 1, none⟩ = some (.int .i64 (b)) := oa.c 1 rfl
            have fa := oa.fr
            have la := oa.lt
            have ob := nb
            clear nb
            have cb0 : World.cell? w14 ⟨w.heap.size + 1, 0, none⟩ = some (.int .i64 (c)) := ob.c 0 rfl
            have cb1 : World.cell? w14 ⟨w.heap.size + 1, 1, none⟩ = some (.int .i64 (d)) := ob.c 1 rfl
            have fb := ob.fr
            have lb := ob.lt
            have ox := nx
            clear nx
            have cx0 : World.cell? w14 ⟨w5.heap.size, 0, none⟩ = some (.int .i64 (x1)) := ox.c 0 rfl
            have cx1 : World.cell? w14 ⟨w5.heap.size, 1, none⟩ = some (.int .i64 (x2)) := ox.c 1 rfl
            have fx := ox.fr
            have lx := ox.lt
            have oz := nz
            clear nz
            have cz0 : World.cell? w14 ⟨w5.heap.size + 1, 0, none⟩ = some (.int .i64 (z1)) := oz.c 0 rfl
            have cz1 : World.cell? w14 ⟨w5.heap.size + 1, 1, none⟩ = some (.int .i64 (z2)) := oz.c 1 rfl
            have fz := oz.fr
            have lz := oz.lt
            have op := np
            clear np
            have cp0 : World.cell? w14 ⟨w6.heap.size, 0, none⟩ = some (.int .i64 (p3)) := op.c 0 rfl
            have cp1 : World.cell? w14 ⟨w6.heap.size, 1, none⟩ = some (.int .i64 (r3)) := op.c 1 rfl
            have fp := op.fr
            have lp := op.lt
            have oq := nq
            clear nq
            have cq0 : World.cell? w14 ⟨w7.heap.size, 0, none⟩ = some (.int .i64 (s3)) := oq.c 0 rfl
            have cq1 : World.cell? w14 ⟨w7.heap.size, 1, none⟩ = some (.int .i64 (t3)) := oq.c 1 rfl
            have fq := oq.fr
            have lq := oq.lt
            clear j1
            go_wp2_with fail
            refine (j2 _).mono ?_
            rintro e w15 ⟨rfl, hb15⟩
            have st : Steps _ w15 := hb15
            have Bn : Below w.heap.size w w15 := belowA st
            have na : Blk w15 (w.heap.size) 23 #[.int .i64 (a), .int .i64 (b)] := Blk.stepsA st
            have nb : Blk w15 (w.heap.size + 1) 23 #[.int .i64 (c), .int .i64 (d)] := Blk.stepsA st
            have nx : Blk w15 (w5.heap.size) 23 #[.int .i64 (x1), .int .i64 (x2)] := Blk.stepsA st
            have nz : Blk w15 (w5.heap.size + 1) 23 #[.int .i64 (z1), .int .i64 (z2)] := Blk.stepsA st
            have np : Blk w15 (w6.heap.size) 23 #[.int .i64 (p3), .int .i64 (r3)] := Blk.stepsA st
            have nq : Blk w15 (w7.heap.size) 23 #[.int .i64 (s3), .int .i64 (t3)] := Blk.stepsA st
            clear B oa ob ox oz op oq ca0 ca1 fa la cb0 cb1 fb lb cx0 cx1 fx lx cz0 cz1 fz lz cp0 cp1 fp lp cq0 cq1 fq lq
            clear st
            have B := Bn
            clear Bn
            have oa := na
            clear na
            have ca0 : World.cell? w15 ⟨w.heap.size, 0, none⟩ = some (.int .i64 (a)) := oa.c 0 rfl
            have ca1 : World.cell? w15 ⟨w.heap.size, 1, none⟩ = some (.int .i64 (b)) := oa.c 1 rfl
            have fa := oa.fr
            have la := oa.lt
            have ob := nb
            clear nb
            have cb0 : World.cell? w15 ⟨w.heap.size + 1, 0, none⟩ = some (.int .i64 (c)) := ob.c 0 rfl
            have cb1 : World.cell? w15 ⟨w.heap.size + 1, 1, none⟩ = some (.int .i64 (d)) := ob.c 1 rfl
            have fb := ob.fr
            have lb := ob.lt
            have ox := nx
            clear nx
            have cx0 : World.cell? w15 ⟨w5.heap.size, 0, none⟩ = some (.int .i64 (x1)) := ox.c 0 rfl
            have cx1 : World.cell? w15 ⟨w5.heap.size, 1, none⟩ = some (.int .i64 (x2)) := ox.c 1 rfl
            have fx := ox.fr
            have lx := ox.lt
            have oz := nz
            clear nz
            have cz0 : World.cell? w15 ⟨w5.heap.size + 1, 0, none⟩ = some (.int .i64 (z1)) := oz.c 0 rfl
            have cz1 : World.cell? w15 ⟨w5.heap.size + 1, 1, none⟩ = some (.int .i64 (z2)) := oz.c 1 rfl
            have fz := oz.fr
            have lz := oz.lt
            have op := np
            clear np
            have cp0 : World.cell? w15 ⟨w6.heap.size, 0, none⟩ = some (.int .i64 (p3)) := op.c 0 rfl
            have cp1 : World.cell? w15 ⟨w6.heap.size, 1, none⟩ = some (.int .i64 (r3)) := op.c 1 rfl
            have fp := op.fr
            have lp := op.lt
            have oq := nq
            clear nq
            have cq0 : World.cell? w15 ⟨w7.heap.size, 0, none⟩ = some (.int .i64 (s3)) := oq.c 0 rfl
            have cq1 : World.cell? w15 ⟨w7.heap.size, 1, none⟩ = some (.int .i64 (t3)) := oq.c 1 rfl
            have fq := oq.fr
            have lq := oq.lt
            clear j2
            go_wp2_with fail
            refine (j3 _).mono ?_
            rintro e w16 ⟨rfl, hb16⟩
            have st : Steps _ w16 := hb16
            have Bn : Below w.heap.size w w16 := belowA st
            have na : Blk w16 (w.heap.size) 23 #[.int .i64 (a), .int .i64 (b)] := Blk.stepsA st
            have nb : Blk w16 (w.heap.size + 1) 23 #[.int .i64 (c), .int .i64 (d)] := Blk.stepsA st
            have nx : Blk w16 (w5.heap.size) 23 #[.int .i64 (x1), .int .i64 (x2)] := Blk.stepsA st
            have nz : Blk w16 (w5.heap.size + 1) 23 #[.int .i64 (z1), .int .i64 (z2)] := Blk.stepsA st
            have np : Blk w16 (w6.heap.size) 23 #[.int .i64 (p3), .int .i64 (r3)] := Blk.stepsA st
            have nq : Blk w16 (w7.heap.size) 23 #[.int .i64 (s3), .int .i64 (t3)] := Blk.stepsA st
            have nm : Blk w16 (w15.heap.size) 23 #[.int .i64 (x1), .int .i64 (x2)] := Blk.stepsA st
            clear B oa ob ox oz op oq ca0 ca1 fa la cb0 cb1 fb lb cx0 cx1 fx lx cz0 cz1 fz lz cp0 cp1 fp lp cq0 cq1 fq lq
            clear st
            have B := Bn
            clear Bn
            have oa := na
            clear na
            have ca0 : World.cell? w16 ⟨w.heap.size, 0, none⟩ = some (.int .i64 (a)) := oa.c 0 rfl
            have ca1 : World.cell? w16 ⟨w.heap.size, 1, none⟩ = some (.int .i64 (b)) := oa.c 1 rfl
            have fa := oa.fr
            have la := oa.lt
            have ob := nb
            clear nb
            have cb0 : World.cell? w16 ⟨w.heap.size + 1, 0, none⟩ = some (.int .i64 (c)) := ob.c 0 rfl
            have cb1 : World.cell? w16 ⟨w.heap.size + 1, 1, none⟩ = some (.int .i64 (d)) := ob.c 1 rfl
            have fb := ob.fr
            have lb := ob.lt
            have ox := nx
            clear nx
            have cx0 : World.cell? w16 ⟨w5.heap.size, 0, none⟩ = some (.int .i64 (x1)) := ox.c 0 rfl
            have cx1 : World.cell? w16 ⟨w5.heap.size, 1, none⟩ = some (.int .i64 (x2)) := ox.c 1 rfl
            have fx := ox.fr
            have lx := ox.lt
            have oz := nz
            clear nz
            have cz0 : World.cell? w16 ⟨w5.heap.size + 1, 0, none⟩ = some (.int .i64 (z1)) := oz.c 0 rfl
            have cz1 : World.cell? w16 ⟨w5.heap.size + 1, 1, none⟩ = some (.int .i64 (z2)) := oz.c 1 rfl
            have fz := oz.fr
            have lz := oz.lt
            have op := np
            clear np
            have cp0 : World.cell? w16 ⟨w6.heap.size, 0, none⟩ = some (.int .i64 (p3)) := op.c 0 rfl
            have cp1 : World.cell? w16 ⟨w6.heap.size, 1, none⟩ = some (.int .i64 (r3)) := op.c 1 rfl
            have fp := op.fr
            have lp := op.lt
            have oq := nq
            clear nq
            have cq0 : World.cell? w16 ⟨w7.heap.size, 0, none⟩ = some (.int .i64 (s3)) := oq.c 0 rfl
            have cq1 : World.cell? w16 ⟨w7.heap.size, 1, none⟩ = some (.int .i64 (t3)) := oq.c 1 rfl
            have fq := oq.fr
            have lq := oq.lt
            have om := nm
            clear nm
            have cm0 : World.cell? w16 ⟨w15.heap.size, 0, none⟩ = some (.int .i64 (x1)) := om.c 0 rfl
            have cm1 : World.cell? w16 ⟨w15.heap.size, 1, none⟩ = some (.int .i64 (x2)) := om.c 1 rfl
            have fm := om.fr
            have lm := om.lt
            clear j3
            go_wp2
            go_returns
            exact ⟨rfl, belowB⟩
end Go.Proofs.Ytalnlnpnacfdfaa
