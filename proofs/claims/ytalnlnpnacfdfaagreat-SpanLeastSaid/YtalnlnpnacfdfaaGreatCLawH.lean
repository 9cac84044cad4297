import Derived.Test.YtalnlnpnacfdfaaGreatCHoldsM
import Derived.Test.YtalnlnpnacfdfaaGreatCAlive
import Derived.Test.YtalnlnpnacfdfaaGreatCPartsM
import Derived.Deep.QuietTactic
import Derived.BigQuiet
import Derived.Deep.DeepCutAuto
import Derived.Deep.CutBlock
namespace Go.Proofs.YtalnlnpnacfdfaaGreat
open Go.RowKit
instance (s : Int) (r : Rat) : Decidable (ND s r) := by unfold ND; infer_instance
instance (s : Int) (r : Rat) : Decidable (NU s r) := by unfold NU; infer_instance
theorem lnear_nd (en : Int) {v : Value} {r : Rat} {k : Nat} (w : World) (hv : FR w v r) (hr : sz r k) (hk : k ≤ 4000) (e0 : -9223372036854775808 ≤ en) (e1 : en ≤ 9223372036854775807) :
    Calls Tryz.prog 22 #[.int .i64 en, v, .bool false] w fun e w' => e = .returned (.bool (decide (ND en r))) ∧ Steps w w' := lnear_down en w hv hr hk e0 e1
theorem lnear_nu (en : Int) {v : Value} {r : Rat} {k : Nat} (w : World) (hv : FR w v r) (hr : sz r k) (hk : k ≤ 4000) (e0 : -9223372036854775808 ≤ en) (e1 : en ≤ 9223372036854775807) :
    Calls Tryz.prog 22 #[.int .i64 en, v, .bool true] w fun e w' => e = .returned (.bool (decide (NU en r))) ∧ Steps w w' := lnear_up en w hv hr hk e0 e1
theorem rofQ (x y : Int) (w : World) (x0 : -9223372036854775808 ≤ x) (x1 : x ≤ 9223372036854775807) (y0 : -9223372036854775808 ≤ y) (y1 : y ≤ 9223372036854775807) (hy : y ≠ 0) :
    Calls Tryz.prog 23 #[.int .i64 x, .int .i64 y] w fun e w' => ∃ v, e = .returned (.tuple #[v, .int .i64 0]) ∧ FR w' v ((x : Rat) / (y : Rat)) ∧ Steps w w' := by
  refine (rof x y w x0 x1 y0 y1 hy).mono ?_
  rintro e w' ⟨v, rfl, h1, h2⟩
  exact ⟨v, rfl, FR.of_rd hy h1, h2⟩
theorem or4 {a b c d : Prop} [Decidable a] [Decidable b] [Decidable c] [Decidable d] (h : a ∨ b ∨ c ∨ d) : ((((false || decide a) || decide b) || decide c) || decide d) = true := by
  simp only [Bool.false_or, Bool.or_eq_true, decide_eq_true_eq]
  rcases h with h | h | h | h <;> simp [h]
theorem nzB {n : Nat} {x : Int} (h : n = 0 ↔ unitQ x = 0) : decide (0 < n) = !(x == 0) := by
  rw [unit_eq_zero] at h
  by_cases g : x = 0
  · obtain rfl := h.2 g; subst g; rfl
  · have : n ≠ 0 := fun e => g (h.1 e)
    rw [decide_eq_true (show 0 < n by omega), show (x == 0) = false from by simpa using g]; rfl
set_option maxHeartbeats 6400000 in
set_option maxRecDepth 1000000 in
theorem least_bad (a b c d num den : Int) (w : World) (hv : ¬ (V a b ∧ V c d)) : Calls Tryz.prog 4 #[.agg #[.int .i64 a, .int .i64 b], .agg #[.int .i64 c, .int .i64 d], .int .i64 num, .int .i64 den] w fun e w' => e = .returned (.bool true) ∧ Below w.heap.size w w' := by
  by_cases h1 : V a b
  · have E1 : errV (V a b) = 0 := if_pos h1
    have E2 : errV (V c d) = 8 := if_neg (fun h => hv ⟨h1, h⟩)
    have k1 := fun w' => rcheck3 a b w'
    have k2 := fun w' => rcheck3 c d w'
    rw [E1] at k1
    rw [E2] at k2
    clear E1 E2 h1 hv
    go_enter Tryz.func4, Tryz.ntmps4
    go_wp2_with fail
    refine (lalive _).mono ?_
    rintro e w1 ⟨rfl, hb1⟩
    have st : Steps _ w1 := hb1
    have Bn : Below w.heap.size w w1 := belowA st
    have na : Blk w1 (w.heap.size) 23 #[.int .i64 (a), .int .i64 (b)] := Blk.stepsK st
    have nb : Blk w1 (w.heap.size + 1) 23 #[.int .i64 (c), .int .i64 (d)] := Blk.stepsK st
    clear st
    have B := Bn
    clear Bn
    have oa := na
    clear na
    have ca0 := oa.q0
    have ca1 := oa.q1
    have fa := oa.fr
    have la := oa.lt
    have ob := nb
    clear nb
    have cb0 := ob.q0
    have cb1 := ob.q1
    have fb := ob.fr
    have lb := ob.lt
    go_wp2_with fail
    refine (k1 _).mono ?_
    rintro e w2 ⟨rfl, hb2⟩
    have st : Steps _ w2 := hb2
    have Bn : Below w.heap.size w w2 := belowA st
    have na := oa.stp st
    have nb := ob.stp st
    clear B oa ob ca0 ca1 fa la cb0 cb1 fb lb
    clear st
    have B := Bn
    clear Bn
    have oa := na
    clear na
    have ca0 := oa.q0
    have ca1 := oa.q1
    have fa := oa.fr
    have la := oa.lt
    have ob := nb
    clear nb
    have cb0 := ob.q0
    have cb1 := ob.q1
    have fb := ob.fr
    have lb := ob.lt
    go_wp2_with fail
    refine (k2 _).mono ?_
    rintro e w3 ⟨rfl, hb3⟩
    have st : Steps _ w3 := hb3
    have Bn : Below w.heap.size w w3 := belowA st
    have na := oa.stp st
    have nb := ob.stp st
    clear B oa ob ca0 ca1 fa la cb0 cb1 fb lb
    clear st
    have B := Bn
    clear Bn
    have oa := na
    clear na
    have ca0 := oa.q0
    have ca1 := oa.q1
    have fa := oa.fr
    have la := oa.lt
    have ob := nb
    clear nb
    have cb0 := ob.q0
    have cb1 := ob.q1
    have fb := ob.fr
    have lb := ob.lt
    go_wp2
    go_returns
    exact ⟨rfl, belowB⟩
  · have E1 : errV (V a b) = 8 := if_neg h1
    have k1 := fun w' => rcheck3 a b w'
    rw [E1] at k1
    clear E1 h1 hv
    go_enter Tryz.func4, Tryz.ntmps4
    go_wp2_with fail
    refine (lalive _).mono ?_
    rintro e w1 ⟨rfl, hb1⟩
    have st : Steps _ w1 := hb1
    have Bn : Below w.heap.size w w1 := belowA st
    have na : Blk w1 (w.heap.size) 23 #[.int .i64 (a), .int .i64 (b)] := Blk.stepsK st
    have nb : Blk w1 (w.heap.size + 1) 23 #[.int .i64 (c), .int .i64 (d)] := Blk.stepsK st
    clear st
    have B := Bn
    clear Bn
    have oa := na
    clear na
    have ca0 := oa.q0
    have ca1 := oa.q1
    have fa := oa.fr
    have la := oa.lt
    have ob := nb
    clear nb
    have cb0 := ob.q0
    have cb1 := ob.q1
    have fb := ob.fr
    have lb := ob.lt
    go_wp2_with fail
    refine (k1 _).mono ?_
    rintro e w2 ⟨rfl, hb2⟩
    have st : Steps _ w2 := hb2
    have Bn : Below w.heap.size w w2 := belowA st
    have na := oa.stp st
    have nb := ob.stp st
    clear B oa ob ca0 ca1 fa la cb0 cb1 fb lb
    clear st
    have B := Bn
    clear Bn
    have oa := na
    clear na
    have ca0 := oa.q0
    have ca1 := oa.q1
    have fa := oa.fr
    have la := oa.lt
    have ob := nb
    clear nb
    have cb0 := ob.q0
    have cb1 := ob.q1
    have fb := ob.fr
    have lb := ob.lt
    go_wp2
    go_returns
    exact ⟨rfl, belowB⟩
theorem ext_b {T : Int × Int × Int} (h : -9223372036854775808 ≤ T.1 ∧ T.1 ≤ 9223372036854775807 ∧ -9223372036854775808 ≤ T.2.1 ∧ T.2.1 ≤ 9223372036854775807) {x y z : Int} (e : T = (x, y, z)) : -9223372036854775808 ≤ x ∧ x ≤ 9223372036854775807 ∧ -9223372036854775808 ≤ y ∧ y ≤ 9223372036854775807 := by subst e; exact h
theorem md_bb {x y : Int} (h : x ≤ y) : -9223372036854775808 ≤ (md x y).1 ∧ (md x y).1 ≤ 9223372036854775807 ∧ -9223372036854775808 ≤ (md x y).2.1 ∧ (md x y).2.1 ≤ 9223372036854775807 := by
  unfold md; split <;> (dsimp only; omega)
theorem mulS_bb {a b c d : Int} (v1 : V a b) (v2 : V c d) : -9223372036854775808 ≤ (mulS a b c d).1 ∧ (mulS a b c d).1 ≤ 9223372036854775807 ∧ -9223372036854775808 ≤ (mulS a b c d).2.1 ∧ (mulS a b c d).2.1 ≤ 9223372036854775807 := by
  rw [show mulS a b c d = mulV a b c d from if_pos ⟨v1, v2⟩]
  exact md_bb (dn_le_upq (by decide) (by unfold mn mx; omega))
theorem divQ_bb {a b c d : Int} (h : a ≤ b) (hc : 0 < c) : -9223372036854775808 ≤ (divQ a b c d).1 ∧ (divQ a b c d).1 ≤ 9223372036854775807 ∧ -9223372036854775808 ≤ (divQ a b c d).2.1 ∧ (divQ a b c d).2.1 ≤ 9223372036854775807 := by
  have g1 := dn_le_upq (d := c) hc (show a * 1099511627776 ≤ b * 1099511627776 by omega)
  exact md_bb (Int.le_trans (Int.min_le_left _ _) (Int.le_trans g1 (Int.le_max_left _ _)))
theorem divS_bb {a b c d : Int} (v1 : V a b) (v2 : V c d) : -9223372036854775808 ≤ (divS a b c d).1 ∧ (divS a b c d).1 ≤ 9223372036854775807 ∧ -9223372036854775808 ≤ (divS a b c d).2.1 ∧ (divS a b c d).2.1 ≤ 9223372036854775807 := by
  rw [show divS a b c d = divV a b c d from if_pos ⟨v1, v2⟩]
  unfold divV
  unfold V at v1 v2
  split
  · dsimp only; omega
  · split
    · exact divQ_bb (by omega) (by omega)
    · exact divQ_bb v1.1 (by omega)
theorem scaleS_bb {a b num den : Int} (v1 : V a b) : -9223372036854775808 ≤ (scaleS a b num den).1 ∧ (scaleS a b num den).1 ≤ 9223372036854775807 ∧ -9223372036854775808 ≤ (scaleS a b num den).2.1 ∧ (scaleS a b num den).2.1 ≤ 9223372036854775807 := by
  rw [show scaleS a b num den = scaleV a b num den from if_pos v1]
  unfold scaleV
  split
  · dsimp only; omega
  · split
    · exact md_bb (dn_le_upq (by omega) (by unfold mn mx; omega))
    · exact md_bb (dn_le_upq (by omega) (by unfold mn mx; omega))
set_option maxHeartbeats 100000000 in
set_option maxRecDepth 1000000 in
theorem least_ok (a b c d num den : Int) (w : World) (v1 : V a b) (v2 : V c d) (n0 : -9223372036854775808 ≤ num) (n1 : num ≤ 9223372036854775807) (d0 : -9223372036854775808 ≤ den) (d1 : den ≤ 9223372036854775807) :
    Calls Tryz.prog 4 #[.agg #[.int .i64 a, .int .i64 b], .agg #[.int .i64 c, .int .i64 d], .int .i64 num, .int .i64 den] w fun e w' => e = .returned (.bool true) ∧ Below w.heap.size w w' := by
  have ck1 : ∀ w', Calls Tryz.prog 6 #[.agg #[.int .i64 a, .int .i64 b]] w' fun e w2 => e = .returned (.int .i64 0) ∧ Below w'.heap.size w' w2 := fun w' => by have := rcheck3 a b w'; rwa [show errV (V a b) = 0 from if_pos v1] at this
  have ck2 : ∀ w', Calls Tryz.prog 6 #[.agg #[.int .i64 c, .int .i64 d]] w' fun e w2 => e = .returned (.int .i64 0) ∧ Below w'.heap.size w' w2 := fun w' => by have := rcheck3 c d w'; rwa [show errV (V c d) = 0 from if_pos v2] at this
  have f0 := fun w' => mul_p a b c d w'
  have f1 := fun w' => div_p a b c d w'
  have f2 := fun w' => scale_p a b num den w' n0 n1 d0 d1
  have M0 := mul_least v1 v2
  have M1 := div_least v1 v2
  have M2 := scale_least (num := num) (den := den) v1
  have b0 := mulS_bb v1 v2
  have b1 := divS_bb v1 v2
  have b2 := scaleS_bb (num := num) (den := den) v1
  obtain ⟨⟨p0, q0, e0⟩, hT⟩ : ∃ T, mulS a b c d = T := ⟨_, rfl⟩
  rw [hT] at f0 M0 b0
  obtain ⟨⟨p1, q1, e1⟩, hT1⟩ : ∃ T, divS a b c d = T := ⟨_, rfl⟩
  rw [hT1] at f1 M1 b1
  obtain ⟨⟨p2, q2, e2⟩, hT2⟩ : ∃ T, scaleS a b num den = T := ⟨_, rfl⟩
  rw [hT2] at f2 M2 b2
  dsimp only at M0 M1 M2 b0 b1 b2
  have ba : -9223372036854775808 ≤ a ∧ a ≤ 9223372036854775807 := by unfold V at v1; omega
  have bb : -9223372036854775808 ≤ b ∧ b ≤ 9223372036854775807 := by unfold V at v1; omega
  have bc : -9223372036854775808 ≤ c ∧ c ≤ 9223372036854775807 := by unfold V at v2; omega
  have bd : -9223372036854775808 ≤ d ∧ d ≤ 9223372036854775807 := by unfold V at v2; omega
  have sa := sz_unit ba.1 (by omega)
  have sb := sz_unit bb.1 (by omega)
  have sc := sz_unit bc.1 (by omega)
  have sd := sz_unit bd.1 (by omega)
  have na := fun w' => lnumber a w' ba.1 ba.2
  have nb := fun w' => lnumber b w' bb.1 bb.2
  have nc := fun w' => lnumber c w' bc.1 bc.2
  have nd := fun w' => lnumber d w' bd.1 bd.2
  have Z0 : Hid ((e0 == 0) = true → ((((false || decide (ND p0 (unitQ a * unitQ c))) || decide (ND p0 (unitQ a * unitQ d))) || decide (ND p0 (unitQ b * unitQ c))) || decide (ND p0 (unitQ b * unitQ d))) = true ∧ ((((false || decide (NU q0 (unitQ a * unitQ c))) || decide (NU q0 (unitQ a * unitQ d))) || decide (NU q0 (unitQ b * unitQ c))) || decide (NU q0 (unitQ b * unitQ d))) = true) := fun h => ⟨or4 (M0 (by simpa using h)).1, or4 (M0 (by simpa using h)).2⟩
  have Z1 : Hid ((e1 == 0) = true → ((((false || (!(c == 0) && decide (ND p1 (unitQ a / unitQ c)))) || (!(d == 0) && decide (ND p1 (unitQ a / unitQ d)))) || (!(c == 0) && decide (ND p1 (unitQ b / unitQ c)))) || (!(d == 0) && decide (ND p1 (unitQ b / unitQ d)))) = true ∧ ((((false || (!(c == 0) && decide (NU q1 (unitQ a / unitQ c)))) || (!(d == 0) && decide (NU q1 (unitQ a / unitQ d)))) || (!(c == 0) && decide (NU q1 (unitQ b / unitQ c)))) || (!(d == 0) && decide (NU q1 (unitQ b / unitQ d)))) = true) := fun h => by
    obtain ⟨hc, hd, h1, h2⟩ := M1 (by simpa using h)
    have ec : (!(c == 0)) = true := by simp [hc]
    have ed : (!(d == 0)) = true := by simp [hd]
    rw [ec, ed]
    simp only [Bool.true_and]
    exact ⟨or4 h1, or4 h2⟩
  have Z2 : Hid ((e2 == 0) = true → den ≠ 0 ∧ LeastEnds (p2, q2, e2) (unitQ a * ((num : Rat) / (den : Rat))) (unitQ b * ((num : Rat) / (den : Rat)))) := fun h => M2 (by simpa using h)
  obtain ⟨zc, hzc⟩ : ∃ q_, (c == 0) = q_ := ⟨_, rfl⟩
  obtain ⟨zd, hzd⟩ : ∃ q_, (d == 0) = q_ := ⟨_, rfl⟩
  rw [hzc, hzd] at Z1
  obtain ⟨L0, hL0⟩ : ∃ q_, decide (ND p0 (unitQ a * unitQ c)) = q_ := ⟨_, rfl⟩
  have cL0 : ∀ w' v, FR w' v (unitQ a * unitQ c) → Calls Tryz.prog 22 #[.int .i64 p0, v, .bool false] w' fun e w2 => e = .returned (.bool L0) ∧ Steps w' w2 := fun w' v hv => by rw [← hL0]; exact lnear_nd p0 w' hv (sa.mul sc) (by omega) b0.1 b0.2.1
  rw [hL0] at Z0
  obtain ⟨H0, hH0⟩ : ∃ q_, decide (NU q0 (unitQ a * unitQ c)) = q_ := ⟨_, rfl⟩
  have cH0 : ∀ w' v, FR w' v (unitQ a * unitQ c) → Calls Tryz.prog 22 #[.int .i64 q0, v, .bool true] w' fun e w2 => e = .returned (.bool H0) ∧ Steps w' w2 := fun w' v hv => by rw [← hH0]; exact lnear_nu q0 w' hv (sa.mul sc) (by omega) b0.2.2.1 b0.2.2.2
  rw [hH0] at Z0
  obtain ⟨S0, hS0⟩ : ∃ q_, decide (ND p1 (unitQ a / unitQ c)) = q_ := ⟨_, rfl⟩
  have cS0 : c ≠ 0 → ∀ w' v, FR w' v (unitQ a / unitQ c) → Calls Tryz.prog 22 #[.int .i64 p1, v, .bool false] w' fun e w2 => e = .returned (.bool S0) ∧ Steps w' w2 := fun hnz w' v hv => by rw [← hS0]; exact lnear_nd p1 w' hv (sa.div sc (unit_ne hnz)) (by omega) b1.1 b1.2.1
  rw [hS0] at Z1
  obtain ⟨R0, hR0⟩ : ∃ q_, decide (NU q1 (unitQ a / unitQ c)) = q_ := ⟨_, rfl⟩
  have cR0 : c ≠ 0 → ∀ w' v, FR w' v (unitQ a / unitQ c) → Calls Tryz.prog 22 #[.int .i64 q1, v, .bool true] w' fun e w2 => e = .returned (.bool R0) ∧ Steps w' w2 := fun hnz w' v hv => by rw [← hR0]; exact lnear_nu q1 w' hv (sa.div sc (unit_ne hnz)) (by omega) b1.2.2.1 b1.2.2.2
  rw [hR0] at Z1
  obtain ⟨L1, hL1⟩ : ∃ q_, decide (ND p0 (unitQ a * unitQ d)) = q_ := ⟨_, rfl⟩
  have cL1 : ∀ w' v, FR w' v (unitQ a * unitQ d) → Calls Tryz.prog 22 #[.int .i64 p0, v, .bool false] w' fun e w2 => e = .returned (.bool L1) ∧ Steps w' w2 := fun w' v hv => by rw [← hL1]; exact lnear_nd p0 w' hv (sa.mul sd) (by omega) b0.1 b0.2.1
  rw [hL1] at Z0
  obtain ⟨H1, hH1⟩ : ∃ q_, decide (NU q0 (unitQ a * unitQ d)) = q_ := ⟨_, rfl⟩
  have cH1 : ∀ w' v, FR w' v (unitQ a * unitQ d) → Calls Tryz.prog 22 #[.int .i64 q0, v, .bool true] w' fun e w2 => e = .returned (.bool H1) ∧ Steps w' w2 := fun w' v hv => by rw [← hH1]; exact lnear_nu q0 w' hv (sa.mul sd) (by omega) b0.2.2.1 b0.2.2.2
  rw [hH1] at Z0
  obtain ⟨S1, hS1⟩ : ∃ q_, decide (ND p1 (unitQ a / unitQ d)) = q_ := ⟨_, rfl⟩
  have cS1 : d ≠ 0 → ∀ w' v, FR w' v (unitQ a / unitQ d) → Calls Tryz.prog 22 #[.int .i64 p1, v, .bool false] w' fun e w2 => e = .returned (.bool S1) ∧ Steps w' w2 := fun hnz w' v hv => by rw [← hS1]; exact lnear_nd p1 w' hv (sa.div sd (unit_ne hnz)) (by omega) b1.1 b1.2.1
  rw [hS1] at Z1
  obtain ⟨R1, hR1⟩ : ∃ q_, decide (NU q1 (unitQ a / unitQ d)) = q_ := ⟨_, rfl⟩
  have cR1 : d ≠ 0 → ∀ w' v, FR w' v (unitQ a / unitQ d) → Calls Tryz.prog 22 #[.int .i64 q1, v, .bool true] w' fun e w2 => e = .returned (.bool R1) ∧ Steps w' w2 := fun hnz w' v hv => by rw [← hR1]; exact lnear_nu q1 w' hv (sa.div sd (unit_ne hnz)) (by omega) b1.2.2.1 b1.2.2.2
  rw [hR1] at Z1
  obtain ⟨L2, hL2⟩ : ∃ q_, decide (ND p0 (unitQ b * unitQ c)) = q_ := ⟨_, rfl⟩
  have cL2 : ∀ w' v, FR w' v (unitQ b * unitQ c) → Calls Tryz.prog 22 #[.int .i64 p0, v, .bool false] w' fun e w2 => e = .returned (.bool L2) ∧ Steps w' w2 := fun w' v hv => by rw [← hL2]; exact lnear_nd p0 w' hv (sb.mul sc) (by omega) b0.1 b0.2.1
  rw [hL2] at Z0
  obtain ⟨H2, hH2⟩ : ∃ q_, decide (NU q0 (unitQ b * unitQ c)) = q_ := ⟨_, rfl⟩
  have cH2 : ∀ w' v, FR w' v (unitQ b * unitQ c) → Calls Tryz.prog 22 #[.int .i64 q0, v, .bool true] w' fun e w2 => e = .returned (.bool H2) ∧ Steps w' w2 := fun w' v hv => by rw [← hH2]; exact lnear_nu q0 w' hv (sb.mul sc) (by omega) b0.2.2.1 b0.2.2.2
  rw [hH2] at Z0
  obtain ⟨S2, hS2⟩ : ∃ q_, decide (ND p1 (unitQ b / unitQ c)) = q_ := ⟨_, rfl⟩
  have cS2 : c ≠ 0 → ∀ w' v, FR w' v (unitQ b / unitQ c) → Calls Tryz.prog 22 #[.int .i64 p1, v, .bool false] w' fun e w2 => e = .returned (.bool S2) ∧ Steps w' w2 := fun hnz w' v hv => by rw [← hS2]; exact lnear_nd p1 w' hv (sb.div sc (unit_ne hnz)) (by omega) b1.1 b1.2.1
  rw [hS2] at Z1
  obtain ⟨R2, hR2⟩ : ∃ q_, decide (NU q1 (unitQ b / unitQ c)) = q_ := ⟨_, rfl⟩
  have cR2 : c ≠ 0 → ∀ w' v, FR w' v (unitQ b / unitQ c) → Calls Tryz.prog 22 #[.int .i64 q1, v, .bool true] w' fun e w2 => e = .returned (.bool R2) ∧ Steps w' w2 := fun hnz w' v hv => by rw [← hR2]; exact lnear_nu q1 w' hv (sb.div sc (unit_ne hnz)) (by omega) b1.2.2.1 b1.2.2.2
  rw [hR2] at Z1
  obtain ⟨L3, hL3⟩ : ∃ q_, decide (ND p0 (unitQ b * unitQ d)) = q_ := ⟨_, rfl⟩
  have cL3 : ∀ w' v, FR w' v (unitQ b * unitQ d) → Calls Tryz.prog 22 #[.int .i64 p0, v, .bool false] w' fun e w2 => e = .returned (.bool L3) ∧ Steps w' w2 := fun w' v hv => by rw [← hL3]; exact lnear_nd p0 w' hv (sb.mul sd) (by omega) b0.1 b0.2.1
  rw [hL3] at Z0
  obtain ⟨H3, hH3⟩ : ∃ q_, decide (NU q0 (unitQ b * unitQ d)) = q_ := ⟨_, rfl⟩
  have cH3 : ∀ w' v, FR w' v (unitQ b * unitQ d) → Calls Tryz.prog 22 #[.int .i64 q0, v, .bool true] w' fun e w2 => e = .returned (.bool H3) ∧ Steps w' w2 := fun w' v hv => by rw [← hH3]; exact lnear_nu q0 w' hv (sb.mul sd) (by omega) b0.2.2.1 b0.2.2.2
  rw [hH3] at Z0
  obtain ⟨S3, hS3⟩ : ∃ q_, decide (ND p1 (unitQ b / unitQ d)) = q_ := ⟨_, rfl⟩
  have cS3 : d ≠ 0 → ∀ w' v, FR w' v (unitQ b / unitQ d) → Calls Tryz.prog 22 #[.int .i64 p1, v, .bool false] w' fun e w2 => e = .returned (.bool S3) ∧ Steps w' w2 := fun hnz w' v hv => by rw [← hS3]; exact lnear_nd p1 w' hv (sb.div sd (unit_ne hnz)) (by omega) b1.1 b1.2.1
  rw [hS3] at Z1
  obtain ⟨R3, hR3⟩ : ∃ q_, decide (NU q1 (unitQ b / unitQ d)) = q_ := ⟨_, rfl⟩
  have cR3 : d ≠ 0 → ∀ w' v, FR w' v (unitQ b / unitQ d) → Calls Tryz.prog 22 #[.int .i64 q1, v, .bool true] w' fun e w2 => e = .returned (.bool R3) ∧ Steps w' w2 := fun hnz w' v hv => by rw [← hR3]; exact lnear_nu q1 w' hv (sb.div sd (unit_ne hnz)) (by omega) b1.2.2.1 b1.2.2.2
  rw [hR3] at Z1
  clear hL0 hL1 hL2 hL3 hH0 hH1 hH2 hH3 hS0 hS1 hS2 hS3 hR0 hR1 hR2 hR3
  clear M0 M1 M2 v1 v2 hT hT1 hT2
  go_enter Tryz.func4, Tryz.ntmps4
  go_wp2_with fail
  refine (lalive _).mono ?_
  rintro e w1 ⟨rfl, hb1⟩
  have st : Steps _ w1 := hb1
  have B : Below w.heap.size w w1 := belowA st
  have na : Blk w1 (w.heap.size) 23 #[.int .i64 (a), .int .i64 (b)] := Blk.stepsK st
  have nb : Blk w1 (w.heap.size + 1) 23 #[.int .i64 (c), .int .i64 (d)] := Blk.stepsK st
  have oa := na
  clear na
  have ob := nb
  clear nb
  clear st
  have ca0 := oa.q0
  have ca1 := oa.q1
  have la := oa.lt
  have lb := ob.lt
  go_wp2_with fail
  refine (ck1 _).mono ?_
  rintro e w2 ⟨rfl, hb2⟩
  have st : Steps _ w2 := hb2
  have sk : Below w1.heap.size w1 w2 := belowA st
  replace B := below_steps B (Nat.le_refl _) sk
  replace oa := oa.steps sk
  replace ob := ob.steps sk
  clear st sk ca0 ca1 la lb
  have la := oa.lt
  have cb0 := ob.q0
  have cb1 := ob.q1
  have lb := ob.lt
  clear ck1
  go_wp2_with fail
  refine (ck2 _).mono ?_
  rintro e w3 ⟨rfl, hb3⟩
  have st : Steps _ w3 := hb3
  have sk : Below w2.heap.size w2 w3 := belowA st
  replace B := below_steps B (Nat.le_refl _) sk
  replace oa := oa.steps sk
  replace ob := ob.steps sk
  clear st sk la cb0 cb1 lb
  have ca0 := oa.q0
  have ca1 := oa.q1
  have la := oa.lt
  have cb0 := ob.q0
  have cb1 := ob.q1
  have lb := ob.lt
  clear ck2
  go_wp2_with fail
  refine (f0 _).mono ?_
  rintro e w4 ⟨rfl, hb4⟩
  have st : Steps _ w4 := hb4
  have sk : Below w3.heap.size w3 w4 := belowA st
  replace B := below_steps B (Nat.le_refl _) sk
  replace oa := oa.steps sk
  replace ob := ob.steps sk
  clear st sk ca0 ca1 la cb0 cb1 lb
  have ca0 := oa.q0
  have ca1 := oa.q1
  have la := oa.lt
  have cb0 := ob.q0
  have cb1 := ob.q1
  have lb := ob.lt
  clear f0
  have zb_4 : w.heap.size + 1 < w4.heap.size := ob.lt
  have zz4 := B.size
  go_wp2_with fail
  refine (f1 _).mono ?_
  rintro e w5 ⟨rfl, hb5⟩
  have st : Steps _ w5 := hb5
  have sk : Below w4.heap.size w4 w5 := belowA st
  replace B := below_steps B (Nat.le_refl _) sk
  have op : Blk w5 (w4.heap.size) 23 #[.int .i64 (p0), .int .i64 (q0)] := Blk.stepsK st
  replace oa := oa.steps sk
  replace ob := ob.steps sk
  clear st sk ca0 ca1 la cb0 cb1 lb
  have ca0 := oa.q0
  have ca1 := oa.q1
  have la := oa.lt
  have lb := ob.lt
  clear f1
  have zp_5 : w4.heap.size < w5.heap.size := op.lt
  have zz5 := B.size
  go_wp2_with fail
  refine (f2 _).mono ?_
  rintro e w6 ⟨rfl, hb6⟩
  have st : Steps _ w6 := hb6
  have sk : Below w5.heap.size w5 w6 := belowA st
  replace B := below_steps B (Nat.le_refl _) sk
  have oq : Blk w6 (w5.heap.size) 23 #[.int .i64 (p1), .int .i64 (q1)] := Blk.stepsK st
  replace oa := oa.steps sk
  replace ob := ob.steps sk
  replace op := op.steps sk
  clear st sk ca0 ca1 la lb
  have ca0 := oa.q0
  have ca1 := oa.q1
  have la := oa.lt
  have cb0 := ob.q0
  have cb1 := ob.q1
  have lb := ob.lt
  clear f2
  have zq_6 : w5.heap.size < w6.heap.size := oq.lt
  have zz6 := B.size
  go_upto_region 7 with fail
  refine Reg.wp_chain_n (fun N0 D v W => Below w.heap.size w W ∧ Keeps w6 W ∧ N0 ≤ W.heap.size ∧ Blk W (w.heap.size) 23 #[.int .i64 (a), .int .i64 (b)] ∧ Blk W (w.heap.size + 1) 23 #[.int .i64 (c), .int .i64 (d)] ∧ Blk W (w4.heap.size) 23 #[.int .i64 (p0), .int .i64 (q0)] ∧ Blk W (w5.heap.size) 23 #[.int .i64 (p1), .int .i64 (q1)] ∧ Blk W (w6.heap.size) 23 #[.int .i64 (p2), .int .i64 (q2)] ∧ (D 13 = true → ∃ g : Nat, v 13 = .pointer (some ⟨g, 0, none⟩) ∧ N0 ≤ g ∧ g < W.heap.size ∧ (D 14 = false → Blk W g 45 #[.bool false, .slice none 0 0, .bool false, .slice none 0 0, .bool false, .slice none 0 0, .bool false, .slice none 0 0, .bool false, .slice none 0 0, .bool false, .slice none 0 0, .bool false, .slice none 0 0, .bool false, .slice none 0 0]) ∧ (D 14 = true → D 2 = true ∧ D 5 = true ∧ D 8 = true ∧ D 11 = true ∧ ∃ k_2 k_5 k_8 k_11 : Array Value, v 2 = .agg k_2 ∧ v 5 = .agg k_5 ∧ v 8 = .agg k_8 ∧ v 11 = .agg k_11 ∧ Blk W g 45 (Reg.cat [k_2, k_5, k_8, k_11]))))
    (Reg.inl [2, 5, 8, 11, 13, 14]) (Reg.gv [(2, IsFr), (5, IsFr), (8, IsFr), (11, IsFr), (13, IsPtr)]) (gw [(2, GFr (unitQ a)), (5, GFr (unitQ b)), (8, GFr (unitQ c)), (11, GFr (unitQ d))]) (fun _ => Keeps) (fun _ _ => False) (Reg.pl [(14, [(2, some 70), (5, some 73), (8, some 76), (11, some 79), (13, some 16)]), (15, [(2, some 70), (5, some 73), (8, some 76), (11, some 79), (13, some 16)])]) (Reg.pl [(13, [14]), (2, [14]), (5, [14]), (8, [14]), (11, [14])])
    (by kernel_rfl) (by kernel_rfl) (by kernel_rfl) (Reg.gv_some _ (by intro p hp; simp only [List.mem_cons, List.not_mem_nil, or_false] at hp; rcases hp with rfl | rfl | rfl | rfl | rfl <;> first | exact ⟨_, rfl⟩ | exact ⟨_, 0, rfl⟩ | exact ⟨_, none, 0, 0, rfl⟩ | exact ⟨_, false, none, 0, 0, rfl⟩ | exact ⟨_, false, none, 0, 0, false, none, 0, 0, rfl⟩)) (fun N0 hN0 => ⟨fun v => ?_, fun D v v' W hv hj => ?_, fun D v k j W W' x _ _ _ _ hk hg => gw_keeps _ (by intro p hp; simp only [List.mem_cons, List.not_mem_nil, or_false] at hp; rcases hp with rfl | rfl | rfl | rfl <;> first | exact GFr.keeps | exact GFrE.keeps | exact GNu.keeps | exact GNuE.keeps | exact GLi.keeps) hk hg, fun _ _ _ _ h => h.elim, fun ops' Q' hops hQ => ?_⟩)
  · exact ⟨belowB, keepsB, Nat.le_of_eq hN0.out, ownK, ownK, ownK, ownK, ownK, (fun h => Bool.noConfusion h)⟩
  · obtain ⟨j0, jk, jn, b_a, b_b, b_p, b_q, b_s, a_13⟩ := hj
    exact ⟨j0, jk, jn, b_a, b_b, b_p, b_q, b_s, fun h => by obtain ⟨g, e1, e2, e3, e4, e5⟩ := a_13 h; exact ⟨g, (hv 13 h) ▸ e1, e2, e3, e4, fun h => by obtain ⟨d_2, d_5, d_8, d_11, k_2, k_5, k_8, k_11, w_2, w_5, w_8, w_11, hb⟩ := e5 h; exact ⟨d_2, d_5, d_8, d_11, k_2, k_5, k_8, k_11, (hv 2 d_2) ▸ w_2, (hv 5 d_5) ▸ w_5, (hv 8 d_8) ▸ w_8, (hv 11 d_11) ▸ w_11, hb⟩⟩⟩
  have i_a : w.heap.size < N0 := by have e := hN0.out; (try simp only [World.size_alloc, World.size_setCell, World.size_drew, World.heap_drewN] at e); first | omega | (have h := oa.lt; omega)
  have i_b : w.heap.size + 1 < N0 := by have e := hN0.out; (try simp only [World.size_alloc, World.size_setCell, World.size_drew, World.heap_drewN] at e); first | omega | (have h := ob.lt; omega)
  have i_p : w4.heap.size < N0 := by have e := hN0.out; (try simp only [World.size_alloc, World.size_setCell, World.size_drew, World.heap_drewN] at e); first | omega | (have h := op.lt; omega)
  have i_q : w5.heap.size < N0 := by have e := hN0.out; (try simp only [World.size_alloc, World.size_setCell, World.size_drew, World.heap_drewN] at e); first | omega | (have h := oq.lt; omega)
  have i_s : w6.heap.size < N0 := by have e := hN0.out; (try simp only [World.size_alloc, World.size_setCell, World.size_drew, World.heap_drewN] at e); first | omega | (have h := os.lt; omega)
  have iw : w.heap.size ≤ N0 := by have e := hN0.out; (try simp only [World.size_alloc, World.size_setCell, World.size_drew, World.heap_drewN] at e); first | omega | (have h := B.size; omega)
  clear ca0 ca1 la cb0 cb1 lb
  clear hN0
  apply Reg.RC_pure (hc := rfl) (hst := rfl) (hw := rfl) (t := 68) (hd := rfl) (ht := Nat.le_of_ble_eq_true rfl)
  · intro D v' W' hc hj hf K hK
    go_step
    exact hK.out
  · rfl
  apply Reg.RC_pure (hc := rfl) (hst := rfl) (hw := rfl) (t := 69) (hd := rfl) (ht := Nat.le_of_ble_eq_true rfl)
  · intro D v' W' hc hj hf K hK
    obtain ⟨j0, jk, jn, b_a, b_b, b_p, b_q, b_s, a_13⟩ := hj
    have c0 : W'.cell? ⟨w.heap.size, 0, none⟩ = some (.int .i64 (a)) := b_a.c 0 rfl
    have c1 : W'.cell? ⟨w.heap.size, 1, none⟩ = some (.int .i64 (b)) := b_a.c 1 rfl
    go_step
    exact hK.out
  · rfl
  refine Reg.RC_call rfl (by intro t ht; cases ht; exact Nat.le_of_ble_eq_true rfl) rfl (fun D v' W' hc hj hf K hK => ?_) ?_
  · obtain ⟨j0, jk, jn, b_a, b_b, b_p, b_q, b_s, a_13⟩ := hj
    clear hf
    go_step
    refine (na W').mono ?_
    rintro e W2 ⟨u, rfl, hu, hs⟩
    obtain ⟨na1, na2, na3, na4, na5, na6, na7, na8, rfl⟩ := hu.shape
    exact hK.out _ W2 (Keeps.steps hs) ⟨below_steps j0 (Nat.le_refl _) hs, jk.then_ hs, Nat.le_trans jn hs.size, b_a.steps hs, b_b.steps hs, b_p.steps hs, b_q.steps hs, b_s.steps hs, fun h => by obtain ⟨g, e1, e2, e3, e4, e5⟩ := a_13 h; exact ⟨g, e1, e2, Nat.lt_of_lt_of_le e3 (hs).size, fun h => (e4 h).steps hs, fun h => Bool.noConfusion ((hc.2 14 (by decide)).symm.trans h)⟩⟩ hu ⟨_, _, _, _, _, _, _, _, rfl⟩
  rintro _ ⟨na1, na2, na3, na4, na5, na6, na7, na8, rfl⟩
  refine Reg.RC_at (b := ⟨#[_,_,_,_,_,_,_,_,_,_,_,_,_,_,_,_,_,_,_,_,_,_,_,_,_,_,_,_,_,_,_,_,_,_,_,_,_,_,_,_,_,_,_,_,_,_,_,_,_,_,_,_,_,_,_,_,_,_,_,_,_,_,_,_,_,_,_,_,_,_,_,_,_,_,_,_,_,_,_,_,_,_,_,_,_,_,_,_,_,_,_,_,_,_,_,_,_,_,_,_,_,_,_,_,_,_,_,_,_,_,_,_,_,_,_,_,_,_,_,_,_,_,_,_,_,_,_,_,_,_,_,_,_,_,_,_,_,_,_,_,_,_,_,_,_,_,_,_,_,_,_,_,_,_,_,_,_,_,_,_,_,_,_,_,_,_,_,_,_,_,_,_,_,_,_,_,_,_,_,_,_,_,_,_,_,_,_,_,_,_,_,_,_,_,_,_,_,_,_,_,_,_,_,_,_,_,_,_,_,_,_,_,_,_,_,_,_,_,_,_], _⟩) rfl ?_
  apply Reg.RC_pure (hc := rfl) (hst := rfl) (hw := rfl) (t := 71) (hd := rfl) (ht := Nat.le_of_ble_eq_true rfl)
  · intro D v' W' hc hj hf K hK
    go_step
    exact hK.out
  · rfl
  apply Reg.RC_pure (hc := rfl) (hst := rfl) (hw := rfl) (t := 72) (hd := rfl) (ht := Nat.le_of_ble_eq_true rfl)
  · intro D v' W' hc hj hf K hK
    obtain ⟨j0, jk, jn, b_a, b_b, b_p, b_q, b_s, a_13⟩ := hj
    have c0 : W'.cell? ⟨w.heap.size, 0, none⟩ = some (.int .i64 (a)) := b_a.c 0 rfl
    have c1 : W'.cell? ⟨w.heap.size, 1, none⟩ = some (.int .i64 (b)) := b_a.c 1 rfl
    go_step
    exact hK.out
  · rfl
  refine Reg.RC_call rfl (by intro t ht; cases ht; exact Nat.le_of_ble_eq_true rfl) rfl (fun D v' W' hc hj hf K hK => ?_) ?_
  · obtain ⟨j0, jk, jn, b_a, b_b, b_p, b_q, b_s, a_13⟩ := hj
    clear hf
    go_step
    refine (nb W').mono ?_
    rintro e W2 ⟨u, rfl, hu, hs⟩
    obtain ⟨nb1, nb2, nb3, nb4, nb5, nb6, nb7, nb8, rfl⟩ := hu.shape
    exact hK.out _ W2 (Keeps.steps hs) ⟨below_steps j0 (Nat.le_refl _) hs, jk.then_ hs, Nat.le_trans jn hs.size, b_a.steps hs, b_b.steps hs, b_p.steps hs, b_q.steps hs, b_s.steps hs, fun h => by obtain ⟨g, e1, e2, e3, e4, e5⟩ := a_13 h; exact ⟨g, e1, e2, Nat.lt_of_lt_of_le e3 (hs).size, fun h => (e4 h).steps hs, fun h => Bool.noConfusion ((hc.2 14 (by decide)).symm.trans h)⟩⟩ hu ⟨_, _, _, _, _, _, _, _, rfl⟩
  rintro _ ⟨nb1, nb2, nb3, nb4, nb5, nb6, nb7, nb8, rfl⟩
  refine Reg.RC_at (b := ⟨#[_,_,_,_,_,_,_,_,_,_,_,_,_,_,_,_,_,_,_,_,_,_,_,_,_,_,_,_,_,_,_,_,_,_,_,_,_,_,_,_,_,_,_,_,_,_,_,_,_,_,_,_,_,_,_,_,_,_,_,_,_,_,_,_,_,_,_,_,_,_,_,_,_,_,_,_,_,_,_,_,_,_,_,_,_,_,_,_,_,_,_,_,_,_,_,_,_,_,_,_,_,_,_,_,_,_,_,_,_,_,_,_,_,_,_,_,_,_,_,_,_,_,_,_,_,_,_,_,_,_,_,_,_,_,_,_,_,_,_,_,_,_,_,_,_,_,_,_,_,_,_,_,_,_,_,_,_,_,_,_,_,_,_,_,_,_,_,_,_,_,_,_,_,_,_,_,_,_,_,_,_,_,_,_,_,_,_,_,_,_,_,_,_,_,_,_,_,_,_,_,_,_,_,_,_,_,_,_,_,_,_,_,_,_,_,_,_,_,_,_], _⟩) rfl ?_
  apply Reg.RC_pure (hc := rfl) (hst := rfl) (hw := rfl) (t := 74) (hd := rfl) (ht := Nat.le_of_ble_eq_true rfl)
  · intro D v' W' hc hj hf K hK
    go_step
    exact hK.out
  · rfl
  apply Reg.RC_pure (hc := rfl) (hst := rfl) (hw := rfl) (t := 75) (hd := rfl) (ht := Nat.le_of_ble_eq_true rfl)
  · intro D v' W' hc hj hf K hK
    obtain ⟨j0, jk, jn, b_a, b_b, b_p, b_q, b_s, a_13⟩ := hj
    have c0 : W'.cell? ⟨w.heap.size + 1, 0, none⟩ = some (.int .i64 (c)) := b_b.c 0 rfl
    have c1 : W'.cell? ⟨w.heap.size + 1, 1, none⟩ = some (.int .i64 (d)) := b_b.c 1 rfl
    go_step
    exact hK.out
  · rfl
  refine Reg.RC_call rfl (by intro t ht; cases ht; exact Nat.le_of_ble_eq_true rfl) rfl (fun D v' W' hc hj hf K hK => ?_) ?_
  · obtain ⟨j0, jk, jn, b_a, b_b, b_p, b_q, b_s, a_13⟩ := hj
    clear hf
    go_step
    refine (nc W').mono ?_
    rintro e W2 ⟨u, rfl, hu, hs⟩
    obtain ⟨nc1, nc2, nc3, nc4, nc5, nc6, nc7, nc8, rfl⟩ := hu.shape
    exact hK.out _ W2 (Keeps.steps hs) ⟨below_steps j0 (Nat.le_refl _) hs, jk.then_ hs, Nat.le_trans jn hs.size, b_a.steps hs, b_b.steps hs, b_p.steps hs, b_q.steps hs, b_s.steps hs, fun h => by obtain ⟨g, e1, e2, e3, e4, e5⟩ := a_13 h; exact ⟨g, e1, e2, Nat.lt_of_lt_of_le e3 (hs).size, fun h => (e4 h).steps hs, fun h => Bool.noConfusion ((hc.2 14 (by decide)).symm.trans h)⟩⟩ hu ⟨_, _, _, _, _, _, _, _, rfl⟩
  rintro _ ⟨nc1, nc2, nc3, nc4, nc5, nc6, nc7, nc8, rfl⟩
  refine Reg.RC_at (b := ⟨#[_,_,_,_,_,_,_,_,_,_,_,_,_,_,_,_,_,_,_,_,_,_,_,_,_,_,_,_,_,_,_,_,_,_,_,_,_,_,_,_,_,_,_,_,_,_,_,_,_,_,_,_,_,_,_,_,_,_,_,_,_,_,_,_,_,_,_,_,_,_,_,_,_,_,_,_,_,_,_,_,_,_,_,_,_,_,_,_,_,_,_,_,_,_,_,_,_,_,_,_,_,_,_,_,_,_,_,_,_,_,_,_,_,_,_,_,_,_,_,_,_,_,_,_,_,_,_,_,_,_,_,_,_,_,_,_,_,_,_,_,_,_,_,_,_,_,_,_,_,_,_,_,_,_,_,_,_,_,_,_,_,_,_,_,_,_,_,_,_,_,_,_,_,_,_,_,_,_,_,_,_,_,_,_,_,_,_,_,_,_,_,_,_,_,_,_,_,_,_,_,_,_,_,_,_,_,_,_,_,_,_,_,_,_,_,_,_,_,_,_], _⟩) rfl ?_
  apply Reg.RC_pure (hc := rfl) (hst := rfl) (hw := rfl) (t := 77) (hd := rfl) (ht := Nat.le_of_ble_eq_true rfl)
  · intro D v' W' hc hj hf K hK
    go_step
    exact hK.out
  · rfl
  apply Reg.RC_pure (hc := rfl) (hst := rfl) (hw := rfl) (t := 78) (hd := rfl) (ht := Nat.le_of_ble_eq_true rfl)
  · intro D v' W' hc hj hf K hK
    obtain ⟨j0, jk, jn, b_a, b_b, b_p, b_q, b_s, a_13⟩ := hj
    have c0 : W'.cell? ⟨w.heap.size + 1, 0, none⟩ = some (.int .i64 (c)) := b_b.c 0 rfl
    have c1 : W'.cell? ⟨w.heap.size + 1, 1, none⟩ = some (.int .i64 (d)) := b_b.c 1 rfl
    go_step
    exact hK.out
  · rfl
  refine Reg.RC_call rfl (by intro t ht; cases ht; exact Nat.le_of_ble_eq_true rfl) rfl (fun D v' W' hc hj hf K hK => ?_) ?_
  · obtain ⟨j0, jk, jn, b_a, b_b, b_p, b_q, b_s, a_13⟩ := hj
    clear hf
    go_step
    refine (nd W').mono ?_
    rintro e W2 ⟨u, rfl, hu, hs⟩
    obtain ⟨nd1, nd2, nd3, nd4, nd5, nd6, nd7, nd8, rfl⟩ := hu.shape
    exact hK.out _ W2 (Keeps.steps hs) ⟨below_steps j0 (Nat.le_refl _) hs, jk.then_ hs, Nat.le_trans jn hs.size, b_a.steps hs, b_b.steps hs, b_p.steps hs, b_q.steps hs, b_s.steps hs, fun h => by obtain ⟨g, e1, e2, e3, e4, e5⟩ := a_13 h; exact ⟨g, e1, e2, Nat.lt_of_lt_of_le e3 (hs).size, fun h => (e4 h).steps hs, fun h => Bool.noConfusion ((hc.2 14 (by decide)).symm.trans h)⟩⟩ hu ⟨_, _, _, _, _, _, _, _, rfl⟩
  rintro _ ⟨nd1, nd2, nd3, nd4, nd5, nd6, nd7, nd8, rfl⟩
  refine Reg.RC_at (b := ⟨#[_,_,_,_,_,_,_,_,_,_,_,_,_,_,_,_,_,_,_,_,_,_,_,_,_,_,_,_,_,_,_,_,_,_,_,_,_,_,_,_,_,_,_,_,_,_,_,_,_,_,_,_,_,_,_,_,_,_,_,_,_,_,_,_,_,_,_,_,_,_,_,_,_,_,_,_,_,_,_,_,_,_,_,_,_,_,_,_,_,_,_,_,_,_,_,_,_,_,_,_,_,_,_,_,_,_,_,_,_,_,_,_,_,_,_,_,_,_,_,_,_,_,_,_,_,_,_,_,_,_,_,_,_,_,_,_,_,_,_,_,_,_,_,_,_,_,_,_,_,_,_,_,_,_,_,_,_,_,_,_,_,_,_,_,_,_,_,_,_,_,_,_,_,_,_,_,_,_,_,_,_,_,_,_,_,_,_,_,_,_,_,_,_,_,_,_,_,_,_,_,_,_,_,_,_,_,_,_,_,_,_,_,_,_,_,_,_,_,_,_], _⟩) rfl ?_
  apply Reg.RC_pure (hc := rfl) (hst := rfl) (hw := rfl) (t := 80) (hd := rfl) (ht := Nat.le_of_ble_eq_true rfl)
  · intro D v' W' hc hj hf K hK
    go_step
    exact hK.out
  · rfl
  refine Reg.RC_call rfl (by intro t ht; cases ht; exact Nat.le_of_ble_eq_true rfl) rfl (fun D v' W' hc hj hf K hK => ?_) ?_
  · obtain ⟨j0, jk, jn, b_a, b_b, b_p, b_q, b_s, a_13⟩ := hj
    go_step
    have hs : ∀ o : Obj, Steps W' (W'.alloc o) := fun o => (Below.refl _ _).alloc (Nat.le_refl _) o
    exact hK.out _ _ (Keeps.steps (hs _)) ⟨below_steps j0 (Nat.le_refl _) (hs _), jk.then_ (hs _), Nat.le_trans jn (hs _).size, b_a.steps (hs _), b_b.steps (hs _), b_p.steps (hs _), b_q.steps (hs _), b_s.steps (hs _), fun _ => ⟨W'.heap.size, rfl, jn, by rw [World.size_alloc]; omega, fun _ => Blk.new _ _ _, fun h => Bool.noConfusion ((hc.2 14 (by decide)).symm.trans h)⟩⟩ trivial ⟨_, rfl⟩
  rintro _ ⟨p16, rfl⟩
  refine Reg.RC_at (b := ⟨#[_,_,_,_,_,_,_,_,_,_,_,_,_,_,_,_,_,_,_,_,_,_,_,_,_,_,_,_,_,_,_,_,_,_,_,_,_,_,_,_,_,_,_,_,_,_,_,_,_,_,_,_,_,_,_,_,_,_,_,_,_,_,_,_,_,_,_,_,_,_,_,_,_,_,_,_,_,_,_,_,_,_,_,_,_,_,_,_,_,_,_,_,_,_,_,_,_,_,_,_,_,_,_,_,_,_,_,_,_,_,_,_,_,_,_,_,_,_,_,_,_,_,_,_,_,_,_,_,_,_,_,_,_,_,_,_,_,_,_,_,_,_,_,_,_,_,_,_,_,_,_,_,_,_,_,_,_,_,_,_,_,_,_,_,_,_,_,_,_,_,_,_,_,_,_,_,_,_,_,_,_,_,_,_,_,_,_,_,_,_,_,_,_,_,_,_,_,_,_,_,_,_,_,_,_,_,_,_,_,_,_,_,_,_,_,_,_,_,_,_], _⟩) rfl ?_
  refine Reg.RC_call rfl (by intro t ht; cases ht) rfl (fun D v' W' hc hj hf K hK => ?_) (fun _ _ => Reg.RC_at (b := ⟨_, _⟩) rfl ?_)
  · obtain ⟨j0, jk, jn, b_a, b_b, b_p, b_q, b_s, a_13⟩ := hj
    have f := hf (13, some 16) (.tail _ (.tail _ (.tail _ (.tail _ (.head _))))) rfl
    have e6 : v' 13 = .pointer (some ⟨p16, 0, none⟩) := f.2.1
    obtain ⟨g, e1, e2, e3, e4, e5⟩ := a_13 f.1
    obtain rfl : p16 = g := Reg.ptr_eq (e6.symm.trans e1)
    have hb := e4 hc.1
    clear e4 e5
    have fc_2 := hf (2, some 70) (.head _) rfl
    have ec_2 : v' 2 = .agg #[.bool na1, .slice na2 na3 na4, .bool na5, .slice na6 na7 na8] := fc_2.2.1
    have fc_5 := hf (5, some 73) (.tail _ (.head _)) rfl
    have ec_5 : v' 5 = .agg #[.bool nb1, .slice nb2 nb3 nb4, .bool nb5, .slice nb6 nb7 nb8] := fc_5.2.1
    have fc_8 := hf (8, some 76) (.tail _ (.tail _ (.head _))) rfl
    have ec_8 : v' 8 = .agg #[.bool nc1, .slice nc2 nc3 nc4, .bool nc5, .slice nc6 nc7 nc8] := fc_8.2.1
    have fc_11 := hf (11, some 79) (.tail _ (.tail _ (.tail _ (.head _)))) rfl
    have ec_11 : v' 11 = .agg #[.bool nd1, .slice nd2 nd3 nd4, .bool nd5, .slice nd6 nd7 nd8] := fc_11.2.1
    have ff := hb.fr
    have cc0 : W'.cell? ⟨p16, 0, none⟩ = some (.bool false) := hb.c 0 rfl
    have cc1 : W'.cell? ⟨p16, 1, none⟩ = some (.slice none 0 0) := hb.c 1 rfl
    have cc2 : W'.cell? ⟨p16, 2, none⟩ = some (.bool false) := hb.c 2 rfl
    have cc3 : W'.cell? ⟨p16, 3, none⟩ = some (.slice none 0 0) := hb.c 3 rfl
    have cc4 : W'.cell? ⟨p16, 4, none⟩ = some (.bool false) := hb.c 4 rfl
    have cc5 : W'.cell? ⟨p16, 5, none⟩ = some (.slice none 0 0) := hb.c 5 rfl
    have cc6 : W'.cell? ⟨p16, 6, none⟩ = some (.bool false) := hb.c 6 rfl
    have cc7 : W'.cell? ⟨p16, 7, none⟩ = some (.slice none 0 0) := hb.c 7 rfl
    have cc8 : W'.cell? ⟨p16, 8, none⟩ = some (.bool false) := hb.c 8 rfl
    have cc9 : W'.cell? ⟨p16, 9, none⟩ = some (.slice none 0 0) := hb.c 9 rfl
    have cc10 : W'.cell? ⟨p16, 10, none⟩ = some (.bool false) := hb.c 10 rfl
    have cc11 : W'.cell? ⟨p16, 11, none⟩ = some (.slice none 0 0) := hb.c 11 rfl
    have cc12 : W'.cell? ⟨p16, 12, none⟩ = some (.bool false) := hb.c 12 rfl
    have cc13 : W'.cell? ⟨p16, 13, none⟩ = some (.slice none 0 0) := hb.c 13 rfl
    have cc14 : W'.cell? ⟨p16, 14, none⟩ = some (.bool false) := hb.c 14 rfl
    have cc15 : W'.cell? ⟨p16, 15, none⟩ = some (.slice none 0 0) := hb.c 15 rfl
    go_step
    exact hK.out undef _ (Keeps.only hb rfl ((Only.refl _ _).set.set.set.set.set.set.set.set.set.set.set.set.set.set.set.set)) ⟨(Below.setCell (p := ⟨p16, 15, none⟩) (Below.setCell (p := ⟨p16, 14, none⟩) (Below.setCell (p := ⟨p16, 13, none⟩) (Below.setCell (p := ⟨p16, 12, none⟩) (Below.setCell (p := ⟨p16, 11, none⟩) (Below.setCell (p := ⟨p16, 10, none⟩) (Below.setCell (p := ⟨p16, 9, none⟩) (Below.setCell (p := ⟨p16, 8, none⟩) (Below.setCell (p := ⟨p16, 7, none⟩) (Below.setCell (p := ⟨p16, 6, none⟩) (Below.setCell (p := ⟨p16, 5, none⟩) (Below.setCell (p := ⟨p16, 4, none⟩) (Below.setCell (p := ⟨p16, 3, none⟩) (Below.setCell (p := ⟨p16, 2, none⟩) (Below.setCell (p := ⟨p16, 1, none⟩) (Below.setCell (p := ⟨p16, 0, none⟩) j0 (by show w.heap.size ≤ p16; omega) _) (by show w.heap.size ≤ p16; omega) _) (by show w.heap.size ≤ p16; omega) _) (by show w.heap.size ≤ p16; omega) _) (by show w.heap.size ≤ p16; omega) _) (by show w.heap.size ≤ p16; omega) _) (by show w.heap.size ≤ p16; omega) _) (by show w.heap.size ≤ p16; omega) _) (by show w.heap.size ≤ p16; omega) _) (by show w.heap.size ≤ p16; omega) _) (by show w.heap.size ≤ p16; omega) _) (by show w.heap.size ≤ p16; omega) _) (by show w.heap.size ≤ p16; omega) _) (by show w.heap.size ≤ p16; omega) _) (by show w.heap.size ≤ p16; omega) _) (by show w.heap.size ≤ p16; omega) _), jk.trans (Keeps.only hb rfl ((Only.refl _ _).set.set.set.set.set.set.set.set.set.set.set.set.set.set.set.set)), by simpa using jn, ((((((((((((((((b_a).far' (show w.heap.size ≠ p16 by omega)).far' (show w.heap.size ≠ p16 by omega)).far' (show w.heap.size ≠ p16 by omega)).far' (show w.heap.size ≠ p16 by omega)).far' (show w.heap.size ≠ p16 by omega)).far' (show w.heap.size ≠ p16 by omega)).far' (show w.heap.size ≠ p16 by omega)).far' (show w.heap.size ≠ p16 by omega)).far' (show w.heap.size ≠ p16 by omega)).far' (show w.heap.size ≠ p16 by omega)).far' (show w.heap.size ≠ p16 by omega)).far' (show w.heap.size ≠ p16 by omega)).far' (show w.heap.size ≠ p16 by omega)).far' (show w.heap.size ≠ p16 by omega)).far' (show w.heap.size ≠ p16 by omega)).far' (show w.heap.size ≠ p16 by omega), ((((((((((((((((b_b).far' (show w.heap.size + 1 ≠ p16 by omega)).far' (show w.heap.size + 1 ≠ p16 by omega)).far' (show w.heap.size + 1 ≠ p16 by omega)).far' (show w.heap.size + 1 ≠ p16 by omega)).far' (show w.heap.size + 1 ≠ p16 by omega)).far' (show w.heap.size + 1 ≠ p16 by omega)).far' (show w.heap.size + 1 ≠ p16 by omega)).far' (show w.heap.size + 1 ≠ p16 by omega)).far' (show w.heap.size + 1 ≠ p16 by omega)).far' (show w.heap.size + 1 ≠ p16 by omega)).far' (show w.heap.size + 1 ≠ p16 by omega)).far' (show w.heap.size + 1 ≠ p16 by omega)).far' (show w.heap.size + 1 ≠ p16 by omega)).far' (show w.heap.size + 1 ≠ p16 by omega)).far' (show w.heap.size + 1 ≠ p16 by omega)).far' (show w.heap.size + 1 ≠ p16 by omega), ((((((((((((((((b_p).far' (show w4.heap.size ≠ p16 by omega)).far' (show w4.heap.size ≠ p16 by omega)).far' (show w4.heap.size ≠ p16 by omega)).far' (show w4.heap.size ≠ p16 by omega)).far' (show w4.heap.size ≠ p16 by omega)).far' (show w4.heap.size ≠ p16 by omega)).far' (show w4.heap.size ≠ p16 by omega)).far' (show w4.heap.size ≠ p16 by omega)).far' (show w4.heap.size ≠ p16 by omega)).far' (show w4.heap.size ≠ p16 by omega)).far' (show w4.heap.size ≠ p16 by omega)).far' (show w4.heap.size ≠ p16 by omega)).far' (show w4.heap.size ≠ p16 by omega)).far' (show w4.heap.size ≠ p16 by omega)).far' (show w4.heap.size ≠ p16 by omega)).far' (show w4.heap.size ≠ p16 by omega), ((((((((((((((((b_q).far' (show w5.heap.size ≠ p16 by omega)).far' (show w5.heap.size ≠ p16 by omega)).far' (show w5.heap.size ≠ p16 by omega)).far' (show w5.heap.size ≠ p16 by omega)).far' (show w5.heap.size ≠ p16 by omega)).far' (show w5.heap.size ≠ p16 by omega)).far' (show w5.heap.size ≠ p16 by omega)).far' (show w5.heap.size ≠ p16 by omega)).far' (show w5.heap.size ≠ p16 by omega)).far' (show w5.heap.size ≠ p16 by omega)).far' (show w5.heap.size ≠ p16 by omega)).far' (show w5.heap.size ≠ p16 by omega)).far' (show w5.heap.size ≠ p16 by omega)).far' (show w5.heap.size ≠ p16 by omega)).far' (show w5.heap.size ≠ p16 by omega)).far' (show w5.heap.size ≠ p16 by omega), ((((((((((((((((b_s).far' (show w6.heap.size ≠ p16 by omega)).far' (show w6.heap.size ≠ p16 by omega)).far' (show w6.heap.size ≠ p16 by omega)).far' (show w6.heap.size ≠ p16 by omega)).far' (show w6.heap.size ≠ p16 by omega)).far' (show w6.heap.size ≠ p16 by omega)).far' (show w6.heap.size ≠ p16 by omega)).far' (show w6.heap.size ≠ p16 by omega)).far' (show w6.heap.size ≠ p16 by omega)).far' (show w6.heap.size ≠ p16 by omega)).far' (show w6.heap.size ≠ p16 by omega)).far' (show w6.heap.size ≠ p16 by omega)).far' (show w6.heap.size ≠ p16 by omega)).far' (show w6.heap.size ≠ p16 by omega)).far' (show w6.heap.size ≠ p16 by omega)).far' (show w6.heap.size ≠ p16 by omega), fun _ => ⟨p16, e1, e2, by simpa using e3, fun h => Bool.noConfusion h, fun _ => ⟨fc_2.1, fc_5.1, fc_8.1, fc_11.1, _, _, _, _, ec_2, ec_5, ec_8, ec_11, (Blk.set2 (cs' := #[.bool na1, .slice na2 na3 na4, .bool na5, .slice na6 na7 na8, .bool nb1, .slice nb2 nb3 nb4, .bool nb5, .slice nb6 nb7 nb8, .bool nc1, .slice nc2 nc3 nc4, .bool nc5, .slice nc6 nc7 nc8, .bool nd1, .slice nd2 nd3 nd4, .bool nd5, .slice nd6 nd7 nd8]) (Blk.set2 (cs' := #[.bool na1, .slice na2 na3 na4, .bool na5, .slice na6 na7 na8, .bool nb1, .slice nb2 nb3 nb4, .bool nb5, .slice nb6 nb7 nb8, .bool nc1, .slice nc2 nc3 nc4, .bool nc5, .slice nc6 nc7 nc8, .bool nd1, .slice nd2 nd3 nd4, .bool nd5, .slice none 0 0]) (Blk.set2 (cs' := #[.bool na1, .slice na2 na3 na4, .bool na5, .slice na6 na7 na8, .bool nb1, .slice nb2 nb3 nb4, .bool nb5, .slice nb6 nb7 nb8, .bool nc1, .slice nc2 nc3 nc4, .bool nc5, .slice nc6 nc7 nc8, .bool nd1, .slice nd2 nd3 nd4, .bool false, .slice none 0 0]) (Blk.set2 (cs' := #[.bool na1, .slice na2 na3 na4, .bool na5, .slice na6 na7 na8, .bool nb1, .slice nb2 nb3 nb4, .bool nb5, .slice nb6 nb7 nb8, .bool nc1, .slice nc2 nc3 nc4, .bool nc5, .slice nc6 nc7 nc8, .bool nd1, .slice none 0 0, .bool false, .slice none 0 0]) (Blk.set2 (cs' := #[.bool na1, .slice na2 na3 na4, .bool na5, .slice na6 na7 na8, .bool nb1, .slice nb2 nb3 nb4, .bool nb5, .slice nb6 nb7 nb8, .bool nc1, .slice nc2 nc3 nc4, .bool nc5, .slice nc6 nc7 nc8, .bool false, .slice none 0 0, .bool false, .slice none 0 0]) (Blk.set2 (cs' := #[.bool na1, .slice na2 na3 na4, .bool na5, .slice na6 na7 na8, .bool nb1, .slice nb2 nb3 nb4, .bool nb5, .slice nb6 nb7 nb8, .bool nc1, .slice nc2 nc3 nc4, .bool nc5, .slice none 0 0, .bool false, .slice none 0 0, .bool false, .slice none 0 0]) (Blk.set2 (cs' := #[.bool na1, .slice na2 na3 na4, .bool na5, .slice na6 na7 na8, .bool nb1, .slice nb2 nb3 nb4, .bool nb5, .slice nb6 nb7 nb8, .bool nc1, .slice nc2 nc3 nc4, .bool false, .slice none 0 0, .bool false, .slice none 0 0, .bool false, .slice none 0 0]) (Blk.set2 (cs' := #[.bool na1, .slice na2 na3 na4, .bool na5, .slice na6 na7 na8, .bool nb1, .slice nb2 nb3 nb4, .bool nb5, .slice nb6 nb7 nb8, .bool nc1, .slice none 0 0, .bool false, .slice none 0 0, .bool false, .slice none 0 0, .bool false, .slice none 0 0]) (Blk.set2 (cs' := #[.bool na1, .slice na2 na3 na4, .bool na5, .slice na6 na7 na8, .bool nb1, .slice nb2 nb3 nb4, .bool nb5, .slice nb6 nb7 nb8, .bool false, .slice none 0 0, .bool false, .slice none 0 0, .bool false, .slice none 0 0, .bool false, .slice none 0 0]) (Blk.set2 (cs' := #[.bool na1, .slice na2 na3 na4, .bool na5, .slice na6 na7 na8, .bool nb1, .slice nb2 nb3 nb4, .bool nb5, .slice none 0 0, .bool false, .slice none 0 0, .bool false, .slice none 0 0, .bool false, .slice none 0 0, .bool false, .slice none 0 0]) (Blk.set2 (cs' := #[.bool na1, .slice na2 na3 na4, .bool na5, .slice na6 na7 na8, .bool nb1, .slice nb2 nb3 nb4, .bool false, .slice none 0 0, .bool false, .slice none 0 0, .bool false, .slice none 0 0, .bool false, .slice none 0 0, .bool false, .slice none 0 0]) (Blk.set2 (cs' := #[.bool na1, .slice na2 na3 na4, .bool na5, .slice na6 na7 na8, .bool nb1, .slice none 0 0, .bool false, .slice none 0 0, .bool false, .slice none 0 0, .bool false, .slice none 0 0, .bool false, .slice none 0 0, .bool false, .slice none 0 0]) (Blk.set2 (cs' := #[.bool na1, .slice na2 na3 na4, .bool na5, .slice na6 na7 na8, .bool false, .slice none 0 0, .bool false, .slice none 0 0, .bool false, .slice none 0 0, .bool false, .slice none 0 0, .bool false, .slice none 0 0, .bool false, .slice none 0 0]) (Blk.set2 (cs' := #[.bool na1, .slice na2 na3 na4, .bool na5, .slice none 0 0, .bool false, .slice none 0 0, .bool false, .slice none 0 0, .bool false, .slice none 0 0, .bool false, .slice none 0 0, .bool false, .slice none 0 0, .bool false, .slice none 0 0]) (Blk.set2 (cs' := #[.bool na1, .slice na2 na3 na4, .bool false, .slice none 0 0, .bool false, .slice none 0 0, .bool false, .slice none 0 0, .bool false, .slice none 0 0, .bool false, .slice none 0 0, .bool false, .slice none 0 0, .bool false, .slice none 0 0]) (Blk.set2 (cs' := #[.bool na1, .slice none 0 0, .bool false, .slice none 0 0, .bool false, .slice none 0 0, .bool false, .slice none 0 0, .bool false, .slice none 0 0, .bool false, .slice none 0 0, .bool false, .slice none 0 0, .bool false, .slice none 0 0]) hb (i := 0) rfl) (i := 1) rfl) (i := 2) rfl) (i := 3) rfl) (i := 4) rfl) (i := 5) rfl) (i := 6) rfl) (i := 7) rfl) (i := 8) rfl) (i := 9) rfl) (i := 10) rfl) (i := 11) rfl) (i := 12) rfl) (i := 13) rfl) (i := 14) rfl) (i := 15) rfl)⟩⟩⟩ trivial trivial
  refine Reg.RC_end (fun Dn v' w7 hd hj hf => ?_)
  obtain ⟨j0, jk, jn, b_a, b_b, b_p, b_q, b_s, a_13⟩ := hj
  have B := j0
  have oa := b_a
  clear b_a
  have ob := b_b
  clear b_b
  have op := b_p
  clear b_p
  have oq := b_q
  clear b_q
  have os := b_s
  clear b_s
  have f := hf (13, some 16) (.tail _ (.tail _ (.tail _ (.tail _ (.head _))))) rfl
  have e6_ : v' 13 = .pointer (some ⟨p16, 0, none⟩) := f.2.1
  obtain ⟨g, e1_, zl, -, -, e5_⟩ := a_13 f.1
  obtain rfl : p16 = g := Reg.ptr_eq (e6_.symm.trans e1_)
  obtain ⟨-, -, -, -, k_2, k_5, k_8, k_11, w_2, w_5, w_8, w_11, ol⟩ := e5_ (hd 14 (Nat.le_of_ble_eq_true rfl))
  have ef : v' 2 = .agg #[.bool na1, .slice na2 na3 na4, .bool na5, .slice na6 na7 na8] := (hf (2, some 70) (.head _) rfl).2.1
  obtain rfl : #[.bool na1, .slice na2 na3 na4, .bool na5, .slice na6 na7 na8] = k_2 := by have := ef.symm.trans w_2; simpa only [Value.tuple.injEq, Value.agg.injEq, Array.mk.injEq, List.cons.injEq, and_true, true_and] using this
  clear w_2 ef
  have ef : v' 5 = .agg #[.bool nb1, .slice nb2 nb3 nb4, .bool nb5, .slice nb6 nb7 nb8] := (hf (5, some 73) (.tail _ (.head _)) rfl).2.1
  obtain rfl : #[.bool nb1, .slice nb2 nb3 nb4, .bool nb5, .slice nb6 nb7 nb8] = k_5 := by have := ef.symm.trans w_5; simpa only [Value.tuple.injEq, Value.agg.injEq, Array.mk.injEq, List.cons.injEq, and_true, true_and] using this
  clear w_5 ef
  have ef : v' 8 = .agg #[.bool nc1, .slice nc2 nc3 nc4, .bool nc5, .slice nc6 nc7 nc8] := (hf (8, some 76) (.tail _ (.tail _ (.head _))) rfl).2.1
  obtain rfl : #[.bool nc1, .slice nc2 nc3 nc4, .bool nc5, .slice nc6 nc7 nc8] = k_8 := by have := ef.symm.trans w_8; simpa only [Value.tuple.injEq, Value.agg.injEq, Array.mk.injEq, List.cons.injEq, and_true, true_and] using this
  clear w_8 ef
  have ef : v' 11 = .agg #[.bool nd1, .slice nd2 nd3 nd4, .bool nd5, .slice nd6 nd7 nd8] := (hf (11, some 79) (.tail _ (.tail _ (.tail _ (.head _)))) rfl).2.1
  obtain rfl : #[.bool nd1, .slice nd2 nd3 nd4, .bool nd5, .slice nd6 nd7 nd8] = k_11 := by have := ef.symm.trans w_11; simpa only [Value.tuple.injEq, Value.agg.injEq, Array.mk.injEq, List.cons.injEq, and_true, true_and] using this
  clear w_11 ef
  replace ol : Blk w7 p16 45 #[.bool na1, .slice na2 na3 na4, .bool na5, .slice na6 na7 na8, .bool nb1, .slice nb2 nb3 nb4, .bool nb5, .slice nb6 nb7 nb8, .bool nc1, .slice nc2 nc3 nc4, .bool nc5, .slice nc6 nc7 nc8, .bool nd1, .slice nd2 nd3 nd4, .bool nd5, .slice nd6 nd7 nd8] := ol
  clear f e5_ e1_ e6_
  have Fna : Hid (FR w7 (.agg #[.bool na1, .slice na2 na3 na4, .bool na5, .slice na6 na7 na8]) (unitQ a)) := (hf (2, some 70) (.head _) rfl).2.2
  have Fnb : Hid (FR w7 (.agg #[.bool nb1, .slice nb2 nb3 nb4, .bool nb5, .slice nb6 nb7 nb8]) (unitQ b)) := (hf (5, some 73) (.tail _ (.head _)) rfl).2.2
  have Fnc : Hid (FR w7 (.agg #[.bool nc1, .slice nc2 nc3 nc4, .bool nc5, .slice nc6 nc7 nc8]) (unitQ c)) := (hf (8, some 76) (.tail _ (.tail _ (.head _))) rfl).2.2
  have Fnd : Hid (FR w7 (.agg #[.bool nd1, .slice nd2 nd3 nd4, .bool nd5, .slice nd6 nd7 nd8]) (unitQ d)) := (hf (11, some 79) (.tail _ (.tail _ (.tail _ (.head _)))) rfl).2.2
  clear hd hf jk j0
  refine hQ _ _ ?_
  clear hQ hops Q' ops'
  have cl0 := ol.q0
  have cl1 := ol.q1
  have cl2 := ol.q2
  have cl3 := ol.q3
  have cl4 := ol.q4
  have cl5 := ol.q5
  have cl6 := ol.q6
  have cl7 := ol.q7
  have cl8 := ol.q8
  have cl9 := ol.q9
  have cl10 := ol.q10
  have cl11 := ol.q11
  have cl12 := ol.q12
  have cl13 := ol.q13
  have cl14 := ol.q14
  have cl15 := ol.q15
  have ll := ol.lt
  clear na nb nc nd
  go_wp2_with fail
  refine wp_loop_rounds 3 ?_
  rw [rounds_succ]
  go_wp2_with fail
  refine wp_loop_rounds 3 ?_
  rw [rounds_succ]
  go_upto_block 3 with fail
  go_cut [17, 18, 19, 20] (fun sl0 sl1 sl2 sl3  wx => sl0 = .bool (false || L0) ∧ sl1 = .bool (false || H0) ∧ sl2 = .bool (false || (!zc && S0)) ∧ sl3 = .bool (false || (!zc && R0)) ∧ Keeps w7 wx ∧ Blk wx (w.heap.size) 23 #[.int .i64 (a), .int .i64 (b)] ∧ Blk wx (w.heap.size + 1) 23 #[.int .i64 (c), .int .i64 (d)] ∧ Blk wx (w4.heap.size) 23 #[.int .i64 (p0), .int .i64 (q0)] ∧ Blk wx (w5.heap.size) 23 #[.int .i64 (p1), .int .i64 (q1)] ∧ Blk wx (w6.heap.size) 23 #[.int .i64 (p2), .int .i64 (q2)] ∧ Blk wx (p16) 45 #[.bool na1, .slice na2 na3 na4, .bool na5, .slice na6 na7 na8, .bool nb1, .slice nb2 nb3 nb4, .bool nb5, .slice nb6 nb7 nb8, .bool nc1, .slice nc2 nc3 nc4, .bool nc5, .slice nc6 nc7 nc8, .bool nd1, .slice nd2 nd3 nd4, .bool nd5, .slice nd6 nd7 nd8] ∧ Below w.heap.size w wx)
  case first => as_aux_lemma =>
    have kk := Keeps.refl w7
    have zl_7 : p16 < w7.heap.size := ol.lt
    have zz7 := B.size
    go_upto_region 15 with fail
    refine Reg.wp_chain_n (fun N0 D v W => Below w.heap.size w W ∧ Keeps w7 W ∧ N0 ≤ W.heap.size ∧ Blk W (w.heap.size) 23 #[.int .i64 (a), .int .i64 (b)] ∧ Blk W (w.heap.size + 1) 23 #[.int .i64 (c), .int .i64 (d)] ∧ Blk W (w4.heap.size) 23 #[.int .i64 (p0), .int .i64 (q0)] ∧ Blk W (w5.heap.size) 23 #[.int .i64 (p1), .int .i64 (q1)] ∧ Blk W (w6.heap.size) 23 #[.int .i64 (p2), .int .i64 (q2)] ∧ Blk W (p16) 45 #[.bool na1, .slice na2 na3 na4, .bool na5, .slice na6 na7 na8, .bool nb1, .slice nb2 nb3 nb4, .bool nb5, .slice nb6 nb7 nb8, .bool nc1, .slice nc2 nc3 nc4, .bool nc5, .slice nc6 nc7 nc8, .bool nd1, .slice nd2 nd3 nd4, .bool nd5, .slice nd6 nd7 nd8] ∧ (D 10 = true → ∃ g : Nat, v 10 = .pointer (some ⟨g, 0, none⟩) ∧ N0 ≤ g ∧ g < W.heap.size ∧ (D 11 = false → Blk W g 31 #[.bool false, .slice none 0 0, .bool false, .slice none 0 0]) ∧ (D 11 = true → D 6 = true ∧ ∃ cs, v 6 = .tuple #[.agg cs, .int .i64 0] ∧ Blk W g 31 cs)))
      (Reg.inl [6, 10, 11]) (Reg.gv [(6, IsFrE 0), (10, IsPtr)]) (gw [(6, GFrE (unitQ a * unitQ c) 0)]) (fun _ => Keeps) (fun _ _ => False) (Reg.pl [(11, [(6, some 96), (10, some 23)]), (13, [(6, some 96), (10, some 23)])]) (Reg.pl [(10, [11]), (6, [11])])
      (by kernel_rfl) (by kernel_rfl) (by kernel_rfl) (Reg.gv_some _ (by intro p hp; simp only [List.mem_cons, List.not_mem_nil, or_false] at hp; rcases hp with rfl | rfl <;> first | exact ⟨_, rfl⟩ | exact ⟨_, 0, rfl⟩ | exact ⟨_, none, 0, 0, rfl⟩ | exact ⟨_, false, none, 0, 0, rfl⟩ | exact ⟨_, false, none, 0, 0, false, none, 0, 0, rfl⟩)) (fun N0 hN0 => ⟨fun v => ?_, fun D v v' W hv hj => ?_, fun D v k j W W' x _ _ _ _ hk hg => gw_keeps _ (by intro p hp; simp only [List.mem_cons, List.not_mem_nil, or_false] at hp; rcases hp with rfl <;> first | exact GFr.keeps | exact GFrE.keeps | exact GNu.keeps | exact GNuE.keeps | exact GLi.keeps) hk hg, fun _ _ _ _ h => h.elim, fun ops' Q' hops hQ => ?_⟩)
    · exact ⟨belowB, keepsB, Nat.le_of_eq hN0.out, ownK, ownK, ownK, ownK, ownK, ownK, (fun h => Bool.noConfusion h)⟩
    · obtain ⟨j0, jk, jn, b_a, b_b, b_p, b_q, b_s, b_l, a_10⟩ := hj
      exact ⟨j0, jk, jn, b_a, b_b, b_p, b_q, b_s, b_l, fun h => by obtain ⟨g, e1, e2, e3, e4, e5⟩ := a_10 h; exact ⟨g, (hv 10 h) ▸ e1, e2, e3, e4, fun h => by obtain ⟨d, cs, e, hb⟩ := e5 h; exact ⟨d, cs, (hv 6 d) ▸ e, hb⟩⟩⟩
    have i_a : w.heap.size < N0 := by have e := hN0.out; (try simp only [World.size_alloc, World.size_setCell, World.size_drew, World.heap_drewN] at e); first | omega | (have h := oa.lt; omega)
    have i_b : w.heap.size + 1 < N0 := by have e := hN0.out; (try simp only [World.size_alloc, World.size_setCell, World.size_drew, World.heap_drewN] at e); first | omega | (have h := ob.lt; omega)
    have i_p : w4.heap.size < N0 := by have e := hN0.out; (try simp only [World.size_alloc, World.size_setCell, World.size_drew, World.heap_drewN] at e); first | omega | (have h := op.lt; omega)
    have i_q : w5.heap.size < N0 := by have e := hN0.out; (try simp only [World.size_alloc, World.size_setCell, World.size_drew, World.heap_drewN] at e); first | omega | (have h := oq.lt; omega)
    have i_s : w6.heap.size < N0 := by have e := hN0.out; (try simp only [World.size_alloc, World.size_setCell, World.size_drew, World.heap_drewN] at e); first | omega | (have h := os.lt; omega)
    have i_l : p16 < N0 := by have e := hN0.out; (try simp only [World.size_alloc, World.size_setCell, World.size_drew, World.heap_drewN] at e); first | omega | (have h := ol.lt; omega)
    have iw : w.heap.size ≤ N0 := by have e := hN0.out; (try simp only [World.size_alloc, World.size_setCell, World.size_drew, World.heap_drewN] at e); first | omega | (have h := B.size; omega)
    clear cl0 cl1 cl2 cl3 cl4 cl5 cl6 cl7 cl8 cl9 cl10 cl11 cl12 cl13 cl14 cl15 ll
    clear hN0
    apply Reg.RC_pure (hc := rfl) (hst := rfl) (hw := rfl) (t := 90) (hd := rfl) (ht := Nat.le_of_ble_eq_true rfl)
    · intro D v' W' hc hj hf K hK
      go_step
      exact hK.out
    · rfl
    apply Reg.RC_pure (hc := rfl) (hst := rfl) (hw := rfl) (t := 91) (hd := rfl) (ht := Nat.le_of_ble_eq_true rfl)
    · intro D v' W' hc hj hf K hK
      go_step
      exact hK.out
    · rfl
    apply Reg.RC_pure (hc := rfl) (hst := rfl) (hw := rfl) (t := 92) (hd := rfl) (ht := Nat.le_of_ble_eq_true rfl)
    · intro D v' W' hc hj hf K hK
      obtain ⟨j0, jk, jn, b_a, b_b, b_p, b_q, b_s, b_l, a_10⟩ := hj
      have c0 : W'.cell? ⟨p16, 0, none⟩ = some (.bool na1) := b_l.c 0 rfl
      have c1 : W'.cell? ⟨p16, 1, none⟩ = some (.slice na2 na3 na4) := b_l.c 1 rfl
      have c2 : W'.cell? ⟨p16, 2, none⟩ = some (.bool na5) := b_l.c 2 rfl
      have c3 : W'.cell? ⟨p16, 3, none⟩ = some (.slice na6 na7 na8) := b_l.c 3 rfl
      have c4 : W'.cell? ⟨p16, 4, none⟩ = some (.bool nb1) := b_l.c 4 rfl
      have c5 : W'.cell? ⟨p16, 5, none⟩ = some (.slice nb2 nb3 nb4) := b_l.c 5 rfl
      have c6 : W'.cell? ⟨p16, 6, none⟩ = some (.bool nb5) := b_l.c 6 rfl
      have c7 : W'.cell? ⟨p16, 7, none⟩ = some (.slice nb6 nb7 nb8) := b_l.c 7 rfl
      have c8 : W'.cell? ⟨p16, 8, none⟩ = some (.bool nc1) := b_l.c 8 rfl
      have c9 : W'.cell? ⟨p16, 9, none⟩ = some (.slice nc2 nc3 nc4) := b_l.c 9 rfl
      have c10 : W'.cell? ⟨p16, 10, none⟩ = some (.bool nc5) := b_l.c 10 rfl
      have c11 : W'.cell? ⟨p16, 11, none⟩ = some (.slice nc6 nc7 nc8) := b_l.c 11 rfl
      have c12 : W'.cell? ⟨p16, 12, none⟩ = some (.bool nd1) := b_l.c 12 rfl
      have c13 : W'.cell? ⟨p16, 13, none⟩ = some (.slice nd2 nd3 nd4) := b_l.c 13 rfl
      have c14 : W'.cell? ⟨p16, 14, none⟩ = some (.bool nd5) := b_l.c 14 rfl
      have c15 : W'.cell? ⟨p16, 15, none⟩ = some (.slice nd6 nd7 nd8) := b_l.c 15 rfl
      go_step
      exact hK.out
    · rfl
    apply Reg.RC_pure (hc := rfl) (hst := rfl) (hw := rfl) (t := 93) (hd := rfl) (ht := Nat.le_of_ble_eq_true rfl)
    · intro D v' W' hc hj hf K hK
      go_step
      exact hK.out
    · rfl
    apply Reg.RC_pure (hc := rfl) (hst := rfl) (hw := rfl) (t := 94) (hd := rfl) (ht := Nat.le_of_ble_eq_true rfl)
    · intro D v' W' hc hj hf K hK
      go_step
      exact hK.out
    · rfl
    apply Reg.RC_pure (hc := rfl) (hst := rfl) (hw := rfl) (t := 95) (hd := rfl) (ht := Nat.le_of_ble_eq_true rfl)
    · intro D v' W' hc hj hf K hK
      obtain ⟨j0, jk, jn, b_a, b_b, b_p, b_q, b_s, b_l, a_10⟩ := hj
      have c0 : W'.cell? ⟨p16, 0, none⟩ = some (.bool na1) := b_l.c 0 rfl
      have c1 : W'.cell? ⟨p16, 1, none⟩ = some (.slice na2 na3 na4) := b_l.c 1 rfl
      have c2 : W'.cell? ⟨p16, 2, none⟩ = some (.bool na5) := b_l.c 2 rfl
      have c3 : W'.cell? ⟨p16, 3, none⟩ = some (.slice na6 na7 na8) := b_l.c 3 rfl
      have c4 : W'.cell? ⟨p16, 4, none⟩ = some (.bool nb1) := b_l.c 4 rfl
      have c5 : W'.cell? ⟨p16, 5, none⟩ = some (.slice nb2 nb3 nb4) := b_l.c 5 rfl
      have c6 : W'.cell? ⟨p16, 6, none⟩ = some (.bool nb5) := b_l.c 6 rfl
      have c7 : W'.cell? ⟨p16, 7, none⟩ = some (.slice nb6 nb7 nb8) := b_l.c 7 rfl
      have c8 : W'.cell? ⟨p16, 8, none⟩ = some (.bool nc1) := b_l.c 8 rfl
      have c9 : W'.cell? ⟨p16, 9, none⟩ = some (.slice nc2 nc3 nc4) := b_l.c 9 rfl
      have c10 : W'.cell? ⟨p16, 10, none⟩ = some (.bool nc5) := b_l.c 10 rfl
      have c11 : W'.cell? ⟨p16, 11, none⟩ = some (.slice nc6 nc7 nc8) := b_l.c 11 rfl
      have c12 : W'.cell? ⟨p16, 12, none⟩ = some (.bool nd1) := b_l.c 12 rfl
      have c13 : W'.cell? ⟨p16, 13, none⟩ = some (.slice nd2 nd3 nd4) := b_l.c 13 rfl
      have c14 : W'.cell? ⟨p16, 14, none⟩ = some (.bool nd5) := b_l.c 14 rfl
      have c15 : W'.cell? ⟨p16, 15, none⟩ = some (.slice nd6 nd7 nd8) := b_l.c 15 rfl
      go_step
      exact hK.out
    · rfl
    refine Reg.RC_call rfl (by intro t ht; cases ht; exact Nat.le_of_ble_eq_true rfl) rfl (fun D v' W' hc hj hf K hK => ?_) ?_
    · obtain ⟨j0, jk, jn, b_a, b_b, b_p, b_q, b_s, b_l, a_10⟩ := hj
      clear hf
      go_step
      refine (rTimesQ W' (Fna.out.keeps jk) (Fnc.out.keeps jk) sa sc (by omega)).mono ?_
      rintro e W2 ⟨u, rfl, hu, hs⟩
      obtain ⟨r1_1, r1_2, r1_3, r1_4, r1_5, r1_6, r1_7, r1_8, rfl⟩ := hu.shape
      exact hK.out _ W2 (Keeps.steps hs) ⟨below_steps j0 (Nat.le_refl _) hs, jk.then_ hs, Nat.le_trans jn hs.size, b_a.steps hs, b_b.steps hs, b_p.steps hs, b_q.steps hs, b_s.steps hs, b_l.steps hs, fun h => by obtain ⟨g, e1, e2, e3, e4, e5⟩ := a_10 h; exact ⟨g, e1, e2, Nat.lt_of_lt_of_le e3 (hs).size, fun h => (e4 h).steps hs, fun h => Bool.noConfusion ((hc.2 11 (by decide)).symm.trans h)⟩⟩ ⟨_, rfl, hu⟩ ⟨_, _, _, _, _, _, _, _, rfl⟩
    rintro _ ⟨r1_1, r1_2, r1_3, r1_4, r1_5, r1_6, r1_7, r1_8, rfl⟩
    refine Reg.RC_at (b := ⟨#[_,_,_,_,_,_,_,_,_,_,_,_,_,_,_,_,_,_,_,_,_,_,_,_,_,_,_,_,_,_,_,_,_,_,_,_,_,_,_,_,_,_,_,_,_,_,_,_,_,_,_,_,_,_,_,_,_,_,_,_,_,_,_,_,_,_,_,_,_,_,_,_,_,_,_,_,_,_,_,_,_,_,_,_,_,_,_,_,_,_,_,_,_,_,_,_,_,_,_,_,_,_,_,_,_,_,_,_,_,_,_,_,_,_,_,_,_,_,_,_,_,_,_,_,_,_,_,_,_,_,_,_,_,_,_,_,_,_,_,_,_,_,_,_,_,_,_,_,_,_,_,_,_,_,_,_,_,_,_,_,_,_,_,_,_,_,_,_,_,_,_,_,_,_,_,_,_,_,_,_,_,_,_,_,_,_,_,_,_,_,_,_,_,_,_,_,_,_,_,_,_,_,_,_,_,_,_,_,_,_,_,_,_,_,_,_,_,_,_,_], _⟩) rfl ?_
    apply Reg.RC_pure (hc := rfl) (hst := rfl) (hw := rfl) (t := 89) (hd := rfl) (ht := Nat.le_of_ble_eq_true rfl)
    · intro D v' W' hc hj hf K hK
      go_step
      exact hK.out
    · rfl
    apply Reg.RC_pure (hc := rfl) (hst := rfl) (hw := rfl) (t := 97) (hd := rfl) (ht := Nat.le_of_ble_eq_true rfl)
    · intro D v' W' hc hj hf K hK
      go_step
      exact hK.out
    · rfl
    apply Reg.RC_pure (hc := rfl) (hst := rfl) (hw := rfl) (t := 98) (hd := rfl) (ht := Nat.le_of_ble_eq_true rfl)
    · intro D v' W' hc hj hf K hK
      go_step
      exact hK.out
    · rfl
    refine Reg.RC_call rfl (by intro t ht; cases ht; exact Nat.le_of_ble_eq_true rfl) rfl (fun D v' W' hc hj hf K hK => ?_) ?_
    · obtain ⟨j0, jk, jn, b_a, b_b, b_p, b_q, b_s, b_l, a_10⟩ := hj
      go_step
      have hs : ∀ o : Obj, Steps W' (W'.alloc o) := fun o => (Below.refl _ _).alloc (Nat.le_refl _) o
      exact hK.out _ _ (Keeps.steps (hs _)) ⟨below_steps j0 (Nat.le_refl _) (hs _), jk.then_ (hs _), Nat.le_trans jn (hs _).size, b_a.steps (hs _), b_b.steps (hs _), b_p.steps (hs _), b_q.steps (hs _), b_s.steps (hs _), b_l.steps (hs _), fun _ => ⟨W'.heap.size, rfl, jn, by rw [World.size_alloc]; omega, fun _ => Blk.new _ _ _, fun h => Bool.noConfusion ((hc.2 11 (by decide)).symm.trans h)⟩⟩ trivial ⟨_, rfl⟩
    rintro _ ⟨p23, rfl⟩
    refine Reg.RC_at (b := ⟨#[_,_,_,_,_,_,_,_,_,_,_,_,_,_,_,_,_,_,_,_,_,_,_,_,_,_,_,_,_,_,_,_,_,_,_,_,_,_,_,_,_,_,_,_,_,_,_,_,_,_,_,_,_,_,_,_,_,_,_,_,_,_,_,_,_,_,_,_,_,_,_,_,_,_,_,_,_,_,_,_,_,_,_,_,_,_,_,_,_,_,_,_,_,_,_,_,_,_,_,_,_,_,_,_,_,_,_,_,_,_,_,_,_,_,_,_,_,_,_,_,_,_,_,_,_,_,_,_,_,_,_,_,_,_,_,_,_,_,_,_,_,_,_,_,_,_,_,_,_,_,_,_,_,_,_,_,_,_,_,_,_,_,_,_,_,_,_,_,_,_,_,_,_,_,_,_,_,_,_,_,_,_,_,_,_,_,_,_,_,_,_,_,_,_,_,_,_,_,_,_,_,_,_,_,_,_,_,_,_,_,_,_,_,_,_,_,_,_,_,_], _⟩) rfl ?_
    refine Reg.RC_call rfl (by intro t ht; cases ht) rfl (fun D v' W' hc hj hf K hK => ?_) (fun _ _ => Reg.RC_at (b := ⟨_, _⟩) rfl ?_)
    · obtain ⟨j0, jk, jn, b_a, b_b, b_p, b_q, b_s, b_l, a_10⟩ := hj
      have f := hf (10, some 23) (.tail _ (.head _)) rfl
      have e6 : v' 10 = .pointer (some ⟨p23, 0, none⟩) := f.2.1
      obtain ⟨g, e1, e2, e3, e4, e5⟩ := a_10 f.1
      obtain rfl : p23 = g := Reg.ptr_eq (e6.symm.trans e1)
      have hb := e4 hc.1
      clear e4 e5
      have fc := hf (6, some 96) (.head _) rfl
      have ec : v' 6 = .tuple #[.agg #[.bool r1_1, .slice r1_2 r1_3 r1_4, .bool r1_5, .slice r1_6 r1_7 r1_8], .int .i64 0] := fc.2.1
      have ff := hb.fr
      have cc0 : W'.cell? ⟨p23, 0, none⟩ = some (.bool false) := hb.c 0 rfl
      have cc1 : W'.cell? ⟨p23, 1, none⟩ = some (.slice none 0 0) := hb.c 1 rfl
      have cc2 : W'.cell? ⟨p23, 2, none⟩ = some (.bool false) := hb.c 2 rfl
      have cc3 : W'.cell? ⟨p23, 3, none⟩ = some (.slice none 0 0) := hb.c 3 rfl
      go_step
      exact hK.out undef _ (Keeps.only hb rfl ((Only.refl _ _).set.set.set.set)) ⟨(Below.setCell (p := ⟨p23, 3, none⟩) (Below.setCell (p := ⟨p23, 2, none⟩) (Below.setCell (p := ⟨p23, 1, none⟩) (Below.setCell (p := ⟨p23, 0, none⟩) j0 (by show w.heap.size ≤ p23; omega) _) (by show w.heap.size ≤ p23; omega) _) (by show w.heap.size ≤ p23; omega) _) (by show w.heap.size ≤ p23; omega) _), jk.trans (Keeps.only hb rfl ((Only.refl _ _).set.set.set.set)), by simpa using jn, ((((b_a).far' (show w.heap.size ≠ p23 by omega)).far' (show w.heap.size ≠ p23 by omega)).far' (show w.heap.size ≠ p23 by omega)).far' (show w.heap.size ≠ p23 by omega), ((((b_b).far' (show w.heap.size + 1 ≠ p23 by omega)).far' (show w.heap.size + 1 ≠ p23 by omega)).far' (show w.heap.size + 1 ≠ p23 by omega)).far' (show w.heap.size + 1 ≠ p23 by omega), ((((b_p).far' (show w4.heap.size ≠ p23 by omega)).far' (show w4.heap.size ≠ p23 by omega)).far' (show w4.heap.size ≠ p23 by omega)).far' (show w4.heap.size ≠ p23 by omega), ((((b_q).far' (show w5.heap.size ≠ p23 by omega)).far' (show w5.heap.size ≠ p23 by omega)).far' (show w5.heap.size ≠ p23 by omega)).far' (show w5.heap.size ≠ p23 by omega), ((((b_s).far' (show w6.heap.size ≠ p23 by omega)).far' (show w6.heap.size ≠ p23 by omega)).far' (show w6.heap.size ≠ p23 by omega)).far' (show w6.heap.size ≠ p23 by omega), ((((b_l).far' (show p16 ≠ p23 by omega)).far' (show p16 ≠ p23 by omega)).far' (show p16 ≠ p23 by omega)).far' (show p16 ≠ p23 by omega), fun _ => ⟨p23, e1, e2, by simpa using e3, fun h => Bool.noConfusion h, fun _ => ⟨fc.1, _, ec, (Blk.set2 (cs' := #[.bool r1_1, .slice r1_2 r1_3 r1_4, .bool r1_5, .slice r1_6 r1_7 r1_8]) (Blk.set2 (cs' := #[.bool r1_1, .slice r1_2 r1_3 r1_4, .bool r1_5, .slice none 0 0]) (Blk.set2 (cs' := #[.bool r1_1, .slice r1_2 r1_3 r1_4, .bool false, .slice none 0 0]) (Blk.set2 (cs' := #[.bool r1_1, .slice none 0 0, .bool false, .slice none 0 0]) hb (i := 0) rfl) (i := 1) rfl) (i := 2) rfl) (i := 3) rfl)⟩⟩⟩ trivial trivial
    apply Reg.RC_pure (hc := rfl) (hst := rfl) (hw := rfl) (t := 24) (hd := rfl) (ht := Nat.le_of_ble_eq_true rfl)
    · intro D v' W' hc hj hf K hK
      go_step
      exact hK.out
    · rfl
    refine Reg.RC_end (fun Dn v' w8 hd hj hf => ?_)
    obtain ⟨j0, jk, jn, b_a, b_b, b_p, b_q, b_s, b_l, a_10⟩ := hj
    have B := j0
    have oa := b_a
    clear b_a
    have ob := b_b
    clear b_b
    have op := b_p
    clear b_p
    have oq := b_q
    clear b_q
    have os := b_s
    clear b_s
    have ol := b_l
    clear b_l
    have f := hf (10, some 23) (.tail _ (.head _)) rfl
    have e6_ : v' 10 = .pointer (some ⟨p23, 0, none⟩) := f.2.1
    obtain ⟨g, e1_, zx, -, -, e5_⟩ := a_10 f.1
    obtain rfl : p23 = g := Reg.ptr_eq (e6_.symm.trans e1_)
    obtain ⟨-, cs_, ee, ox⟩ := e5_ (hd 11 (Nat.le_of_ble_eq_true rfl))
    have ef : v' 6 = .tuple #[.agg #[.bool r1_1, .slice r1_2 r1_3 r1_4, .bool r1_5, .slice r1_6 r1_7 r1_8], .int .i64 0] := (hf (6, some 96) (.head _) rfl).2.1
    obtain rfl : #[.bool r1_1, .slice r1_2 r1_3 r1_4, .bool r1_5, .slice r1_6 r1_7 r1_8] = cs_ := by have := ef.symm.trans ee; simpa only [Value.tuple.injEq, Value.agg.injEq, Array.mk.injEq, List.cons.injEq, and_true, true_and] using this
    clear ee ef f e5_ e1_ e6_
    have Fr1_ := Hid.mk_ (GFrE.get (r := unitQ a * unitQ c) (e := 0) (v := .agg #[.bool r1_1, .slice r1_2 r1_3 r1_4, .bool r1_5, .slice r1_6 r1_7 r1_8]) (hf (6, some 96) (.head _) rfl).2.2)
    replace Fna := Hid.mk_ (Fna.out.keeps jk)
    replace Fnb := Hid.mk_ (Fnb.out.keeps jk)
    replace Fnc := Hid.mk_ (Fnc.out.keeps jk)
    replace Fnd := Hid.mk_ (Fnd.out.keeps jk)
    replace kk := kk.trans jk
    clear hd hf jk j0
    refine hQ _ _ ?_
    clear hQ hops Q' ops'
    have cp0 := op.q0
    have cp1 := op.q1
    have lp := op.lt
    have cx0 := ox.q0
    have cx1 := ox.q1
    have cx2 := ox.q2
    have cx3 := ox.q3
    have lx := ox.lt
    go_upto_region 16 with fail
    go_cut [17] (fun sl0  wx => sl0 = .bool (false || L0) ∧ Keeps w8 wx ∧ Blk wx (w.heap.size) 23 #[.int .i64 (a), .int .i64 (b)] ∧ Blk wx (w.heap.size + 1) 23 #[.int .i64 (c), .int .i64 (d)] ∧ Blk wx (w4.heap.size) 23 #[.int .i64 (p0), .int .i64 (q0)] ∧ Blk wx (w5.heap.size) 23 #[.int .i64 (p1), .int .i64 (q1)] ∧ Blk wx (w6.heap.size) 23 #[.int .i64 (p2), .int .i64 (q2)] ∧ Blk wx (p16) 45 #[.bool na1, .slice na2 na3 na4, .bool na5, .slice na6 na7 na8, .bool nb1, .slice nb2 nb3 nb4, .bool nb5, .slice nb6 nb7 nb8, .bool nc1, .slice nc2 nc3 nc4, .bool nc5, .slice nc6 nc7 nc8, .bool nd1, .slice nd2 nd3 nd4, .bool nd5, .slice nd6 nd7 nd8] ∧ Blk wx (p23) 31 #[.bool r1_1, .slice r1_2 r1_3 r1_4, .bool r1_5, .slice r1_6 r1_7 r1_8] ∧ Below w.heap.size w wx)
    case first => as_aux_lemma =>
      have kk := Keeps.refl w8
      go_wp2_with fail
      refine (cL0 _ _ (Fr1_.out.keeps keepsB)).mono ?_
      rintro e w9 ⟨rfl, hb9⟩
      have st : Steps _ w9 := hb9
      have sk : Below w8.heap.size w8 w9 := belowA st
      replace B := below_steps B (Nat.le_refl _) sk
      replace oa := oa.steps sk
      replace ob := ob.steps sk
      replace op := op.steps sk
      replace oq := oq.steps sk
      replace os := os.steps sk
      replace ol := ol.steps sk
      replace ox := ox.steps sk
      replace Fna := Hid.mk_ (Fna.out.steps sk)
      replace Fnb := Hid.mk_ (Fnb.out.steps sk)
      replace Fnc := Hid.mk_ (Fnc.out.steps sk)
      replace Fnd := Hid.mk_ (Fnd.out.steps sk)
      replace Fr1_ := Hid.mk_ (Fr1_.out.steps sk)
      replace kk := kk.then_ sk
      clear st sk cp0 cp1 lp cx0 cx1 cx2 cx3 lx
      go_wp2_with fail
      go_meet
      exact ⟨by simp, kk.trans keepsB, ownK, ownK, ownK, ownK, ownK, ownK, ownK, belowB⟩
    case rest =>
      clear cp0 cp1 lp cx0 cx1 cx2 cx3 lx
      obtain ⟨rfl, kp, oa, ob, op, oq, os, ol, ox, B⟩ := hcut
      obtain ⟨w9, hw_⟩ : ∃ x, x = wc := ⟨_, rfl⟩
      subst hw_
      replace Fna := Hid.mk_ (Fna.out.keeps kp)
      replace Fnb := Hid.mk_ (Fnb.out.keeps kp)
      replace Fnc := Hid.mk_ (Fnc.out.keeps kp)
      replace Fnd := Hid.mk_ (Fnd.out.keeps kp)
      replace Fr1_ := Hid.mk_ (Fr1_.out.keeps kp)
      replace kk := kk.trans kp
      clear kp
      have cp0 := op.q0
      have cp1 := op.q1
      have lp := op.lt
      have cx0 := ox.q0
      have cx1 := ox.q1
      have cx2 := ox.q2
      have cx3 := ox.q3
      have lx := ox.lt
      go_upto_region 17 with fail
      go_cut [18] (fun sl0  wx => sl0 = .bool (false || H0) ∧ Keeps w9 wx ∧ Blk wx (w.heap.size) 23 #[.int .i64 (a), .int .i64 (b)] ∧ Blk wx (w.heap.size + 1) 23 #[.int .i64 (c), .int .i64 (d)] ∧ Blk wx (w4.heap.size) 23 #[.int .i64 (p0), .int .i64 (q0)] ∧ Blk wx (w5.heap.size) 23 #[.int .i64 (p1), .int .i64 (q1)] ∧ Blk wx (w6.heap.size) 23 #[.int .i64 (p2), .int .i64 (q2)] ∧ Blk wx (p16) 45 #[.bool na1, .slice na2 na3 na4, .bool na5, .slice na6 na7 na8, .bool nb1, .slice nb2 nb3 nb4, .bool nb5, .slice nb6 nb7 nb8, .bool nc1, .slice nc2 nc3 nc4, .bool nc5, .slice nc6 nc7 nc8, .bool nd1, .slice nd2 nd3 nd4, .bool nd5, .slice nd6 nd7 nd8] ∧ Blk wx (p23) 31 #[.bool r1_1, .slice r1_2 r1_3 r1_4, .bool r1_5, .slice r1_6 r1_7 r1_8] ∧ Below w.heap.size w wx)
      case first => as_aux_lemma =>
        have kk := Keeps.refl w9
        go_wp2_with fail
        refine (cH0 _ _ (Fr1_.out.keeps keepsB)).mono ?_
        rintro e w10 ⟨rfl, hb10⟩
        have st : Steps _ w10 := hb10
        have sk : Below w9.heap.size w9 w10 := belowA st
        replace B := below_steps B (Nat.le_refl _) sk
        replace oa := oa.steps sk
        replace ob := ob.steps sk
        replace op := op.steps sk
        replace oq := oq.steps sk
        replace os := os.steps sk
        replace ol := ol.steps sk
        replace ox := ox.steps sk
        replace Fna := Hid.mk_ (Fna.out.steps sk)
        replace Fnb := Hid.mk_ (Fnb.out.steps sk)
        replace Fnc := Hid.mk_ (Fnc.out.steps sk)
        replace Fnd := Hid.mk_ (Fnd.out.steps sk)
        replace Fr1_ := Hid.mk_ (Fr1_.out.steps sk)
        replace kk := kk.then_ sk
        clear st sk cp0 cp1 lp cx0 cx1 cx2 cx3 lx
        go_wp2_with fail
        go_meet
        exact ⟨by simp, kk.trans keepsB, ownK, ownK, ownK, ownK, ownK, ownK, ownK, belowB⟩
      case rest =>
        clear cp0 cp1 lp cx0 cx1 cx2 cx3 lx
        obtain ⟨rfl, kp, oa, ob, op, oq, os, ol, ox, B⟩ := hcut
        obtain ⟨w10, hw_⟩ : ∃ x, x = wc := ⟨_, rfl⟩
        subst hw_
        replace Fna := Hid.mk_ (Fna.out.keeps kp)
        replace Fnb := Hid.mk_ (Fnb.out.keeps kp)
        replace Fnc := Hid.mk_ (Fnc.out.keeps kp)
        replace Fnd := Hid.mk_ (Fnd.out.keeps kp)
        replace Fr1_ := Hid.mk_ (Fr1_.out.keeps kp)
        replace kk := kk.trans kp
        clear kp
        have cl0 := ol.q0
        have cl1 := ol.q1
        have cl2 := ol.q2
        have cl3 := ol.q3
        have cl4 := ol.q4
        have cl5 := ol.q5
        have cl6 := ol.q6
        have cl7 := ol.q7
        have cl8 := ol.q8
        have cl9 := ol.q9
        have cl10 := ol.q10
        have cl11 := ol.q11
        have cl12 := ol.q12
        have cl13 := ol.q13
        have cl14 := ol.q14
        have cl15 := ol.q15
        have ll := ol.lt
        have hz_ := nzB Fnc.out.len
        rw [hzc] at hz_
        go_upto_region 18 with fail
        go_cut [119] (fun sl0  wx => sl0 = .bool (!zc) ∧ Keeps w10 wx ∧ Blk wx (w.heap.size) 23 #[.int .i64 (a), .int .i64 (b)] ∧ Blk wx (w.heap.size + 1) 23 #[.int .i64 (c), .int .i64 (d)] ∧ Blk wx (w4.heap.size) 23 #[.int .i64 (p0), .int .i64 (q0)] ∧ Blk wx (w5.heap.size) 23 #[.int .i64 (p1), .int .i64 (q1)] ∧ Blk wx (w6.heap.size) 23 #[.int .i64 (p2), .int .i64 (q2)] ∧ Blk wx (p16) 45 #[.bool na1, .slice na2 na3 na4, .bool na5, .slice na6 na7 na8, .bool nb1, .slice nb2 nb3 nb4, .bool nb5, .slice nb6 nb7 nb8, .bool nc1, .slice nc2 nc3 nc4, .bool nc5, .slice nc6 nc7 nc8, .bool nd1, .slice nd2 nd3 nd4, .bool nd5, .slice nd6 nd7 nd8] ∧ Blk wx (p23) 31 #[.bool r1_1, .slice r1_2 r1_3 r1_4, .bool r1_5, .slice r1_6 r1_7 r1_8] ∧ Below w.heap.size w wx)
        case first => as_aux_lemma =>
          have kk := Keeps.refl w10
          go_wp2_with fail
          go_meet
          exact ⟨by first | (rw [← hz_]; done) | (rw [← hz_]; simp), kk.trans keepsB, ownK, ownK, ownK, ownK, ownK, ownK, ownK, belowB⟩
        case rest =>
          clear cl0 cl1 cl2 cl3 cl4 cl5 cl6 cl7 cl8 cl9 cl10 cl11 cl12 cl13 cl14 cl15 ll
          obtain ⟨rfl, kp, oa, ob, op, oq, os, ol, ox, B⟩ := hcut
          obtain ⟨w11, hw_⟩ : ∃ x, x = wc := ⟨_, rfl⟩
          subst hw_
          replace Fna := Hid.mk_ (Fna.out.keeps kp)
          replace Fnb := Hid.mk_ (Fnb.out.keeps kp)
          replace Fnc := Hid.mk_ (Fnc.out.keeps kp)
          replace Fnd := Hid.mk_ (Fnd.out.keeps kp)
          replace Fr1_ := Hid.mk_ (Fr1_.out.keeps kp)
          replace kk := kk.trans kp
          clear kp hz_
          have cl0 := ol.q0
          have cl1 := ol.q1
          have cl2 := ol.q2
          have cl3 := ol.q3
          have cl4 := ol.q4
          have cl5 := ol.q5
          have cl6 := ol.q6
          have cl7 := ol.q7
          have cl8 := ol.q8
          have cl9 := ol.q9
          have cl10 := ol.q10
          have cl11 := ol.q11
          have cl12 := ol.q12
          have cl13 := ol.q13
          have cl14 := ol.q14
          have cl15 := ol.q15
          have ll := ol.lt
          cases hk : zc
          case true =>
            go_wp2_with fail
            go_meet
            exact ⟨rfl, rfl, by simp [hk], by simp [hk], kk.trans keepsB, ownK, ownK, ownK, ownK, ownK, ownK, belowB⟩
          case false =>
            have hnz : c ≠ 0 := by rw [hk] at hzc; simpa using hzc
            have zx_11 : p23 < w11.heap.size := ox.lt
            have zz11 := B.size
            go_upto_region 19 with fail
            refine Reg.wp_chain_n (fun N0 D v W => Below w.heap.size w W ∧ Keeps w11 W ∧ N0 ≤ W.heap.size ∧ Blk W (w.heap.size) 23 #[.int .i64 (a), .int .i64 (b)] ∧ Blk W (w.heap.size + 1) 23 #[.int .i64 (c), .int .i64 (d)] ∧ Blk W (w4.heap.size) 23 #[.int .i64 (p0), .int .i64 (q0)] ∧ Blk W (w5.heap.size) 23 #[.int .i64 (p1), .int .i64 (q1)] ∧ Blk W (w6.heap.size) 23 #[.int .i64 (p2), .int .i64 (q2)] ∧ Blk W (p16) 45 #[.bool na1, .slice na2 na3 na4, .bool na5, .slice na6 na7 na8, .bool nb1, .slice nb2 nb3 nb4, .bool nb5, .slice nb6 nb7 nb8, .bool nc1, .slice nc2 nc3 nc4, .bool nc5, .slice nc6 nc7 nc8, .bool nd1, .slice nd2 nd3 nd4, .bool nd5, .slice nd6 nd7 nd8] ∧ Blk W (p23) 31 #[.bool r1_1, .slice r1_2 r1_3 r1_4, .bool r1_5, .slice r1_6 r1_7 r1_8] ∧ (D 10 = true → ∃ g : Nat, v 10 = .pointer (some ⟨g, 0, none⟩) ∧ N0 ≤ g ∧ g < W.heap.size ∧ (D 11 = false → Blk W g 31 #[.bool false, .slice none 0 0, .bool false, .slice none 0 0]) ∧ (D 11 = true → D 6 = true ∧ ∃ cs, v 6 = .tuple #[.agg cs, .int .i64 0] ∧ Blk W g 31 cs)))
              (Reg.inl [6, 10, 11]) (Reg.gv [(6, IsFrE 0), (10, IsPtr)]) (gw [(6, GFrE (unitQ a / unitQ c) 0)]) (fun _ => Keeps) (fun _ _ => False) (Reg.pl [(11, [(6, some 127), (10, some 25)]), (13, [(6, some 127), (10, some 25)])]) (Reg.pl [(10, [11]), (6, [11])])
              (by kernel_rfl) (by kernel_rfl) (by kernel_rfl) (Reg.gv_some _ (by intro p hp; simp only [List.mem_cons, List.not_mem_nil, or_false] at hp; rcases hp with rfl | rfl <;> first | exact ⟨_, rfl⟩ | exact ⟨_, 0, rfl⟩ | exact ⟨_, none, 0, 0, rfl⟩ | exact ⟨_, false, none, 0, 0, rfl⟩ | exact ⟨_, false, none, 0, 0, false, none, 0, 0, rfl⟩)) (fun N0 hN0 => ⟨fun v => ?_, fun D v v' W hv hj => ?_, fun D v k j W W' x _ _ _ _ hk hg => gw_keeps _ (by intro p hp; simp only [List.mem_cons, List.not_mem_nil, or_false] at hp; rcases hp with rfl <;> first | exact GFr.keeps | exact GFrE.keeps | exact GNu.keeps | exact GNuE.keeps | exact GLi.keeps) hk hg, fun _ _ _ _ h => h.elim, fun ops' Q' hops hQ => ?_⟩)
            · exact ⟨belowB, keepsB, Nat.le_of_eq hN0.out, ownK, ownK, ownK, ownK, ownK, ownK, ownK, (fun h => Bool.noConfusion h)⟩
            · obtain ⟨j0, jk, jn, b_a, b_b, b_p, b_q, b_s, b_l, b_x, a_10⟩ := hj
              exact ⟨j0, jk, jn, b_a, b_b, b_p, b_q, b_s, b_l, b_x, fun h => by obtain ⟨g, e1, e2, e3, e4, e5⟩ := a_10 h; exact ⟨g, (hv 10 h) ▸ e1, e2, e3, e4, fun h => by obtain ⟨d, cs, e, hb⟩ := e5 h; exact ⟨d, cs, (hv 6 d) ▸ e, hb⟩⟩⟩
            have i_a : w.heap.size < N0 := by have e := hN0.out; (try simp only [World.size_alloc, World.size_setCell, World.size_drew, World.heap_drewN] at e); first | omega | (have h := oa.lt; omega)
            have i_b : w.heap.size + 1 < N0 := by have e := hN0.out; (try simp only [World.size_alloc, World.size_setCell, World.size_drew, World.heap_drewN] at e); first | omega | (have h := ob.lt; omega)
            have i_p : w4.heap.size < N0 := by have e := hN0.out; (try simp only [World.size_alloc, World.size_setCell, World.size_drew, World.heap_drewN] at e); first | omega | (have h := op.lt; omega)
            have i_q : w5.heap.size < N0 := by have e := hN0.out; (try simp only [World.size_alloc, World.size_setCell, World.size_drew, World.heap_drewN] at e); first | omega | (have h := oq.lt; omega)
            have i_s : w6.heap.size < N0 := by have e := hN0.out; (try simp only [World.size_alloc, World.size_setCell, World.size_drew, World.heap_drewN] at e); first | omega | (have h := os.lt; omega)
            have i_l : p16 < N0 := by have e := hN0.out; (try simp only [World.size_alloc, World.size_setCell, World.size_drew, World.heap_drewN] at e); first | omega | (have h := ol.lt; omega)
            have i_x : p23 < N0 := by have e := hN0.out; (try simp only [World.size_alloc, World.size_setCell, World.size_drew, World.heap_drewN] at e); first | omega | (have h := ox.lt; omega)
            have iw : w.heap.size ≤ N0 := by have e := hN0.out; (try simp only [World.size_alloc, World.size_setCell, World.size_drew, World.heap_drewN] at e); first | omega | (have h := B.size; omega)
            clear cl0 cl1 cl2 cl3 cl4 cl5 cl6 cl7 cl8 cl9 cl10 cl11 cl12 cl13 cl14 cl15 ll
            clear hN0
            apply Reg.RC_pure (hc := rfl) (hst := rfl) (hw := rfl) (t := 121) (hd := rfl) (ht := Nat.le_of_ble_eq_true rfl)
            · intro D v' W' hc hj hf K hK
              go_step
              exact hK.out
            · rfl
            apply Reg.RC_pure (hc := rfl) (hst := rfl) (hw := rfl) (t := 122) (hd := rfl) (ht := Nat.le_of_ble_eq_true rfl)
            · intro D v' W' hc hj hf K hK
              go_step
              exact hK.out
            · rfl
            apply Reg.RC_pure (hc := rfl) (hst := rfl) (hw := rfl) (t := 123) (hd := rfl) (ht := Nat.le_of_ble_eq_true rfl)
            · intro D v' W' hc hj hf K hK
              obtain ⟨j0, jk, jn, b_a, b_b, b_p, b_q, b_s, b_l, b_x, a_10⟩ := hj
              have c0 : W'.cell? ⟨p16, 0, none⟩ = some (.bool na1) := b_l.c 0 rfl
              have c1 : W'.cell? ⟨p16, 1, none⟩ = some (.slice na2 na3 na4) := b_l.c 1 rfl
              have c2 : W'.cell? ⟨p16, 2, none⟩ = some (.bool na5) := b_l.c 2 rfl
              have c3 : W'.cell? ⟨p16, 3, none⟩ = some (.slice na6 na7 na8) := b_l.c 3 rfl
              have c4 : W'.cell? ⟨p16, 4, none⟩ = some (.bool nb1) := b_l.c 4 rfl
              have c5 : W'.cell? ⟨p16, 5, none⟩ = some (.slice nb2 nb3 nb4) := b_l.c 5 rfl
              have c6 : W'.cell? ⟨p16, 6, none⟩ = some (.bool nb5) := b_l.c 6 rfl
              have c7 : W'.cell? ⟨p16, 7, none⟩ = some (.slice nb6 nb7 nb8) := b_l.c 7 rfl
              have c8 : W'.cell? ⟨p16, 8, none⟩ = some (.bool nc1) := b_l.c 8 rfl
              have c9 : W'.cell? ⟨p16, 9, none⟩ = some (.slice nc2 nc3 nc4) := b_l.c 9 rfl
              have c10 : W'.cell? ⟨p16, 10, none⟩ = some (.bool nc5) := b_l.c 10 rfl
              have c11 : W'.cell? ⟨p16, 11, none⟩ = some (.slice nc6 nc7 nc8) := b_l.c 11 rfl
              have c12 : W'.cell? ⟨p16, 12, none⟩ = some (.bool nd1) := b_l.c 12 rfl
              have c13 : W'.cell? ⟨p16, 13, none⟩ = some (.slice nd2 nd3 nd4) := b_l.c 13 rfl
              have c14 : W'.cell? ⟨p16, 14, none⟩ = some (.bool nd5) := b_l.c 14 rfl
              have c15 : W'.cell? ⟨p16, 15, none⟩ = some (.slice nd6 nd7 nd8) := b_l.c 15 rfl
              go_step
              exact hK.out
            · rfl
            apply Reg.RC_pure (hc := rfl) (hst := rfl) (hw := rfl) (t := 124) (hd := rfl) (ht := Nat.le_of_ble_eq_true rfl)
            · intro D v' W' hc hj hf K hK
              go_step
              exact hK.out
            · rfl
            apply Reg.RC_pure (hc := rfl) (hst := rfl) (hw := rfl) (t := 125) (hd := rfl) (ht := Nat.le_of_ble_eq_true rfl)
            · intro D v' W' hc hj hf K hK
              go_step
              exact hK.out
            · rfl
            apply Reg.RC_pure (hc := rfl) (hst := rfl) (hw := rfl) (t := 126) (hd := rfl) (ht := Nat.le_of_ble_eq_true rfl)
            · intro D v' W' hc hj hf K hK
              obtain ⟨j0, jk, jn, b_a, b_b, b_p, b_q, b_s, b_l, b_x, a_10⟩ := hj
              have c0 : W'.cell? ⟨p16, 0, none⟩ = some (.bool na1) := b_l.c 0 rfl
              have c1 : W'.cell? ⟨p16, 1, none⟩ = some (.slice na2 na3 na4) := b_l.c 1 rfl
              have c2 : W'.cell? ⟨p16, 2, none⟩ = some (.bool na5) := b_l.c 2 rfl
              have c3 : W'.cell? ⟨p16, 3, none⟩ = some (.slice na6 na7 na8) := b_l.c 3 rfl
              have c4 : W'.cell? ⟨p16, 4, none⟩ = some (.bool nb1) := b_l.c 4 rfl
              have c5 : W'.cell? ⟨p16, 5, none⟩ = some (.slice nb2 nb3 nb4) := b_l.c 5 rfl
              have c6 : W'.cell? ⟨p16, 6, none⟩ = some (.bool nb5) := b_l.c 6 rfl
              have c7 : W'.cell? ⟨p16, 7, none⟩ = some (.slice nb6 nb7 nb8) := b_l.c 7 rfl
              have c8 : W'.cell? ⟨p16, 8, none⟩ = some (.bool nc1) := b_l.c 8 rfl
              have c9 : W'.cell? ⟨p16, 9, none⟩ = some (.slice nc2 nc3 nc4) := b_l.c 9 rfl
              have c10 : W'.cell? ⟨p16, 10, none⟩ = some (.bool nc5) := b_l.c 10 rfl
              have c11 : W'.cell? ⟨p16, 11, none⟩ = some (.slice nc6 nc7 nc8) := b_l.c 11 rfl
              have c12 : W'.cell? ⟨p16, 12, none⟩ = some (.bool nd1) := b_l.c 12 rfl
              have c13 : W'.cell? ⟨p16, 13, none⟩ = some (.slice nd2 nd3 nd4) := b_l.c 13 rfl
              have c14 : W'.cell? ⟨p16, 14, none⟩ = some (.bool nd5) := b_l.c 14 rfl
              have c15 : W'.cell? ⟨p16, 15, none⟩ = some (.slice nd6 nd7 nd8) := b_l.c 15 rfl
              go_step
              exact hK.out
            · rfl
            refine Reg.RC_call rfl (by intro t ht; cases ht; exact Nat.le_of_ble_eq_true rfl) rfl (fun D v' W' hc hj hf K hK => ?_) ?_
            · obtain ⟨j0, jk, jn, b_a, b_b, b_p, b_q, b_s, b_l, b_x, a_10⟩ := hj
              clear hf
              go_step
              refine (rOverQ W' (Fna.out.keeps jk) (Fnc.out.keeps jk) sa sc (by omega) (unit_ne hnz)).mono ?_
              rintro e W2 ⟨u, rfl, hu, hs⟩
              obtain ⟨r2_1, r2_2, r2_3, r2_4, r2_5, r2_6, r2_7, r2_8, rfl⟩ := hu.shape
              exact hK.out _ W2 (Keeps.steps hs) ⟨below_steps j0 (Nat.le_refl _) hs, jk.then_ hs, Nat.le_trans jn hs.size, b_a.steps hs, b_b.steps hs, b_p.steps hs, b_q.steps hs, b_s.steps hs, b_l.steps hs, b_x.steps hs, fun h => by obtain ⟨g, e1, e2, e3, e4, e5⟩ := a_10 h; exact ⟨g, e1, e2, Nat.lt_of_lt_of_le e3 (hs).size, fun h => (e4 h).steps hs, fun h => Bool.noConfusion ((hc.2 11 (by decide)).symm.trans h)⟩⟩ ⟨_, rfl, hu⟩ ⟨_, _, _, _, _, _, _, _, rfl⟩
            rintro _ ⟨r2_1, r2_2, r2_3, r2_4, r2_5, r2_6, r2_7, r2_8, rfl⟩
            refine Reg.RC_at (b := ⟨#[_,_,_,_,_,_,_,_,_,_,_,_,_,_,_,_,_,_,_,_,_,_,_,_,_,_,_,_,_,_,_,_,_,_,_,_,_,_,_,_,_,_,_,_,_,_,_,_,_,_,_,_,_,_,_,_,_,_,_,_,_,_,_,_,_,_,_,_,_,_,_,_,_,_,_,_,_,_,_,_,_,_,_,_,_,_,_,_,_,_,_,_,_,_,_,_,_,_,_,_,_,_,_,_,_,_,_,_,_,_,_,_,_,_,_,_,_,_,_,_,_,_,_,_,_,_,_,_,_,_,_,_,_,_,_,_,_,_,_,_,_,_,_,_,_,_,_,_,_,_,_,_,_,_,_,_,_,_,_,_,_,_,_,_,_,_,_,_,_,_,_,_,_,_,_,_,_,_,_,_,_,_,_,_,_,_,_,_,_,_,_,_,_,_,_,_,_,_,_,_,_,_,_,_,_,_,_,_,_,_,_,_,_,_,_,_,_,_,_,_], _⟩) rfl ?_
            apply Reg.RC_pure (hc := rfl) (hst := rfl) (hw := rfl) (t := 120) (hd := rfl) (ht := Nat.le_of_ble_eq_true rfl)
            · intro D v' W' hc hj hf K hK
              go_step
              exact hK.out
            · rfl
            apply Reg.RC_pure (hc := rfl) (hst := rfl) (hw := rfl) (t := 128) (hd := rfl) (ht := Nat.le_of_ble_eq_true rfl)
            · intro D v' W' hc hj hf K hK
              go_step
              exact hK.out
            · rfl
            apply Reg.RC_pure (hc := rfl) (hst := rfl) (hw := rfl) (t := 129) (hd := rfl) (ht := Nat.le_of_ble_eq_true rfl)
            · intro D v' W' hc hj hf K hK
              go_step
              exact hK.out
            · rfl
            refine Reg.RC_call rfl (by intro t ht; cases ht; exact Nat.le_of_ble_eq_true rfl) rfl (fun D v' W' hc hj hf K hK => ?_) ?_
            · obtain ⟨j0, jk, jn, b_a, b_b, b_p, b_q, b_s, b_l, b_x, a_10⟩ := hj
              go_step
              have hs : ∀ o : Obj, Steps W' (W'.alloc o) := fun o => (Below.refl _ _).alloc (Nat.le_refl _) o
              exact hK.out _ _ (Keeps.steps (hs _)) ⟨below_steps j0 (Nat.le_refl _) (hs _), jk.then_ (hs _), Nat.le_trans jn (hs _).size, b_a.steps (hs _), b_b.steps (hs _), b_p.steps (hs _), b_q.steps (hs _), b_s.steps (hs _), b_l.steps (hs _), b_x.steps (hs _), fun _ => ⟨W'.heap.size, rfl, jn, by rw [World.size_alloc]; omega, fun _ => Blk.new _ _ _, fun h => Bool.noConfusion ((hc.2 11 (by decide)).symm.trans h)⟩⟩ trivial ⟨_, rfl⟩
            rintro _ ⟨p25, rfl⟩
            refine Reg.RC_at (b := ⟨#[_,_,_,_,_,_,_,_,_,_,_,_,_,_,_,_,_,_,_,_,_,_,_,_,_,_,_,_,_,_,_,_,_,_,_,_,_,_,_,_,_,_,_,_,_,_,_,_,_,_,_,_,_,_,_,_,_,_,_,_,_,_,_,_,_,_,_,_,_,_,_,_,_,_,_,_,_,_,_,_,_,_,_,_,_,_,_,_,_,_,_,_,_,_,_,_,_,_,_,_,_,_,_,_,_,_,_,_,_,_,_,_,_,_,_,_,_,_,_,_,_,_,_,_,_,_,_,_,_,_,_,_,_,_,_,_,_,_,_,_,_,_,_,_,_,_,_,_,_,_,_,_,_,_,_,_,_,_,_,_,_,_,_,_,_,_,_,_,_,_,_,_,_,_,_,_,_,_,_,_,_,_,_,_,_,_,_,_,_,_,_,_,_,_,_,_,_,_,_,_,_,_,_,_,_,_,_,_,_,_,_,_,_,_,_,_,_,_,_,_], _⟩) rfl ?_
            refine Reg.RC_call rfl (by intro t ht; cases ht) rfl (fun D v' W' hc hj hf K hK => ?_) (fun _ _ => Reg.RC_at (b := ⟨_, _⟩) rfl ?_)
            · obtain ⟨j0, jk, jn, b_a, b_b, b_p, b_q, b_s, b_l, b_x, a_10⟩ := hj
              have f := hf (10, some 25) (.tail _ (.head _)) rfl
              have e6 : v' 10 = .pointer (some ⟨p25, 0, none⟩) := f.2.1
              obtain ⟨g, e1, e2, e3, e4, e5⟩ := a_10 f.1
              obtain rfl : p25 = g := Reg.ptr_eq (e6.symm.trans e1)
              have hb := e4 hc.1
              clear e4 e5
              have fc := hf (6, some 127) (.head _) rfl
              have ec : v' 6 = .tuple #[.agg #[.bool r2_1, .slice r2_2 r2_3 r2_4, .bool r2_5, .slice r2_6 r2_7 r2_8], .int .i64 0] := fc.2.1
              have ff := hb.fr
              have cc0 : W'.cell? ⟨p25, 0, none⟩ = some (.bool false) := hb.c 0 rfl
              have cc1 : W'.cell? ⟨p25, 1, none⟩ = some (.slice none 0 0) := hb.c 1 rfl
              have cc2 : W'.cell? ⟨p25, 2, none⟩ = some (.bool false) := hb.c 2 rfl
              have cc3 : W'.cell? ⟨p25, 3, none⟩ = some (.slice none 0 0) := hb.c 3 rfl
              go_step
              exact hK.out undef _ (Keeps.only hb rfl ((Only.refl _ _).set.set.set.set)) ⟨(Below.setCell (p := ⟨p25, 3, none⟩) (Below.setCell (p := ⟨p25, 2, none⟩) (Below.setCell (p := ⟨p25, 1, none⟩) (Below.setCell (p := ⟨p25, 0, none⟩) j0 (by show w.heap.size ≤ p25; omega) _) (by show w.heap.size ≤ p25; omega) _) (by show w.heap.size ≤ p25; omega) _) (by show w.heap.size ≤ p25; omega) _), jk.trans (Keeps.only hb rfl ((Only.refl _ _).set.set.set.set)), by simpa using jn, ((((b_a).far' (show w.heap.size ≠ p25 by omega)).far' (show w.heap.size ≠ p25 by omega)).far' (show w.heap.size ≠ p25 by omega)).far' (show w.heap.size ≠ p25 by omega), ((((b_b).far' (show w.heap.size + 1 ≠ p25 by omega)).far' (show w.heap.size + 1 ≠ p25 by omega)).far' (show w.heap.size + 1 ≠ p25 by omega)).far' (show w.heap.size + 1 ≠ p25 by omega), ((((b_p).far' (show w4.heap.size ≠ p25 by omega)).far' (show w4.heap.size ≠ p25 by omega)).far' (show w4.heap.size ≠ p25 by omega)).far' (show w4.heap.size ≠ p25 by omega), ((((b_q).far' (show w5.heap.size ≠ p25 by omega)).far' (show w5.heap.size ≠ p25 by omega)).far' (show w5.heap.size ≠ p25 by omega)).far' (show w5.heap.size ≠ p25 by omega), ((((b_s).far' (show w6.heap.size ≠ p25 by omega)).far' (show w6.heap.size ≠ p25 by omega)).far' (show w6.heap.size ≠ p25 by omega)).far' (show w6.heap.size ≠ p25 by omega), ((((b_l).far' (show p16 ≠ p25 by omega)).far' (show p16 ≠ p25 by omega)).far' (show p16 ≠ p25 by omega)).far' (show p16 ≠ p25 by omega), ((((b_x).far' (show p23 ≠ p25 by omega)).far' (show p23 ≠ p25 by omega)).far' (show p23 ≠ p25 by omega)).far' (show p23 ≠ p25 by omega), fun _ => ⟨p25, e1, e2, by simpa using e3, fun h => Bool.noConfusion h, fun _ => ⟨fc.1, _, ec, (Blk.set2 (cs' := #[.bool r2_1, .slice r2_2 r2_3 r2_4, .bool r2_5, .slice r2_6 r2_7 r2_8]) (Blk.set2 (cs' := #[.bool r2_1, .slice r2_2 r2_3 r2_4, .bool r2_5, .slice none 0 0]) (Blk.set2 (cs' := #[.bool r2_1, .slice r2_2 r2_3 r2_4, .bool false, .slice none 0 0]) (Blk.set2 (cs' := #[.bool r2_1, .slice none 0 0, .bool false, .slice none 0 0]) hb (i := 0) rfl) (i := 1) rfl) (i := 2) rfl) (i := 3) rfl)⟩⟩⟩ trivial trivial
            apply Reg.RC_pure (hc := rfl) (hst := rfl) (hw := rfl) (t := 26) (hd := rfl) (ht := Nat.le_of_ble_eq_true rfl)
            · intro D v' W' hc hj hf K hK
              go_step
              exact hK.out
            · rfl
            refine Reg.RC_end (fun Dn v' w12 hd hj hf => ?_)
            obtain ⟨j0, jk, jn, b_a, b_b, b_p, b_q, b_s, b_l, b_x, a_10⟩ := hj
            have B := j0
            have oa := b_a
            clear b_a
            have ob := b_b
            clear b_b
            have op := b_p
            clear b_p
            have oq := b_q
            clear b_q
            have os := b_s
            clear b_s
            have ol := b_l
            clear b_l
            have ox := b_x
            clear b_x
            have f := hf (10, some 25) (.tail _ (.head _)) rfl
            have e6_ : v' 10 = .pointer (some ⟨p25, 0, none⟩) := f.2.1
            obtain ⟨g, e1_, zy, -, -, e5_⟩ := a_10 f.1
            obtain rfl : p25 = g := Reg.ptr_eq (e6_.symm.trans e1_)
            obtain ⟨-, cs_, ee, oy⟩ := e5_ (hd 11 (Nat.le_of_ble_eq_true rfl))
            have ef : v' 6 = .tuple #[.agg #[.bool r2_1, .slice r2_2 r2_3 r2_4, .bool r2_5, .slice r2_6 r2_7 r2_8], .int .i64 0] := (hf (6, some 127) (.head _) rfl).2.1
            obtain rfl : #[.bool r2_1, .slice r2_2 r2_3 r2_4, .bool r2_5, .slice r2_6 r2_7 r2_8] = cs_ := by have := ef.symm.trans ee; simpa only [Value.tuple.injEq, Value.agg.injEq, Array.mk.injEq, List.cons.injEq, and_true, true_and] using this
            clear ee ef f e5_ e1_ e6_
            have Fr2_ := Hid.mk_ (GFrE.get (r := unitQ a / unitQ c) (e := 0) (v := .agg #[.bool r2_1, .slice r2_2 r2_3 r2_4, .bool r2_5, .slice r2_6 r2_7 r2_8]) (hf (6, some 127) (.head _) rfl).2.2)
            replace Fna := Hid.mk_ (Fna.out.keeps jk)
            replace Fnb := Hid.mk_ (Fnb.out.keeps jk)
            replace Fnc := Hid.mk_ (Fnc.out.keeps jk)
            replace Fnd := Hid.mk_ (Fnd.out.keeps jk)
            replace Fr1_ := Hid.mk_ (Fr1_.out.keeps jk)
            replace kk := kk.trans jk
            clear hd hf jk j0
            refine hQ _ _ ?_
            clear hQ hops Q' ops'
            have cq0 := oq.q0
            have cq1 := oq.q1
            have lq := oq.lt
            have cy0 := oy.q0
            have cy1 := oy.q1
            have cy2 := oy.q2
            have cy3 := oy.q3
            have ly := oy.lt
            go_wp2_with fail
            refine (cS0 hnz _ _ (Fr2_.out.keeps keepsB)).mono ?_
            rintro e w13 ⟨rfl, hb13⟩
            have st : Steps _ w13 := hb13
            have sk : Below w12.heap.size w12 w13 := belowA st
            replace B := below_steps B (Nat.le_refl _) sk
            replace oa := oa.steps sk
            replace ob := ob.steps sk
            replace op := op.steps sk
            replace oq := oq.steps sk
            replace os := os.steps sk
            replace ol := ol.steps sk
            replace ox := ox.steps sk
            replace oy := oy.steps sk
            replace Fna := Hid.mk_ (Fna.out.steps sk)
            replace Fnb := Hid.mk_ (Fnb.out.steps sk)
            replace Fnc := Hid.mk_ (Fnc.out.steps sk)
            replace Fnd := Hid.mk_ (Fnd.out.steps sk)
            replace Fr1_ := Hid.mk_ (Fr1_.out.steps sk)
            replace Fr2_ := Hid.mk_ (Fr2_.out.steps sk)
            replace kk := kk.then_ sk
            clear st sk cq0 cq1 lq cy0 cy1 cy2 cy3 ly
            have cq0 := oq.q0
            have cq1 := oq.q1
            have lq := oq.lt
            have cy0 := oy.q0
            have cy1 := oy.q1
            have cy2 := oy.q2
            have cy3 := oy.q3
            have ly := oy.lt
            go_wp2_with fail
            refine (cR0 hnz _ _ (Fr2_.out.keeps keepsB)).mono ?_
            rintro e w14 ⟨rfl, hb14⟩
            have st : Steps _ w14 := hb14
            have sk : Below w13.heap.size w13 w14 := belowA st
            replace B := below_steps B (Nat.le_refl _) sk
            replace oa := oa.steps sk
            replace ob := ob.steps sk
            replace op := op.steps sk
            replace oq := oq.steps sk
            replace os := os.steps sk
            replace ol := ol.steps sk
            replace ox := ox.steps sk
            replace oy := oy.steps sk
            replace Fna := Hid.mk_ (Fna.out.steps sk)
            replace Fnb := Hid.mk_ (Fnb.out.steps sk)
            replace Fnc := Hid.mk_ (Fnc.out.steps sk)
            replace Fnd := Hid.mk_ (Fnd.out.steps sk)
            replace Fr1_ := Hid.mk_ (Fr1_.out.steps sk)
            replace Fr2_ := Hid.mk_ (Fr2_.out.steps sk)
            replace kk := kk.then_ sk
            clear st sk cq0 cq1 lq cy0 cy1 cy2 cy3 ly
            go_wp2_with fail
            go_meet
            exact ⟨rfl, rfl, by simp [hk], by simp [hk], kk.trans keepsB, ownK, ownK, ownK, ownK, ownK, ownK, belowB⟩
  case rest =>
    clear cl0 cl1 cl2 cl3 cl4 cl5 cl6 cl7 cl8 cl9 cl10 cl11 cl12 cl13 cl14 cl15 ll
    obtain ⟨rfl, rfl, rfl, rfl, kp, oa, ob, op, oq, os, ol, B⟩ := hcut
    obtain ⟨w8, hw_⟩ : ∃ x, x = wc := ⟨_, rfl⟩
    subst hw_
    replace Fna := Hid.mk_ (Fna.out.keeps kp)
    replace Fnb := Hid.mk_ (Fnb.out.keeps kp)
    replace Fnc := Hid.mk_ (Fnc.out.keeps kp)
    replace Fnd := Hid.mk_ (Fnd.out.keeps kp)
    clear kp
    have cl0 := ol.q0
    have cl1 := ol.q1
    have cl2 := ol.q2
    have cl3 := ol.q3
    have cl4 := ol.q4
    have cl5 := ol.q5
    have cl6 := ol.q6
    have cl7 := ol.q7
    have cl8 := ol.q8
    have cl9 := ol.q9
    have cl10 := ol.q10
    have cl11 := ol.q11
    have cl12 := ol.q12
    have cl13 := ol.q13
    have cl14 := ol.q14
    have cl15 := ol.q15
    have ll := ol.lt
    obtain ⟨glow0, hglow0⟩ : ∃ q_, (false || L0) = q_ := ⟨_, rfl⟩
    rw [hglow0]
    obtain ⟨ghigh0, hghigh0⟩ : ∃ q_, (false || H0) = q_ := ⟨_, rfl⟩
    rw [hghigh0]
    obtain ⟨gless0, hgless0⟩ : ∃ q_, (false || (!zc && S0)) = q_ := ⟨_, rfl⟩
    rw [hgless0]
    obtain ⟨gmore0, hgmore0⟩ : ∃ q_, (false || (!zc && R0)) = q_ := ⟨_, rfl⟩
    rw [hgmore0]
    clear cL0 cH0 cS0 cR0
    go_wp2_with fail
    rw [rounds_succ]
    go_upto_block 3 with fail
    go_cut [17, 18, 19, 20] (fun sl0 sl1 sl2 sl3  wx => sl0 = .bool (glow0 || L1) ∧ sl1 = .bool (ghigh0 || H1) ∧ sl2 = .bool (gless0 || (!zd && S1)) ∧ sl3 = .bool (gmore0 || (!zd && R1)) ∧ Keeps w8 wx ∧ Blk wx (w.heap.size) 23 #[.int .i64 (a), .int .i64 (b)] ∧ Blk wx (w.heap.size + 1) 23 #[.int .i64 (c), .int .i64 (d)] ∧ Blk wx (w4.heap.size) 23 #[.int .i64 (p0), .int .i64 (q0)] ∧ Blk wx (w5.heap.size) 23 #[.int .i64 (p1), .int .i64 (q1)] ∧ Blk wx (w6.heap.size) 23 #[.int .i64 (p2), .int .i64 (q2)] ∧ Blk wx (p16) 45 #[.bool na1, .slice na2 na3 na4, .bool na5, .slice na6 na7 na8, .bool nb1, .slice nb2 nb3 nb4, .bool nb5, .slice nb6 nb7 nb8, .bool nc1, .slice nc2 nc3 nc4, .bool nc5, .slice nc6 nc7 nc8, .bool nd1, .slice nd2 nd3 nd4, .bool nd5, .slice nd6 nd7 nd8] ∧ Below w.heap.size w wx)
    case first => as_aux_lemma =>
      have kk := Keeps.refl w8
      have zl_8 : p16 < w8.heap.size := ol.lt
      have zz8 := B.size
      go_upto_region 15 with fail
      refine Reg.wp_chain_n (fun N0 D v W => Below w.heap.size w W ∧ Keeps w8 W ∧ N0 ≤ W.heap.size ∧ Blk W (w.heap.size) 23 #[.int .i64 (a), .int .i64 (b)] ∧ Blk W (w.heap.size + 1) 23 #[.int .i64 (c), .int .i64 (d)] ∧ Blk W (w4.heap.size) 23 #[.int .i64 (p0), .int .i64 (q0)] ∧ Blk W (w5.heap.size) 23 #[.int .i64 (p1), .int .i64 (q1)] ∧ Blk W (w6.heap.size) 23 #[.int .i64 (p2), .int .i64 (q2)] ∧ Blk W (p16) 45 #[.bool na1, .slice na2 na3 na4, .bool na5, .slice na6 na7 na8, .bool nb1, .slice nb2 nb3 nb4, .bool nb5, .slice nb6 nb7 nb8, .bool nc1, .slice nc2 nc3 nc4, .bool nc5, .slice nc6 nc7 nc8, .bool nd1, .slice nd2 nd3 nd4, .bool nd5, .slice nd6 nd7 nd8] ∧ (D 10 = true → ∃ g : Nat, v 10 = .pointer (some ⟨g, 0, none⟩) ∧ N0 ≤ g ∧ g < W.heap.size ∧ (D 11 = false → Blk W g 31 #[.bool false, .slice none 0 0, .bool false, .slice none 0 0]) ∧ (D 11 = true → D 6 = true ∧ ∃ cs, v 6 = .tuple #[.agg cs, .int .i64 0] ∧ Blk W g 31 cs)))
        (Reg.inl [6, 10, 11]) (Reg.gv [(6, IsFrE 0), (10, IsPtr)]) (gw [(6, GFrE (unitQ a * unitQ d) 0)]) (fun _ => Keeps) (fun _ _ => False) (Reg.pl [(11, [(6, some 96), (10, some 23)]), (13, [(6, some 96), (10, some 23)])]) (Reg.pl [(10, [11]), (6, [11])])
        (by kernel_rfl) (by kernel_rfl) (by kernel_rfl) (Reg.gv_some _ (by intro p hp; simp only [List.mem_cons, List.not_mem_nil, or_false] at hp; rcases hp with rfl | rfl <;> first | exact ⟨_, rfl⟩ | exact ⟨_, 0, rfl⟩ | exact ⟨_, none, 0, 0, rfl⟩ | exact ⟨_, false, none, 0, 0, rfl⟩ | exact ⟨_, false, none, 0, 0, false, none, 0, 0, rfl⟩)) (fun N0 hN0 => ⟨fun v => ?_, fun D v v' W hv hj => ?_, fun D v k j W W' x _ _ _ _ hk hg => gw_keeps _ (by intro p hp; simp only [List.mem_cons, List.not_mem_nil, or_false] at hp; rcases hp with rfl <;> first | exact GFr.keeps | exact GFrE.keeps | exact GNu.keeps | exact GNuE.keeps | exact GLi.keeps) hk hg, fun _ _ _ _ h => h.elim, fun ops' Q' hops hQ => ?_⟩)
      · exact ⟨belowB, keepsB, Nat.le_of_eq hN0.out, ownK, ownK, ownK, ownK, ownK, ownK, (fun h => Bool.noConfusion h)⟩
      · obtain ⟨j0, jk, jn, b_a, b_b, b_p, b_q, b_s, b_l, a_10⟩ := hj
        exact ⟨j0, jk, jn, b_a, b_b, b_p, b_q, b_s, b_l, fun h => by obtain ⟨g, e1, e2, e3, e4, e5⟩ := a_10 h; exact ⟨g, (hv 10 h) ▸ e1, e2, e3, e4, fun h => by obtain ⟨d, cs, e, hb⟩ := e5 h; exact ⟨d, cs, (hv 6 d) ▸ e, hb⟩⟩⟩
      have i_a : w.heap.size < N0 := by have e := hN0.out; (try simp only [World.size_alloc, World.size_setCell, World.size_drew, World.heap_drewN] at e); first | omega | (have h := oa.lt; omega)
      have i_b : w.heap.size + 1 < N0 := by have e := hN0.out; (try simp only [World.size_alloc, World.size_setCell, World.size_drew, World.heap_drewN] at e); first | omega | (have h := ob.lt; omega)
      have i_p : w4.heap.size < N0 := by have e := hN0.out; (try simp only [World.size_alloc, World.size_setCell, World.size_drew, World.heap_drewN] at e); first | omega | (have h := op.lt; omega)
      have i_q : w5.heap.size < N0 := by have e := hN0.out; (try simp only [World.size_alloc, World.size_setCell, World.size_drew, World.heap_drewN] at e); first | omega | (have h := oq.lt; omega)
      have i_s : w6.heap.size < N0 := by have e := hN0.out; (try simp only [World.size_alloc, World.size_setCell, World.size_drew, World.heap_drewN] at e); first | omega | (have h := os.lt; omega)
      have i_l : p16 < N0 := by have e := hN0.out; (try simp only [World.size_alloc, World.size_setCell, World.size_drew, World.heap_drewN] at e); first | omega | (have h := ol.lt; omega)
      have iw : w.heap.size ≤ N0 := by have e := hN0.out; (try simp only [World.size_alloc, World.size_setCell, World.size_drew, World.heap_drewN] at e); first | omega | (have h := B.size; omega)
      clear cl0 cl1 cl2 cl3 cl4 cl5 cl6 cl7 cl8 cl9 cl10 cl11 cl12 cl13 cl14 cl15 ll
      clear hN0
      apply Reg.RC_pure (hc := rfl) (hst := rfl) (hw := rfl) (t := 90) (hd := rfl) (ht := Nat.le_of_ble_eq_true rfl)
      · intro D v' W' hc hj hf K hK
        go_step
        exact hK.out
      · rfl
      apply Reg.RC_pure (hc := rfl) (hst := rfl) (hw := rfl) (t := 91) (hd := rfl) (ht := Nat.le_of_ble_eq_true rfl)
      · intro D v' W' hc hj hf K hK
        go_step
        exact hK.out
      · rfl
      apply Reg.RC_pure (hc := rfl) (hst := rfl) (hw := rfl) (t := 92) (hd := rfl) (ht := Nat.le_of_ble_eq_true rfl)
      · intro D v' W' hc hj hf K hK
        obtain ⟨j0, jk, jn, b_a, b_b, b_p, b_q, b_s, b_l, a_10⟩ := hj
        have c0 : W'.cell? ⟨p16, 0, none⟩ = some (.bool na1) := b_l.c 0 rfl
        have c1 : W'.cell? ⟨p16, 1, none⟩ = some (.slice na2 na3 na4) := b_l.c 1 rfl
        have c2 : W'.cell? ⟨p16, 2, none⟩ = some (.bool na5) := b_l.c 2 rfl
        have c3 : W'.cell? ⟨p16, 3, none⟩ = some (.slice na6 na7 na8) := b_l.c 3 rfl
        have c4 : W'.cell? ⟨p16, 4, none⟩ = some (.bool nb1) := b_l.c 4 rfl
        have c5 : W'.cell? ⟨p16, 5, none⟩ = some (.slice nb2 nb3 nb4) := b_l.c 5 rfl
        have c6 : W'.cell? ⟨p16, 6, none⟩ = some (.bool nb5) := b_l.c 6 rfl
        have c7 : W'.cell? ⟨p16, 7, none⟩ = some (.slice nb6 nb7 nb8) := b_l.c 7 rfl
        have c8 : W'.cell? ⟨p16, 8, none⟩ = some (.bool nc1) := b_l.c 8 rfl
        have c9 : W'.cell? ⟨p16, 9, none⟩ = some (.slice nc2 nc3 nc4) := b_l.c 9 rfl
        have c10 : W'.cell? ⟨p16, 10, none⟩ = some (.bool nc5) := b_l.c 10 rfl
        have c11 : W'.cell? ⟨p16, 11, none⟩ = some (.slice nc6 nc7 nc8) := b_l.c 11 rfl
        have c12 : W'.cell? ⟨p16, 12, none⟩ = some (.bool nd1) := b_l.c 12 rfl
        have c13 : W'.cell? ⟨p16, 13, none⟩ = some (.slice nd2 nd3 nd4) := b_l.c 13 rfl
        have c14 : W'.cell? ⟨p16, 14, none⟩ = some (.bool nd5) := b_l.c 14 rfl
        have c15 : W'.cell? ⟨p16, 15, none⟩ = some (.slice nd6 nd7 nd8) := b_l.c 15 rfl
        go_step
        exact hK.out
      · rfl
      apply Reg.RC_pure (hc := rfl) (hst := rfl) (hw := rfl) (t := 93) (hd := rfl) (ht := Nat.le_of_ble_eq_true rfl)
      · intro D v' W' hc hj hf K hK
        go_step
        exact hK.out
      · rfl
      apply Reg.RC_pure (hc := rfl) (hst := rfl) (hw := rfl) (t := 94) (hd := rfl) (ht := Nat.le_of_ble_eq_true rfl)
      · intro D v' W' hc hj hf K hK
        go_step
        exact hK.out
      · rfl
      apply Reg.RC_pure (hc := rfl) (hst := rfl) (hw := rfl) (t := 95) (hd := rfl) (ht := Nat.le_of_ble_eq_true rfl)
      · intro D v' W' hc hj hf K hK
        obtain ⟨j0, jk, jn, b_a, b_b, b_p, b_q, b_s, b_l, a_10⟩ := hj
        have c0 : W'.cell? ⟨p16, 0, none⟩ = some (.bool na1) := b_l.c 0 rfl
        have c1 : W'.cell? ⟨p16, 1, none⟩ = some (.slice na2 na3 na4) := b_l.c 1 rfl
        have c2 : W'.cell? ⟨p16, 2, none⟩ = some (.bool na5) := b_l.c 2 rfl
        have c3 : W'.cell? ⟨p16, 3, none⟩ = some (.slice na6 na7 na8) := b_l.c 3 rfl
        have c4 : W'.cell? ⟨p16, 4, none⟩ = some (.bool nb1) := b_l.c 4 rfl
        have c5 : W'.cell? ⟨p16, 5, none⟩ = some (.slice nb2 nb3 nb4) := b_l.c 5 rfl
        have c6 : W'.cell? ⟨p16, 6, none⟩ = some (.bool nb5) := b_l.c 6 rfl
        have c7 : W'.cell? ⟨p16, 7, none⟩ = some (.slice nb6 nb7 nb8) := b_l.c 7 rfl
        have c8 : W'.cell? ⟨p16, 8, none⟩ = some (.bool nc1) := b_l.c 8 rfl
        have c9 : W'.cell? ⟨p16, 9, none⟩ = some (.slice nc2 nc3 nc4) := b_l.c 9 rfl
        have c10 : W'.cell? ⟨p16, 10, none⟩ = some (.bool nc5) := b_l.c 10 rfl
        have c11 : W'.cell? ⟨p16, 11, none⟩ = some (.slice nc6 nc7 nc8) := b_l.c 11 rfl
        have c12 : W'.cell? ⟨p16, 12, none⟩ = some (.bool nd1) := b_l.c 12 rfl
        have c13 : W'.cell? ⟨p16, 13, none⟩ = some (.slice nd2 nd3 nd4) := b_l.c 13 rfl
        have c14 : W'.cell? ⟨p16, 14, none⟩ = some (.bool nd5) := b_l.c 14 rfl
        have c15 : W'.cell? ⟨p16, 15, none⟩ = some (.slice nd6 nd7 nd8) := b_l.c 15 rfl
        go_step
        exact hK.out
      · rfl
      refine Reg.RC_call rfl (by intro t ht; cases ht; exact Nat.le_of_ble_eq_true rfl) rfl (fun D v' W' hc hj hf K hK => ?_) ?_
      · obtain ⟨j0, jk, jn, b_a, b_b, b_p, b_q, b_s, b_l, a_10⟩ := hj
        clear hf
        go_step
        refine (rTimesQ W' (Fna.out.keeps jk) (Fnd.out.keeps jk) sa sd (by omega)).mono ?_
        rintro e W2 ⟨u, rfl, hu, hs⟩
        obtain ⟨r3_1, r3_2, r3_3, r3_4, r3_5, r3_6, r3_7, r3_8, rfl⟩ := hu.shape
        exact hK.out _ W2 (Keeps.steps hs) ⟨below_steps j0 (Nat.le_refl _) hs, jk.then_ hs, Nat.le_trans jn hs.size, b_a.steps hs, b_b.steps hs, b_p.steps hs, b_q.steps hs, b_s.steps hs, b_l.steps hs, fun h => by obtain ⟨g, e1, e2, e3, e4, e5⟩ := a_10 h; exact ⟨g, e1, e2, Nat.lt_of_lt_of_le e3 (hs).size, fun h => (e4 h).steps hs, fun h => Bool.noConfusion ((hc.2 11 (by decide)).symm.trans h)⟩⟩ ⟨_, rfl, hu⟩ ⟨_, _, _, _, _, _, _, _, rfl⟩
      rintro _ ⟨r3_1, r3_2, r3_3, r3_4, r3_5, r3_6, r3_7, r3_8, rfl⟩
      refine Reg.RC_at (b := ⟨#[_,_,_,_,_,_,_,_,_,_,_,_,_,_,_,_,_,_,_,_,_,_,_,_,_,_,_,_,_,_,_,_,_,_,_,_,_,_,_,_,_,_,_,_,_,_,_,_,_,_,_,_,_,_,_,_,_,_,_,_,_,_,_,_,_,_,_,_,_,_,_,_,_,_,_,_,_,_,_,_,_,_,_,_,_,_,_,_,_,_,_,_,_,_,_,_,_,_,_,_,_,_,_,_,_,_,_,_,_,_,_,_,_,_,_,_,_,_,_,_,_,_,_,_,_,_,_,_,_,_,_,_,_,_,_,_,_,_,_,_,_,_,_,_,_,_,_,_,_,_,_,_,_,_,_,_,_,_,_,_,_,_,_,_,_,_,_,_,_,_,_,_,_,_,_,_,_,_,_,_,_,_,_,_,_,_,_,_,_,_,_,_,_,_,_,_,_,_,_,_,_,_,_,_,_,_,_,_,_,_,_,_,_,_,_,_,_,_,_,_], _⟩) rfl ?_
      apply Reg.RC_pure (hc := rfl) (hst := rfl) (hw := rfl) (t := 89) (hd := rfl) (ht := Nat.le_of_ble_eq_true rfl)
      · intro D v' W' hc hj hf K hK
        go_step
        exact hK.out
      · rfl
      apply Reg.RC_pure (hc := rfl) (hst := rfl) (hw := rfl) (t := 97) (hd := rfl) (ht := Nat.le_of_ble_eq_true rfl)
      · intro D v' W' hc hj hf K hK
        go_step
        exact hK.out
      · rfl
      apply Reg.RC_pure (hc := rfl) (hst := rfl) (hw := rfl) (t := 98) (hd := rfl) (ht := Nat.le_of_ble_eq_true rfl)
      · intro D v' W' hc hj hf K hK
        go_step
        exact hK.out
      · rfl
      refine Reg.RC_call rfl (by intro t ht; cases ht; exact Nat.le_of_ble_eq_true rfl) rfl (fun D v' W' hc hj hf K hK => ?_) ?_
      · obtain ⟨j0, jk, jn, b_a, b_b, b_p, b_q, b_s, b_l, a_10⟩ := hj
        go_step
        have hs : ∀ o : Obj, Steps W' (W'.alloc o) := fun o => (Below.refl _ _).alloc (Nat.le_refl _) o
        exact hK.out _ _ (Keeps.steps (hs _)) ⟨below_steps j0 (Nat.le_refl _) (hs _), jk.then_ (hs _), Nat.le_trans jn (hs _).size, b_a.steps (hs _), b_b.steps (hs _), b_p.steps (hs _), b_q.steps (hs _), b_s.steps (hs _), b_l.steps (hs _), fun _ => ⟨W'.heap.size, rfl, jn, by rw [World.size_alloc]; omega, fun _ => Blk.new _ _ _, fun h => Bool.noConfusion ((hc.2 11 (by decide)).symm.trans h)⟩⟩ trivial ⟨_, rfl⟩
      rintro _ ⟨p23, rfl⟩
      refine Reg.RC_at (b := ⟨#[_,_,_,_,_,_,_,_,_,_,_,_,_,_,_,_,_,_,_,_,_,_,_,_,_,_,_,_,_,_,_,_,_,_,_,_,_,_,_,_,_,_,_,_,_,_,_,_,_,_,_,_,_,_,_,_,_,_,_,_,_,_,_,_,_,_,_,_,_,_,_,_,_,_,_,_,_,_,_,_,_,_,_,_,_,_,_,_,_,_,_,_,_,_,_,_,_,_,_,_,_,_,_,_,_,_,_,_,_,_,_,_,_,_,_,_,_,_,_,_,_,_,_,_,_,_,_,_,_,_,_,_,_,_,_,_,_,_,_,_,_,_,_,_,_,_,_,_,_,_,_,_,_,_,_,_,_,_,_,_,_,_,_,_,_,_,_,_,_,_,_,_,_,_,_,_,_,_,_,_,_,_,_,_,_,_,_,_,_,_,_,_,_,_,_,_,_,_,_,_,_,_,_,_,_,_,_,_,_,_,_,_,_,_,_,_,_,_,_,_], _⟩) rfl ?_
      refine Reg.RC_call rfl (by intro t ht; cases ht) rfl (fun D v' W' hc hj hf K hK => ?_) (fun _ _ => Reg.RC_at (b := ⟨_, _⟩) rfl ?_)
      · obtain ⟨j0, jk, jn, b_a, b_b, b_p, b_q, b_s, b_l, a_10⟩ := hj
        have f := hf (10, some 23) (.tail _ (.head _)) rfl
        have e6 : v' 10 = .pointer (some ⟨p23, 0, none⟩) := f.2.1
        obtain ⟨g, e1, e2, e3, e4, e5⟩ := a_10 f.1
        obtain rfl : p23 = g := Reg.ptr_eq (e6.symm.trans e1)
        have hb := e4 hc.1
        clear e4 e5
        have fc := hf (6, some 96) (.head _) rfl
        have ec : v' 6 = .tuple #[.agg #[.bool r3_1, .slice r3_2 r3_3 r3_4, .bool r3_5, .slice r3_6 r3_7 r3_8], .int .i64 0] := fc.2.1
        have ff := hb.fr
        have cc0 : W'.cell? ⟨p23, 0, none⟩ = some (.bool false) := hb.c 0 rfl
        have cc1 : W'.cell? ⟨p23, 1, none⟩ = some (.slice none 0 0) := hb.c 1 rfl
        have cc2 : W'.cell? ⟨p23, 2, none⟩ = some (.bool false) := hb.c 2 rfl
        have cc3 : W'.cell? ⟨p23, 3, none⟩ = some (.slice none 0 0) := hb.c 3 rfl
        go_step
        exact hK.out undef _ (Keeps.only hb rfl ((Only.refl _ _).set.set.set.set)) ⟨(Below.setCell (p := ⟨p23, 3, none⟩) (Below.setCell (p := ⟨p23, 2, none⟩) (Below.setCell (p := ⟨p23, 1, none⟩) (Below.setCell (p := ⟨p23, 0, none⟩) j0 (by show w.heap.size ≤ p23; omega) _) (by show w.heap.size ≤ p23; omega) _) (by show w.heap.size ≤ p23; omega) _) (by show w.heap.size ≤ p23; omega) _), jk.trans (Keeps.only hb rfl ((Only.refl _ _).set.set.set.set)), by simpa using jn, ((((b_a).far' (show w.heap.size ≠ p23 by omega)).far' (show w.heap.size ≠ p23 by omega)).far' (show w.heap.size ≠ p23 by omega)).far' (show w.heap.size ≠ p23 by omega), ((((b_b).far' (show w.heap.size + 1 ≠ p23 by omega)).far' (show w.heap.size + 1 ≠ p23 by omega)).far' (show w.heap.size + 1 ≠ p23 by omega)).far' (show w.heap.size + 1 ≠ p23 by omega), ((((b_p).far' (show w4.heap.size ≠ p23 by omega)).far' (show w4.heap.size ≠ p23 by omega)).far' (show w4.heap.size ≠ p23 by omega)).far' (show w4.heap.size ≠ p23 by omega), ((((b_q).far' (show w5.heap.size ≠ p23 by omega)).far' (show w5.heap.size ≠ p23 by omega)).far' (show w5.heap.size ≠ p23 by omega)).far' (show w5.heap.size ≠ p23 by omega), ((((b_s).far' (show w6.heap.size ≠ p23 by omega)).far' (show w6.heap.size ≠ p23 by omega)).far' (show w6.heap.size ≠ p23 by omega)).far' (show w6.heap.size ≠ p23 by omega), ((((b_l).far' (show p16 ≠ p23 by omega)).far' (show p16 ≠ p23 by omega)).far' (show p16 ≠ p23 by omega)).far' (show p16 ≠ p23 by omega), fun _ => ⟨p23, e1, e2, by simpa using e3, fun h => Bool.noConfusion h, fun _ => ⟨fc.1, _, ec, (Blk.set2 (cs' := #[.bool r3_1, .slice r3_2 r3_3 r3_4, .bool r3_5, .slice r3_6 r3_7 r3_8]) (Blk.set2 (cs' := #[.bool r3_1, .slice r3_2 r3_3 r3_4, .bool r3_5, .slice none 0 0]) (Blk.set2 (cs' := #[.bool r3_1, .slice r3_2 r3_3 r3_4, .bool false, .slice none 0 0]) (Blk.set2 (cs' := #[.bool r3_1, .slice none 0 0, .bool false, .slice none 0 0]) hb (i := 0) rfl) (i := 1) rfl) (i := 2) rfl) (i := 3) rfl)⟩⟩⟩ trivial trivial
      apply Reg.RC_pure (hc := rfl) (hst := rfl) (hw := rfl) (t := 24) (hd := rfl) (ht := Nat.le_of_ble_eq_true rfl)
      · intro D v' W' hc hj hf K hK
        go_step
        exact hK.out
      · rfl
      refine Reg.RC_end (fun Dn v' w9 hd hj hf => ?_)
      obtain ⟨j0, jk, jn, b_a, b_b, b_p, b_q, b_s, b_l, a_10⟩ := hj
      have B := j0
      have oa := b_a
      clear b_a
      have ob := b_b
      clear b_b
      have op := b_p
      clear b_p
      have oq := b_q
      clear b_q
      have os := b_s
      clear b_s
      have ol := b_l
      clear b_l
      have f := hf (10, some 23) (.tail _ (.head _)) rfl
      have e6_ : v' 10 = .pointer (some ⟨p23, 0, none⟩) := f.2.1
      obtain ⟨g, e1_, zx, -, -, e5_⟩ := a_10 f.1
      obtain rfl : p23 = g := Reg.ptr_eq (e6_.symm.trans e1_)
      obtain ⟨-, cs_, ee, ox⟩ := e5_ (hd 11 (Nat.le_of_ble_eq_true rfl))
      have ef : v' 6 = .tuple #[.agg #[.bool r3_1, .slice r3_2 r3_3 r3_4, .bool r3_5, .slice r3_6 r3_7 r3_8], .int .i64 0] := (hf (6, some 96) (.head _) rfl).2.1
      obtain rfl : #[.bool r3_1, .slice r3_2 r3_3 r3_4, .bool r3_5, .slice r3_6 r3_7 r3_8] = cs_ := by have := ef.symm.trans ee; simpa only [Value.tuple.injEq, Value.agg.injEq, Array.mk.injEq, List.cons.injEq, and_true, true_and] using this
      clear ee ef f e5_ e1_ e6_
      have Fr3_ := Hid.mk_ (GFrE.get (r := unitQ a * unitQ d) (e := 0) (v := .agg #[.bool r3_1, .slice r3_2 r3_3 r3_4, .bool r3_5, .slice r3_6 r3_7 r3_8]) (hf (6, some 96) (.head _) rfl).2.2)
      replace Fna := Hid.mk_ (Fna.out.keeps jk)
      replace Fnb := Hid.mk_ (Fnb.out.keeps jk)
      replace Fnc := Hid.mk_ (Fnc.out.keeps jk)
      replace Fnd := Hid.mk_ (Fnd.out.keeps jk)
      replace kk := kk.trans jk
      clear hd hf jk j0
      refine hQ _ _ ?_
      clear hQ hops Q' ops'
      have cp0 := op.q0
      have cp1 := op.q1
      have lp := op.lt
      have cx0 := ox.q0
      have cx1 := ox.q1
      have cx2 := ox.q2
      have cx3 := ox.q3
      have lx := ox.lt
      go_upto_region 16 with fail
      go_cut [17] (fun sl0  wx => sl0 = .bool (glow0 || L1) ∧ Keeps w9 wx ∧ Blk wx (w.heap.size) 23 #[.int .i64 (a), .int .i64 (b)] ∧ Blk wx (w.heap.size + 1) 23 #[.int .i64 (c), .int .i64 (d)] ∧ Blk wx (w4.heap.size) 23 #[.int .i64 (p0), .int .i64 (q0)] ∧ Blk wx (w5.heap.size) 23 #[.int .i64 (p1), .int .i64 (q1)] ∧ Blk wx (w6.heap.size) 23 #[.int .i64 (p2), .int .i64 (q2)] ∧ Blk wx (p16) 45 #[.bool na1, .slice na2 na3 na4, .bool na5, .slice na6 na7 na8, .bool nb1, .slice nb2 nb3 nb4, .bool nb5, .slice nb6 nb7 nb8, .bool nc1, .slice nc2 nc3 nc4, .bool nc5, .slice nc6 nc7 nc8, .bool nd1, .slice nd2 nd3 nd4, .bool nd5, .slice nd6 nd7 nd8] ∧ Blk wx (p23) 31 #[.bool r3_1, .slice r3_2 r3_3 r3_4, .bool r3_5, .slice r3_6 r3_7 r3_8] ∧ Below w.heap.size w wx)
      case first => as_aux_lemma =>
        have kk := Keeps.refl w9
        cases hb : glow0
        case false =>
          go_wp2_with fail
          refine (cL1 _ _ (Fr3_.out.keeps keepsB)).mono ?_
          rintro e w10 ⟨rfl, hb10⟩
          have st : Steps _ w10 := hb10
          have sk : Below w9.heap.size w9 w10 := belowA st
          replace B := below_steps B (Nat.le_refl _) sk
          replace oa := oa.steps sk
          replace ob := ob.steps sk
          replace op := op.steps sk
          replace oq := oq.steps sk
          replace os := os.steps sk
          replace ol := ol.steps sk
          replace ox := ox.steps sk
          replace Fna := Hid.mk_ (Fna.out.steps sk)
          replace Fnb := Hid.mk_ (Fnb.out.steps sk)
          replace Fnc := Hid.mk_ (Fnc.out.steps sk)
          replace Fnd := Hid.mk_ (Fnd.out.steps sk)
          replace Fr3_ := Hid.mk_ (Fr3_.out.steps sk)
          replace kk := kk.then_ sk
          clear st sk cp0 cp1 lp cx0 cx1 cx2 cx3 lx
          go_wp2_with fail
          go_meet
          exact ⟨by simp [hb], kk.trans keepsB, ownK, ownK, ownK, ownK, ownK, ownK, ownK, belowB⟩
        case true =>
          go_wp2_with fail
          go_meet
          exact ⟨by simp [hb], kk.trans keepsB, ownK, ownK, ownK, ownK, ownK, ownK, ownK, belowB⟩
      case rest =>
        clear cp0 cp1 lp cx0 cx1 cx2 cx3 lx
        obtain ⟨rfl, kp, oa, ob, op, oq, os, ol, ox, B⟩ := hcut
        obtain ⟨w10, hw_⟩ : ∃ x, x = wc := ⟨_, rfl⟩
        subst hw_
        replace Fna := Hid.mk_ (Fna.out.keeps kp)
        replace Fnb := Hid.mk_ (Fnb.out.keeps kp)
        replace Fnc := Hid.mk_ (Fnc.out.keeps kp)
        replace Fnd := Hid.mk_ (Fnd.out.keeps kp)
        replace Fr3_ := Hid.mk_ (Fr3_.out.keeps kp)
        replace kk := kk.trans kp
        clear kp
        have cp0 := op.q0
        have cp1 := op.q1
        have lp := op.lt
        have cx0 := ox.q0
        have cx1 := ox.q1
        have cx2 := ox.q2
        have cx3 := ox.q3
        have lx := ox.lt
        go_upto_region 17 with fail
        go_cut [18] (fun sl0  wx => sl0 = .bool (ghigh0 || H1) ∧ Keeps w10 wx ∧ Blk wx (w.heap.size) 23 #[.int .i64 (a), .int .i64 (b)] ∧ Blk wx (w.heap.size + 1) 23 #[.int .i64 (c), .int .i64 (d)] ∧ Blk wx (w4.heap.size) 23 #[.int .i64 (p0), .int .i64 (q0)] ∧ Blk wx (w5.heap.size) 23 #[.int .i64 (p1), .int .i64 (q1)] ∧ Blk wx (w6.heap.size) 23 #[.int .i64 (p2), .int .i64 (q2)] ∧ Blk wx (p16) 45 #[.bool na1, .slice na2 na3 na4, .bool na5, .slice na6 na7 na8, .bool nb1, .slice nb2 nb3 nb4, .bool nb5, .slice nb6 nb7 nb8, .bool nc1, .slice nc2 nc3 nc4, .bool nc5, .slice nc6 nc7 nc8, .bool nd1, .slice nd2 nd3 nd4, .bool nd5, .slice nd6 nd7 nd8] ∧ Blk wx (p23) 31 #[.bool r3_1, .slice r3_2 r3_3 r3_4, .bool r3_5, .slice r3_6 r3_7 r3_8] ∧ Below w.heap.size w wx)
        case first => as_aux_lemma =>
          have kk := Keeps.refl w10
          cases hb : ghigh0
          case false =>
            go_wp2_with fail
            refine (cH1 _ _ (Fr3_.out.keeps keepsB)).mono ?_
            rintro e w11 ⟨rfl, hb11⟩
            have st : Steps _ w11 := hb11
            have sk : Below w10.heap.size w10 w11 := belowA st
            replace B := below_steps B (Nat.le_refl _) sk
            replace oa := oa.steps sk
            replace ob := ob.steps sk
            replace op := op.steps sk
            replace oq := oq.steps sk
            replace os := os.steps sk
            replace ol := ol.steps sk
            replace ox := ox.steps sk
            replace Fna := Hid.mk_ (Fna.out.steps sk)
            replace Fnb := Hid.mk_ (Fnb.out.steps sk)
            replace Fnc := Hid.mk_ (Fnc.out.steps sk)
            replace Fnd := Hid.mk_ (Fnd.out.steps sk)
            replace Fr3_ := Hid.mk_ (Fr3_.out.steps sk)
            replace kk := kk.then_ sk
            clear st sk cp0 cp1 lp cx0 cx1 cx2 cx3 lx
            go_wp2_with fail
            go_meet
            exact ⟨by simp [hb], kk.trans keepsB, ownK, ownK, ownK, ownK, ownK, ownK, ownK, belowB⟩
          case true =>
            go_wp2_with fail
            go_meet
            exact ⟨by simp [hb], kk.trans keepsB, ownK, ownK, ownK, ownK, ownK, ownK, ownK, belowB⟩
        case rest =>
          clear cp0 cp1 lp cx0 cx1 cx2 cx3 lx
          obtain ⟨rfl, kp, oa, ob, op, oq, os, ol, ox, B⟩ := hcut
          obtain ⟨w11, hw_⟩ : ∃ x, x = wc := ⟨_, rfl⟩
          subst hw_
          replace Fna := Hid.mk_ (Fna.out.keeps kp)
          replace Fnb := Hid.mk_ (Fnb.out.keeps kp)
          replace Fnc := Hid.mk_ (Fnc.out.keeps kp)
          replace Fnd := Hid.mk_ (Fnd.out.keeps kp)
          replace Fr3_ := Hid.mk_ (Fr3_.out.keeps kp)
          replace kk := kk.trans kp
          clear kp
          have cl0 := ol.q0
          have cl1 := ol.q1
          have cl2 := ol.q2
          have cl3 := ol.q3
          have cl4 := ol.q4
          have cl5 := ol.q5
          have cl6 := ol.q6
          have cl7 := ol.q7
          have cl8 := ol.q8
          have cl9 := ol.q9
          have cl10 := ol.q10
          have cl11 := ol.q11
          have cl12 := ol.q12
          have cl13 := ol.q13
          have cl14 := ol.q14
          have cl15 := ol.q15
          have ll := ol.lt
          have hz_ := nzB Fnd.out.len
          rw [hzd] at hz_
          go_upto_region 18 with fail
          go_cut [119] (fun sl0  wx => sl0 = .bool (!zd) ∧ Keeps w11 wx ∧ Blk wx (w.heap.size) 23 #[.int .i64 (a), .int .i64 (b)] ∧ Blk wx (w.heap.size + 1) 23 #[.int .i64 (c), .int .i64 (d)] ∧ Blk wx (w4.heap.size) 23 #[.int .i64 (p0), .int .i64 (q0)] ∧ Blk wx (w5.heap.size) 23 #[.int .i64 (p1), .int .i64 (q1)] ∧ Blk wx (w6.heap.size) 23 #[.int .i64 (p2), .int .i64 (q2)] ∧ Blk wx (p16) 45 #[.bool na1, .slice na2 na3 na4, .bool na5, .slice na6 na7 na8, .bool nb1, .slice nb2 nb3 nb4, .bool nb5, .slice nb6 nb7 nb8, .bool nc1, .slice nc2 nc3 nc4, .bool nc5, .slice nc6 nc7 nc8, .bool nd1, .slice nd2 nd3 nd4, .bool nd5, .slice nd6 nd7 nd8] ∧ Blk wx (p23) 31 #[.bool r3_1, .slice r3_2 r3_3 r3_4, .bool r3_5, .slice r3_6 r3_7 r3_8] ∧ Below w.heap.size w wx)
          case first => as_aux_lemma =>
            have kk := Keeps.refl w11
            go_wp2_with fail
            go_meet
            exact ⟨by first | (rw [← hz_]; done) | (rw [← hz_]; simp), kk.trans keepsB, ownK, ownK, ownK, ownK, ownK, ownK, ownK, belowB⟩
          case rest =>
            clear cl0 cl1 cl2 cl3 cl4 cl5 cl6 cl7 cl8 cl9 cl10 cl11 cl12 cl13 cl14 cl15 ll
            obtain ⟨rfl, kp, oa, ob, op, oq, os, ol, ox, B⟩ := hcut
            obtain ⟨w12, hw_⟩ : ∃ x, x = wc := ⟨_, rfl⟩
            subst hw_
            replace Fna := Hid.mk_ (Fna.out.keeps kp)
            replace Fnb := Hid.mk_ (Fnb.out.keeps kp)
            replace Fnc := Hid.mk_ (Fnc.out.keeps kp)
            replace Fnd := Hid.mk_ (Fnd.out.keeps kp)
            replace Fr3_ := Hid.mk_ (Fr3_.out.keeps kp)
            replace kk := kk.trans kp
            clear kp hz_
            have cl0 := ol.q0
            have cl1 := ol.q1
            have cl2 := ol.q2
            have cl3 := ol.q3
            have cl4 := ol.q4
            have cl5 := ol.q5
            have cl6 := ol.q6
            have cl7 := ol.q7
            have cl8 := ol.q8
            have cl9 := ol.q9
            have cl10 := ol.q10
            have cl11 := ol.q11
            have cl12 := ol.q12
            have cl13 := ol.q13
            have cl14 := ol.q14
            have cl15 := ol.q15
            have ll := ol.lt
            cases hk : zd
            case true =>
              go_wp2_with fail
              go_meet
              exact ⟨rfl, rfl, by simp [hk], by simp [hk], kk.trans keepsB, ownK, ownK, ownK, ownK, ownK, ownK, belowB⟩
            case false =>
              have hnz : d ≠ 0 := by rw [hk] at hzd; simpa using hzd
              have zx_12 : p23 < w12.heap.size := ox.lt
              have zz12 := B.size
              go_upto_region 19 with fail
              refine Reg.wp_chain_n (fun N0 D v W => Below w.heap.size w W ∧ Keeps w12 W ∧ N0 ≤ W.heap.size ∧ Blk W (w.heap.size) 23 #[.int .i64 (a), .int .i64 (b)] ∧ Blk W (w.heap.size + 1) 23 #[.int .i64 (c), .int .i64 (d)] ∧ Blk W (w4.heap.size) 23 #[.int .i64 (p0), .int .i64 (q0)] ∧ Blk W (w5.heap.size) 23 #[.int .i64 (p1), .int .i64 (q1)] ∧ Blk W (w6.heap.size) 23 #[.int .i64 (p2), .int .i64 (q2)] ∧ Blk W (p16) 45 #[.bool na1, .slice na2 na3 na4, .bool na5, .slice na6 na7 na8, .bool nb1, .slice nb2 nb3 nb4, .bool nb5, .slice nb6 nb7 nb8, .bool nc1, .slice nc2 nc3 nc4, .bool nc5, .slice nc6 nc7 nc8, .bool nd1, .slice nd2 nd3 nd4, .bool nd5, .slice nd6 nd7 nd8] ∧ Blk W (p23) 31 #[.bool r3_1, .slice r3_2 r3_3 r3_4, .bool r3_5, .slice r3_6 r3_7 r3_8] ∧ (D 10 = true → ∃ g : Nat, v 10 = .pointer (some ⟨g, 0, none⟩) ∧ N0 ≤ g ∧ g < W.heap.size ∧ (D 11 = false → Blk W g 31 #[.bool false, .slice none 0 0, .bool false, .slice none 0 0]) ∧ (D 11 = true → D 6 = true ∧ ∃ cs, v 6 = .tuple #[.agg cs, .int .i64 0] ∧ Blk W g 31 cs)))
                (Reg.inl [6, 10, 11]) (Reg.gv [(6, IsFrE 0), (10, IsPtr)]) (gw [(6, GFrE (unitQ a / unitQ d) 0)]) (fun _ => Keeps) (fun _ _ => False) (Reg.pl [(11, [(6, some 127), (10, some 25)]), (13, [(6, some 127), (10, some 25)])]) (Reg.pl [(10, [11]), (6, [11])])
                (by kernel_rfl) (by kernel_rfl) (by kernel_rfl) (Reg.gv_some _ (by intro p hp; simp only [List.mem_cons, List.not_mem_nil, or_false] at hp; rcases hp with rfl | rfl <;> first | exact ⟨_, rfl⟩ | exact ⟨_, 0, rfl⟩ | exact ⟨_, none, 0, 0, rfl⟩ | exact ⟨_, false, none, 0, 0, rfl⟩ | exact ⟨_, false, none, 0, 0, false, none, 0, 0, rfl⟩)) (fun N0 hN0 => ⟨fun v => ?_, fun D v v' W hv hj => ?_, fun D v k j W W' x _ _ _ _ hk hg => gw_keeps _ (by intro p hp; simp only [List.mem_cons, List.not_mem_nil, or_false] at hp; rcases hp with rfl <;> first | exact GFr.keeps | exact GFrE.keeps | exact GNu.keeps | exact GNuE.keeps | exact GLi.keeps) hk hg, fun _ _ _ _ h => h.elim, fun ops' Q' hops hQ => ?_⟩)
              · exact ⟨belowB, keepsB, Nat.le_of_eq hN0.out, ownK, ownK, ownK, ownK, ownK, ownK, ownK, (fun h => Bool.noConfusion h)⟩
              · obtain ⟨j0, jk, jn, b_a, b_b, b_p, b_q, b_s, b_l, b_x, a_10⟩ := hj
                exact ⟨j0, jk, jn, b_a, b_b, b_p, b_q, b_s, b_l, b_x, fun h => by obtain ⟨g, e1, e2, e3, e4, e5⟩ := a_10 h; exact ⟨g, (hv 10 h) ▸ e1, e2, e3, e4, fun h => by obtain ⟨d, cs, e, hb⟩ := e5 h; exact ⟨d, cs, (hv 6 d) ▸ e, hb⟩⟩⟩
              have i_a : w.heap.size < N0 := by have e := hN0.out; (try simp only [World.size_alloc, World.size_setCell, World.size_drew, World.heap_drewN] at e); first | omega | (have h := oa.lt; omega)
              have i_b : w.heap.size + 1 < N0 := by have e := hN0.out; (try simp only [World.size_alloc, World.size_setCell, World.size_drew, World.heap_drewN] at e); first | omega | (have h := ob.lt; omega)
              have i_p : w4.heap.size < N0 := by have e := hN0.out; (try simp only [World.size_alloc, World.size_setCell, World.size_drew, World.heap_drewN] at e); first | omega | (have h := op.lt; omega)
              have i_q : w5.heap.size < N0 := by have e := hN0.out; (try simp only [World.size_alloc, World.size_setCell, World.size_drew, World.heap_drewN] at e); first | omega | (have h := oq.lt; omega)
              have i_s : w6.heap.size < N0 := by have e := hN0.out; (try simp only [World.size_alloc, World.size_setCell, World.size_drew, World.heap_drewN] at e); first | omega | (have h := os.lt; omega)
              have i_l : p16 < N0 := by have e := hN0.out; (try simp only [World.size_alloc, World.size_setCell, World.size_drew, World.heap_drewN] at e); first | omega | (have h := ol.lt; omega)
              have i_x : p23 < N0 := by have e := hN0.out; (try simp only [World.size_alloc, World.size_setCell, World.size_drew, World.heap_drewN] at e); first | omega | (have h := ox.lt; omega)
              have iw : w.heap.size ≤ N0 := by have e := hN0.out; (try simp only [World.size_alloc, World.size_setCell, World.size_drew, World.heap_drewN] at e); first | omega | (have h := B.size; omega)
              clear cl0 cl1 cl2 cl3 cl4 cl5 cl6 cl7 cl8 cl9 cl10 cl11 cl12 cl13 cl14 cl15 ll
              clear hN0
              apply Reg.RC_pure (hc := rfl) (hst := rfl) (hw := rfl) (t := 121) (hd := rfl) (ht := Nat.le_of_ble_eq_true rfl)
              · intro D v' W' hc hj hf K hK
                go_step
                exact hK.out
              · rfl
              apply Reg.RC_pure (hc := rfl) (hst := rfl) (hw := rfl) (t := 122) (hd := rfl) (ht := Nat.le_of_ble_eq_true rfl)
              · intro D v' W' hc hj hf K hK
                go_step
                exact hK.out
              · rfl
              apply Reg.RC_pure (hc := rfl) (hst := rfl) (hw := rfl) (t := 123) (hd := rfl) (ht := Nat.le_of_ble_eq_true rfl)
              · intro D v' W' hc hj hf K hK
                obtain ⟨j0, jk, jn, b_a, b_b, b_p, b_q, b_s, b_l, b_x, a_10⟩ := hj
                have c0 : W'.cell? ⟨p16, 0, none⟩ = some (.bool na1) := b_l.c 0 rfl
                have c1 : W'.cell? ⟨p16, 1, none⟩ = some (.slice na2 na3 na4) := b_l.c 1 rfl
                have c2 : W'.cell? ⟨p16, 2, none⟩ = some (.bool na5) := b_l.c 2 rfl
                have c3 : W'.cell? ⟨p16, 3, none⟩ = some (.slice na6 na7 na8) := b_l.c 3 rfl
                have c4 : W'.cell? ⟨p16, 4, none⟩ = some (.bool nb1) := b_l.c 4 rfl
                have c5 : W'.cell? ⟨p16, 5, none⟩ = some (.slice nb2 nb3 nb4) := b_l.c 5 rfl
                have c6 : W'.cell? ⟨p16, 6, none⟩ = some (.bool nb5) := b_l.c 6 rfl
                have c7 : W'.cell? ⟨p16, 7, none⟩ = some (.slice nb6 nb7 nb8) := b_l.c 7 rfl
                have c8 : W'.cell? ⟨p16, 8, none⟩ = some (.bool nc1) := b_l.c 8 rfl
                have c9 : W'.cell? ⟨p16, 9, none⟩ = some (.slice nc2 nc3 nc4) := b_l.c 9 rfl
                have c10 : W'.cell? ⟨p16, 10, none⟩ = some (.bool nc5) := b_l.c 10 rfl
                have c11 : W'.cell? ⟨p16, 11, none⟩ = some (.slice nc6 nc7 nc8) := b_l.c 11 rfl
                have c12 : W'.cell? ⟨p16, 12, none⟩ = some (.bool nd1) := b_l.c 12 rfl
                have c13 : W'.cell? ⟨p16, 13, none⟩ = some (.slice nd2 nd3 nd4) := b_l.c 13 rfl
                have c14 : W'.cell? ⟨p16, 14, none⟩ = some (.bool nd5) := b_l.c 14 rfl
                have c15 : W'.cell? ⟨p16, 15, none⟩ = some (.slice nd6 nd7 nd8) := b_l.c 15 rfl
                go_step
                exact hK.out
              · rfl
              apply Reg.RC_pure (hc := rfl) (hst := rfl) (hw := rfl) (t := 124) (hd := rfl) (ht := Nat.le_of_ble_eq_true rfl)
              · intro D v' W' hc hj hf K hK
                go_step
                exact hK.out
              · rfl
              apply Reg.RC_pure (hc := rfl) (hst := rfl) (hw := rfl) (t := 125) (hd := rfl) (ht := Nat.le_of_ble_eq_true rfl)
              · intro D v' W' hc hj hf K hK
                go_step
                exact hK.out
              · rfl
              apply Reg.RC_pure (hc := rfl) (hst := rfl) (hw := rfl) (t := 126) (hd := rfl) (ht := Nat.le_of_ble_eq_true rfl)
              · intro D v' W' hc hj hf K hK
                obtain ⟨j0, jk, jn, b_a, b_b, b_p, b_q, b_s, b_l, b_x, a_10⟩ := hj
                have c0 : W'.cell? ⟨p16, 0, none⟩ = some (.bool na1) := b_l.c 0 rfl
                have c1 : W'.cell? ⟨p16, 1, none⟩ = some (.slice na2 na3 na4) := b_l.c 1 rfl
                have c2 : W'.cell? ⟨p16, 2, none⟩ = some (.bool na5) := b_l.c 2 rfl
                have c3 : W'.cell? ⟨p16, 3, none⟩ = some (.slice na6 na7 na8) := b_l.c 3 rfl
                have c4 : W'.cell? ⟨p16, 4, none⟩ = some (.bool nb1) := b_l.c 4 rfl
                have c5 : W'.cell? ⟨p16, 5, none⟩ = some (.slice nb2 nb3 nb4) := b_l.c 5 rfl
                have c6 : W'.cell? ⟨p16, 6, none⟩ = some (.bool nb5) := b_l.c 6 rfl
                have c7 : W'.cell? ⟨p16, 7, none⟩ = some (.slice nb6 nb7 nb8) := b_l.c 7 rfl
                have c8 : W'.cell? ⟨p16, 8, none⟩ = some (.bool nc1) := b_l.c 8 rfl
                have c9 : W'.cell? ⟨p16, 9, none⟩ = some (.slice nc2 nc3 nc4) := b_l.c 9 rfl
                have c10 : W'.cell? ⟨p16, 10, none⟩ = some (.bool nc5) := b_l.c 10 rfl
                have c11 : W'.cell? ⟨p16, 11, none⟩ = some (.slice nc6 nc7 nc8) := b_l.c 11 rfl
                have c12 : W'.cell? ⟨p16, 12, none⟩ = some (.bool nd1) := b_l.c 12 rfl
                have c13 : W'.cell? ⟨p16, 13, none⟩ = some (.slice nd2 nd3 nd4) := b_l.c 13 rfl
                have c14 : W'.cell? ⟨p16, 14, none⟩ = some (.bool nd5) := b_l.c 14 rfl
                have c15 : W'.cell? ⟨p16, 15, none⟩ = some (.slice nd6 nd7 nd8) := b_l.c 15 rfl
                go_step
                exact hK.out
              · rfl
              refine Reg.RC_call rfl (by intro t ht; cases ht; exact Nat.le_of_ble_eq_true rfl) rfl (fun D v' W' hc hj hf K hK => ?_) ?_
              · obtain ⟨j0, jk, jn, b_a, b_b, b_p, b_q, b_s, b_l, b_x, a_10⟩ := hj
                clear hf
                go_step
                refine (rOverQ W' (Fna.out.keeps jk) (Fnd.out.keeps jk) sa sd (by omega) (unit_ne hnz)).mono ?_
                rintro e W2 ⟨u, rfl, hu, hs⟩
                obtain ⟨r4_1, r4_2, r4_3, r4_4, r4_5, r4_6, r4_7, r4_8, rfl⟩ := hu.shape
                exact hK.out _ W2 (Keeps.steps hs) ⟨below_steps j0 (Nat.le_refl _) hs, jk.then_ hs, Nat.le_trans jn hs.size, b_a.steps hs, b_b.steps hs, b_p.steps hs, b_q.steps hs, b_s.steps hs, b_l.steps hs, b_x.steps hs, fun h => by obtain ⟨g, e1, e2, e3, e4, e5⟩ := a_10 h; exact ⟨g, e1, e2, Nat.lt_of_lt_of_le e3 (hs).size, fun h => (e4 h).steps hs, fun h => Bool.noConfusion ((hc.2 11 (by decide)).symm.trans h)⟩⟩ ⟨_, rfl, hu⟩ ⟨_, _, _, _, _, _, _, _, rfl⟩
              rintro _ ⟨r4_1, r4_2, r4_3, r4_4, r4_5, r4_6, r4_7, r4_8, rfl⟩
              refine Reg.RC_at (b := ⟨#[_,_,_,_,_,_,_,_,_,_,_,_,_,_,_,_,_,_,_,_,_,_,_,_,_,_,_,_,_,_,_,_,_,_,_,_,_,_,_,_,_,_,_,_,_,_,_,_,_,_,_,_,_,_,_,_,_,_,_,_,_,_,_,_,_,_,_,_,_,_,_,_,_,_,_,_,_,_,_,_,_,_,_,_,_,_,_,_,_,_,_,_,_,_,_,_,_,_,_,_,_,_,_,_,_,_,_,_,_,_,_,_,_,_,_,_,_,_,_,_,_,_,_,_,_,_,_,_,_,_,_,_,_,_,_,_,_,_,_,_,_,_,_,_,_,_,_,_,_,_,_,_,_,_,_,_,_,_,_,_,_,_,_,_,_,_,_,_,_,_,_,_,_,_,_,_,_,_,_,_,_,_,_,_,_,_,_,_,_,_,_,_,_,_,_,_,_,_,_,_,_,_,_,_,_,_,_,_,_,_,_,_,_,_,_,_,_,_,_,_], _⟩) rfl ?_
              apply Reg.RC_pure (hc := rfl) (hst := rfl) (hw := rfl) (t := 120) (hd := rfl) (ht := Nat.le_of_ble_eq_true rfl)
              · intro D v' W' hc hj hf K hK
                go_step
                exact hK.out
              · rfl
              apply Reg.RC_pure (hc := rfl) (hst := rfl) (hw := rfl) (t := 128) (hd := rfl) (ht := Nat.le_of_ble_eq_true rfl)
              · intro D v' W' hc hj hf K hK
                go_step
                exact hK.out
              · rfl
              apply Reg.RC_pure (hc := rfl) (hst := rfl) (hw := rfl) (t := 129) (hd := rfl) (ht := Nat.le_of_ble_eq_true rfl)
              · intro D v' W' hc hj hf K hK
                go_step
                exact hK.out
              · rfl
              refine Reg.RC_call rfl (by intro t ht; cases ht; exact Nat.le_of_ble_eq_true rfl) rfl (fun D v' W' hc hj hf K hK => ?_) ?_
              · obtain ⟨j0, jk, jn, b_a, b_b, b_p, b_q, b_s, b_l, b_x, a_10⟩ := hj
                go_step
                have hs : ∀ o : Obj, Steps W' (W'.alloc o) := fun o => (Below.refl _ _).alloc (Nat.le_refl _) o
                exact hK.out _ _ (Keeps.steps (hs _)) ⟨below_steps j0 (Nat.le_refl _) (hs _), jk.then_ (hs _), Nat.le_trans jn (hs _).size, b_a.steps (hs _), b_b.steps (hs _), b_p.steps (hs _), b_q.steps (hs _), b_s.steps (hs _), b_l.steps (hs _), b_x.steps (hs _), fun _ => ⟨W'.heap.size, rfl, jn, by rw [World.size_alloc]; omega, fun _ => Blk.new _ _ _, fun h => Bool.noConfusion ((hc.2 11 (by decide)).symm.trans h)⟩⟩ trivial ⟨_, rfl⟩
              rintro _ ⟨p25, rfl⟩
              refine Reg.RC_at (b := ⟨#[_,_,_,_,_,_,_,_,_,_,_,_,_,_,_,_,_,_,_,_,_,_,_,_,_,_,_,_,_,_,_,_,_,_,_,_,_,_,_,_,_,_,_,_,_,_,_,_,_,_,_,_,_,_,_,_,_,_,_,_,_,_,_,_,_,_,_,_,_,_,_,_,_,_,_,_,_,_,_,_,_,_,_,_,_,_,_,_,_,_,_,_,_,_,_,_,_,_,_,_,_,_,_,_,_,_,_,_,_,_,_,_,_,_,_,_,_,_,_,_,_,_,_,_,_,_,_,_,_,_,_,_,_,_,_,_,_,_,_,_,_,_,_,_,_,_,_,_,_,_,_,_,_,_,_,_,_,_,_,_,_,_,_,_,_,_,_,_,_,_,_,_,_,_,_,_,_,_,_,_,_,_,_,_,_,_,_,_,_,_,_,_,_,_,_,_,_,_,_,_,_,_,_,_,_,_,_,_,_,_,_,_,_,_,_,_,_,_,_,_], _⟩) rfl ?_
              refine Reg.RC_call rfl (by intro t ht; cases ht) rfl (fun D v' W' hc hj hf K hK => ?_) (fun _ _ => Reg.RC_at (b := ⟨_, _⟩) rfl ?_)
              · obtain ⟨j0, jk, jn, b_a, b_b, b_p, b_q, b_s, b_l, b_x, a_10⟩ := hj
                have f := hf (10, some 25) (.tail _ (.head _)) rfl
                have e6 : v' 10 = .pointer (some ⟨p25, 0, none⟩) := f.2.1
                obtain ⟨g, e1, e2, e3, e4, e5⟩ := a_10 f.1
                obtain rfl : p25 = g := Reg.ptr_eq (e6.symm.trans e1)
                have hb := e4 hc.1
                clear e4 e5
                have fc := hf (6, some 127) (.head _) rfl
                have ec : v' 6 = .tuple #[.agg #[.bool r4_1, .slice r4_2 r4_3 r4_4, .bool r4_5, .slice r4_6 r4_7 r4_8], .int .i64 0] := fc.2.1
                have ff := hb.fr
                have cc0 : W'.cell? ⟨p25, 0, none⟩ = some (.bool false) := hb.c 0 rfl
                have cc1 : W'.cell? ⟨p25, 1, none⟩ = some (.slice none 0 0) := hb.c 1 rfl
                have cc2 : W'.cell? ⟨p25, 2, none⟩ = some (.bool false) := hb.c 2 rfl
                have cc3 : W'.cell? ⟨p25, 3, none⟩ = some (.slice none 0 0) := hb.c 3 rfl
                go_step
                exact hK.out undef _ (Keeps.only hb rfl ((Only.refl _ _).set.set.set.set)) ⟨(Below.setCell (p := ⟨p25, 3, none⟩) (Below.setCell (p := ⟨p25, 2, none⟩) (Below.setCell (p := ⟨p25, 1, none⟩) (Below.setCell (p := ⟨p25, 0, none⟩) j0 (by show w.heap.size ≤ p25; omega) _) (by show w.heap.size ≤ p25; omega) _) (by show w.heap.size ≤ p25; omega) _) (by show w.heap.size ≤ p25; omega) _), jk.trans (Keeps.only hb rfl ((Only.refl _ _).set.set.set.set)), by simpa using jn, ((((b_a).far' (show w.heap.size ≠ p25 by omega)).far' (show w.heap.size ≠ p25 by omega)).far' (show w.heap.size ≠ p25 by omega)).far' (show w.heap.size ≠ p25 by omega), ((((b_b).far' (show w.heap.size + 1 ≠ p25 by omega)).far' (show w.heap.size + 1 ≠ p25 by omega)).far' (show w.heap.size + 1 ≠ p25 by omega)).far' (show w.heap.size + 1 ≠ p25 by omega), ((((b_p).far' (show w4.heap.size ≠ p25 by omega)).far' (show w4.heap.size ≠ p25 by omega)).far' (show w4.heap.size ≠ p25 by omega)).far' (show w4.heap.size ≠ p25 by omega), ((((b_q).far' (show w5.heap.size ≠ p25 by omega)).far' (show w5.heap.size ≠ p25 by omega)).far' (show w5.heap.size ≠ p25 by omega)).far' (show w5.heap.size ≠ p25 by omega), ((((b_s).far' (show w6.heap.size ≠ p25 by omega)).far' (show w6.heap.size ≠ p25 by omega)).far' (show w6.heap.size ≠ p25 by omega)).far' (show w6.heap.size ≠ p25 by omega), ((((b_l).far' (show p16 ≠ p25 by omega)).far' (show p16 ≠ p25 by omega)).far' (show p16 ≠ p25 by omega)).far' (show p16 ≠ p25 by omega), ((((b_x).far' (show p23 ≠ p25 by omega)).far' (show p23 ≠ p25 by omega)).far' (show p23 ≠ p25 by omega)).far' (show p23 ≠ p25 by omega), fun _ => ⟨p25, e1, e2, by simpa using e3, fun h => Bool.noConfusion h, fun _ => ⟨fc.1, _, ec, (Blk.set2 (cs' := #[.bool r4_1, .slice r4_2 r4_3 r4_4, .bool r4_5, .slice r4_6 r4_7 r4_8]) (Blk.set2 (cs' := #[.bool r4_1, .slice r4_2 r4_3 r4_4, .bool r4_5, .slice none 0 0]) (Blk.set2 (cs' := #[.bool r4_1, .slice r4_2 r4_3 r4_4, .bool false, .slice none 0 0]) (Blk.set2 (cs' := #[.bool r4_1, .slice none 0 0, .bool false, .slice none 0 0]) hb (i := 0) rfl) (i := 1) rfl) (i := 2) rfl) (i := 3) rfl)⟩⟩⟩ trivial trivial
              apply Reg.RC_pure (hc := rfl) (hst := rfl) (hw := rfl) (t := 26) (hd := rfl) (ht := Nat.le_of_ble_eq_true rfl)
              · intro D v' W' hc hj hf K hK
                go_step
                exact hK.out
              · rfl
              refine Reg.RC_end (fun Dn v' w13 hd hj hf => ?_)
              obtain ⟨j0, jk, jn, b_a, b_b, b_p, b_q, b_s, b_l, b_x, a_10⟩ := hj
              have B := j0
              have oa := b_a
              clear b_a
              have ob := b_b
              clear b_b
              have op := b_p
              clear b_p
              have oq := b_q
              clear b_q
              have os := b_s
              clear b_s
              have ol := b_l
              clear b_l
              have ox := b_x
              clear b_x
              have f := hf (10, some 25) (.tail _ (.head _)) rfl
              have e6_ : v' 10 = .pointer (some ⟨p25, 0, none⟩) := f.2.1
              obtain ⟨g, e1_, zy, -, -, e5_⟩ := a_10 f.1
              obtain rfl : p25 = g := Reg.ptr_eq (e6_.symm.trans e1_)
              obtain ⟨-, cs_, ee, oy⟩ := e5_ (hd 11 (Nat.le_of_ble_eq_true rfl))
              have ef : v' 6 = .tuple #[.agg #[.bool r4_1, .slice r4_2 r4_3 r4_4, .bool r4_5, .slice r4_6 r4_7 r4_8], .int .i64 0] := (hf (6, some 127) (.head _) rfl).2.1
              obtain rfl : #[.bool r4_1, .slice r4_2 r4_3 r4_4, .bool r4_5, .slice r4_6 r4_7 r4_8] = cs_ := by have := ef.symm.trans ee; simpa only [Value.tuple.injEq, Value.agg.injEq, Array.mk.injEq, List.cons.injEq, and_true, true_and] using this
              clear ee ef f e5_ e1_ e6_
              have Fr4_ := Hid.mk_ (GFrE.get (r := unitQ a / unitQ d) (e := 0) (v := .agg #[.bool r4_1, .slice r4_2 r4_3 r4_4, .bool r4_5, .slice r4_6 r4_7 r4_8]) (hf (6, some 127) (.head _) rfl).2.2)
              replace Fna := Hid.mk_ (Fna.out.keeps jk)
              replace Fnb := Hid.mk_ (Fnb.out.keeps jk)
              replace Fnc := Hid.mk_ (Fnc.out.keeps jk)
              replace Fnd := Hid.mk_ (Fnd.out.keeps jk)
              replace Fr3_ := Hid.mk_ (Fr3_.out.keeps jk)
              replace kk := kk.trans jk
              clear hd hf jk j0
              refine hQ _ _ ?_
              clear hQ hops Q' ops'
              have cq0 := oq.q0
              have cq1 := oq.q1
              have lq := oq.lt
              have cy0 := oy.q0
              have cy1 := oy.q1
              have cy2 := oy.q2
              have cy3 := oy.q3
              have ly := oy.lt
              cases hb1 : gless0
              case false =>
                go_wp2_with fail
                refine (cS1 hnz _ _ (Fr4_.out.keeps keepsB)).mono ?_
                rintro e w14 ⟨rfl, hb14⟩
                have st : Steps _ w14 := hb14
                have sk : Below w13.heap.size w13 w14 := belowA st
                replace B := below_steps B (Nat.le_refl _) sk
                replace oa := oa.steps sk
                replace ob := ob.steps sk
                replace op := op.steps sk
                replace oq := oq.steps sk
                replace os := os.steps sk
                replace ol := ol.steps sk
                replace ox := ox.steps sk
                replace oy := oy.steps sk
                replace Fna := Hid.mk_ (Fna.out.steps sk)
                replace Fnb := Hid.mk_ (Fnb.out.steps sk)
                replace Fnc := Hid.mk_ (Fnc.out.steps sk)
                replace Fnd := Hid.mk_ (Fnd.out.steps sk)
                replace Fr3_ := Hid.mk_ (Fr3_.out.steps sk)
                replace Fr4_ := Hid.mk_ (Fr4_.out.steps sk)
                replace kk := kk.then_ sk
                clear st sk cq0 cq1 lq cy0 cy1 cy2 cy3 ly
                have cq0 := oq.q0
                have cq1 := oq.q1
                have lq := oq.lt
                have cy0 := oy.q0
                have cy1 := oy.q1
                have cy2 := oy.q2
                have cy3 := oy.q3
                have ly := oy.lt
                cases hb2 : gmore0
                case false =>
                  go_wp2_with fail
                  refine (cR1 hnz _ _ (Fr4_.out.keeps keepsB)).mono ?_
                  rintro e w15 ⟨rfl, hb15⟩
                  have st : Steps _ w15 := hb15
                  have sk : Below w14.heap.size w14 w15 := belowA st
                  replace B := below_steps B (Nat.le_refl _) sk
                  replace oa := oa.steps sk
                  replace ob := ob.steps sk
                  replace op := op.steps sk
                  replace oq := oq.steps sk
                  replace os := os.steps sk
                  replace ol := ol.steps sk
                  replace ox := ox.steps sk
                  replace oy := oy.steps sk
                  replace Fna := Hid.mk_ (Fna.out.steps sk)
                  replace Fnb := Hid.mk_ (Fnb.out.steps sk)
                  replace Fnc := Hid.mk_ (Fnc.out.steps sk)
                  replace Fnd := Hid.mk_ (Fnd.out.steps sk)
                  replace Fr3_ := Hid.mk_ (Fr3_.out.steps sk)
                  replace Fr4_ := Hid.mk_ (Fr4_.out.steps sk)
                  replace kk := kk.then_ sk
                  clear st sk cq0 cq1 lq cy0 cy1 cy2 cy3 ly
                  go_wp2_with fail
                  go_meet
                  exact ⟨rfl, rfl, by simp [hk, hb1], by simp [hk, hb2], kk.trans keepsB, ownK, ownK, ownK, ownK, ownK, ownK, belowB⟩
                case true =>
                  go_wp2_with fail
                  go_meet
                  exact ⟨rfl, rfl, by simp [hk, hb1], by simp [hk, hb2], kk.trans keepsB, ownK, ownK, ownK, ownK, ownK, ownK, belowB⟩
              case true =>
                cases hb2 : gmore0
                case false =>
                  go_wp2_with fail
                  refine (cR1 hnz _ _ (Fr4_.out.keeps keepsB)).mono ?_
                  rintro e w14 ⟨rfl, hb14⟩
                  have st : Steps _ w14 := hb14
                  have sk : Below w13.heap.size w13 w14 := belowA st
                  replace B := below_steps B (Nat.le_refl _) sk
                  replace oa := oa.steps sk
                  replace ob := ob.steps sk
                  replace op := op.steps sk
                  replace oq := oq.steps sk
                  replace os := os.steps sk
                  replace ol := ol.steps sk
                  replace ox := ox.steps sk
                  replace oy := oy.steps sk
                  replace Fna := Hid.mk_ (Fna.out.steps sk)
                  replace Fnb := Hid.mk_ (Fnb.out.steps sk)
                  replace Fnc := Hid.mk_ (Fnc.out.steps sk)
                  replace Fnd := Hid.mk_ (Fnd.out.steps sk)
                  replace Fr3_ := Hid.mk_ (Fr3_.out.steps sk)
                  replace Fr4_ := Hid.mk_ (Fr4_.out.steps sk)
                  replace kk := kk.then_ sk
                  clear st sk cq0 cq1 lq cy0 cy1 cy2 cy3 ly
                  go_wp2_with fail
                  go_meet
                  exact ⟨rfl, rfl, by simp [hk, hb1], by simp [hk, hb2], kk.trans keepsB, ownK, ownK, ownK, ownK, ownK, ownK, belowB⟩
                case true =>
                  go_wp2_with fail
                  go_meet
                  exact ⟨rfl, rfl, by simp [hk, hb1], by simp [hk, hb2], kk.trans keepsB, ownK, ownK, ownK, ownK, ownK, ownK, belowB⟩
    case rest =>
      clear cl0 cl1 cl2 cl3 cl4 cl5 cl6 cl7 cl8 cl9 cl10 cl11 cl12 cl13 cl14 cl15 ll
      obtain ⟨rfl, rfl, rfl, rfl, kp, oa, ob, op, oq, os, ol, B⟩ := hcut
      obtain ⟨w9, hw_⟩ : ∃ x, x = wc := ⟨_, rfl⟩
      subst hw_
      replace Fna := Hid.mk_ (Fna.out.keeps kp)
      replace Fnb := Hid.mk_ (Fnb.out.keeps kp)
      replace Fnc := Hid.mk_ (Fnc.out.keeps kp)
      replace Fnd := Hid.mk_ (Fnd.out.keeps kp)
      clear kp
      have cl0 := ol.q0
      have cl1 := ol.q1
      have cl2 := ol.q2
      have cl3 := ol.q3
      have cl4 := ol.q4
      have cl5 := ol.q5
      have cl6 := ol.q6
      have cl7 := ol.q7
      have cl8 := ol.q8
      have cl9 := ol.q9
      have cl10 := ol.q10
      have cl11 := ol.q11
      have cl12 := ol.q12
      have cl13 := ol.q13
      have cl14 := ol.q14
      have cl15 := ol.q15
      have ll := ol.lt
      obtain ⟨glow1, hglow1⟩ : ∃ q_, (glow0 || L1) = q_ := ⟨_, rfl⟩
      rw [hglow1]
      obtain ⟨ghigh1, hghigh1⟩ : ∃ q_, (ghigh0 || H1) = q_ := ⟨_, rfl⟩
      rw [hghigh1]
      obtain ⟨gless1, hgless1⟩ : ∃ q_, (gless0 || (!zd && S1)) = q_ := ⟨_, rfl⟩
      rw [hgless1]
      obtain ⟨gmore1, hgmore1⟩ : ∃ q_, (gmore0 || (!zd && R1)) = q_ := ⟨_, rfl⟩
      rw [hgmore1]
      clear cL1 cH1 cS1 cR1
      go_wp2_with fail
      rw [rounds_succ]
      go_wp2_with fail
      rw [rounds_succ]
      go_wp2_with fail
      refine wp_loop_rounds 3 ?_
      rw [rounds_succ]
      go_upto_block 3 with fail
      go_cut [17, 18, 19, 20] (fun sl0 sl1 sl2 sl3  wx => sl0 = .bool (glow1 || L2) ∧ sl1 = .bool (ghigh1 || H2) ∧ sl2 = .bool (gless1 || (!zc && S2)) ∧ sl3 = .bool (gmore1 || (!zc && R2)) ∧ Keeps w9 wx ∧ Blk wx (w.heap.size) 23 #[.int .i64 (a), .int .i64 (b)] ∧ Blk wx (w.heap.size + 1) 23 #[.int .i64 (c), .int .i64 (d)] ∧ Blk wx (w4.heap.size) 23 #[.int .i64 (p0), .int .i64 (q0)] ∧ Blk wx (w5.heap.size) 23 #[.int .i64 (p1), .int .i64 (q1)] ∧ Blk wx (w6.heap.size) 23 #[.int .i64 (p2), .int .i64 (q2)] ∧ Blk wx (p16) 45 #[.bool na1, .slice na2 na3 na4, .bool na5, .slice na6 na7 na8, .bool nb1, .slice nb2 nb3 nb4, .bool nb5, .slice nb6 nb7 nb8, .bool nc1, .slice nc2 nc3 nc4, .bool nc5, .slice nc6 nc7 nc8, .bool nd1, .slice nd2 nd3 nd4, .bool nd5, .slice nd6 nd7 nd8] ∧ Below w.heap.size w wx)
      case first => as_aux_lemma =>
        have kk := Keeps.refl w9
        have zl_9 : p16 < w9.heap.size := ol.lt
        have zz9 := B.size
        go_upto_region 15 with fail
        refine Reg.wp_chain_n (fun N0 D v W => Below w.heap.size w W ∧ Keeps w9 W ∧ N0 ≤ W.heap.size ∧ Blk W (w.heap.size) 23 #[.int .i64 (a), .int .i64 (b)] ∧ Blk W (w.heap.size + 1) 23 #[.int .i64 (c), .int .i64 (d)] ∧ Blk W (w4.heap.size) 23 #[.int .i64 (p0), .int .i64 (q0)] ∧ Blk W (w5.heap.size) 23 #[.int .i64 (p1), .int .i64 (q1)] ∧ Blk W (w6.heap.size) 23 #[.int .i64 (p2), .int .i64 (q2)] ∧ Blk W (p16) 45 #[.bool na1, .slice na2 na3 na4, .bool na5, .slice na6 na7 na8, .bool nb1, .slice nb2 nb3 nb4, .bool nb5, .slice nb6 nb7 nb8, .bool nc1, .slice nc2 nc3 nc4, .bool nc5, .slice nc6 nc7 nc8, .bool nd1, .slice nd2 nd3 nd4, .bool nd5, .slice nd6 nd7 nd8] ∧ (D 10 = true → ∃ g : Nat, v 10 = .pointer (some ⟨g, 0, none⟩) ∧ N0 ≤ g ∧ g < W.heap.size ∧ (D 11 = false → Blk W g 31 #[.bool false, .slice none 0 0, .bool false, .slice none 0 0]) ∧ (D 11 = true → D 6 = true ∧ ∃ cs, v 6 = .tuple #[.agg cs, .int .i64 0] ∧ Blk W g 31 cs)))
          (Reg.inl [6, 10, 11]) (Reg.gv [(6, IsFrE 0), (10, IsPtr)]) (gw [(6, GFrE (unitQ b * unitQ c) 0)]) (fun _ => Keeps) (fun _ _ => False) (Reg.pl [(11, [(6, some 96), (10, some 23)]), (13, [(6, some 96), (10, some 23)])]) (Reg.pl [(10, [11]), (6, [11])])
          (by kernel_rfl) (by kernel_rfl) (by kernel_rfl) (Reg.gv_some _ (by intro p hp; simp only [List.mem_cons, List.not_mem_nil, or_false] at hp; rcases hp with rfl | rfl <;> first | exact ⟨_, rfl⟩ | exact ⟨_, 0, rfl⟩ | exact ⟨_, none, 0, 0, rfl⟩ | exact ⟨_, false, none, 0, 0, rfl⟩ | exact ⟨_, false, none, 0, 0, false, none, 0, 0, rfl⟩)) (fun N0 hN0 => ⟨fun v => ?_, fun D v v' W hv hj => ?_, fun D v k j W W' x _ _ _ _ hk hg => gw_keeps _ (by intro p hp; simp only [List.mem_cons, List.not_mem_nil, or_false] at hp; rcases hp with rfl <;> first | exact GFr.keeps | exact GFrE.keeps | exact GNu.keeps | exact GNuE.keeps | exact GLi.keeps) hk hg, fun _ _ _ _ h => h.elim, fun ops' Q' hops hQ => ?_⟩)
        · exact ⟨belowB, keepsB, Nat.le_of_eq hN0.out, ownK, ownK, ownK, ownK, ownK, ownK, (fun h => Bool.noConfusion h)⟩
        · obtain ⟨j0, jk, jn, b_a, b_b, b_p, b_q, b_s, b_l, a_10⟩ := hj
          exact ⟨j0, jk, jn, b_a, b_b, b_p, b_q, b_s, b_l, fun h => by obtain ⟨g, e1, e2, e3, e4, e5⟩ := a_10 h; exact ⟨g, (hv 10 h) ▸ e1, e2, e3, e4, fun h => by obtain ⟨d, cs, e, hb⟩ := e5 h; exact ⟨d, cs, (hv 6 d) ▸ e, hb⟩⟩⟩
        have i_a : w.heap.size < N0 := by have e := hN0.out; (try simp only [World.size_alloc, World.size_setCell, World.size_drew, World.heap_drewN] at e); first | omega | (have h := oa.lt; omega)
        have i_b : w.heap.size + 1 < N0 := by have e := hN0.out; (try simp only [World.size_alloc, World.size_setCell, World.size_drew, World.heap_drewN] at e); first | omega | (have h := ob.lt; omega)
        have i_p : w4.heap.size < N0 := by have e := hN0.out; (try simp only [World.size_alloc, World.size_setCell, World.size_drew, World.heap_drewN] at e); first | omega | (have h := op.lt; omega)
        have i_q : w5.heap.size < N0 := by have e := hN0.out; (try simp only [World.size_alloc, World.size_setCell, World.size_drew, World.heap_drewN] at e); first | omega | (have h := oq.lt; omega)
        have i_s : w6.heap.size < N0 := by have e := hN0.out; (try simp only [World.size_alloc, World.size_setCell, World.size_drew, World.heap_drewN] at e); first | omega | (have h := os.lt; omega)
        have i_l : p16 < N0 := by have e := hN0.out; (try simp only [World.size_alloc, World.size_setCell, World.size_drew, World.heap_drewN] at e); first | omega | (have h := ol.lt; omega)
        have iw : w.heap.size ≤ N0 := by have e := hN0.out; (try simp only [World.size_alloc, World.size_setCell, World.size_drew, World.heap_drewN] at e); first | omega | (have h := B.size; omega)
        clear cl0 cl1 cl2 cl3 cl4 cl5 cl6 cl7 cl8 cl9 cl10 cl11 cl12 cl13 cl14 cl15 ll
        clear hN0
        apply Reg.RC_pure (hc := rfl) (hst := rfl) (hw := rfl) (t := 90) (hd := rfl) (ht := Nat.le_of_ble_eq_true rfl)
        · intro D v' W' hc hj hf K hK
          go_step
          exact hK.out
        · rfl
        apply Reg.RC_pure (hc := rfl) (hst := rfl) (hw := rfl) (t := 91) (hd := rfl) (ht := Nat.le_of_ble_eq_true rfl)
        · intro D v' W' hc hj hf K hK
          go_step
          exact hK.out
        · rfl
        apply Reg.RC_pure (hc := rfl) (hst := rfl) (hw := rfl) (t := 92) (hd := rfl) (ht := Nat.le_of_ble_eq_true rfl)
        · intro D v' W' hc hj hf K hK
          obtain ⟨j0, jk, jn, b_a, b_b, b_p, b_q, b_s, b_l, a_10⟩ := hj
          have c0 : W'.cell? ⟨p16, 0, none⟩ = some (.bool na1) := b_l.c 0 rfl
          have c1 : W'.cell? ⟨p16, 1, none⟩ = some (.slice na2 na3 na4) := b_l.c 1 rfl
          have c2 : W'.cell? ⟨p16, 2, none⟩ = some (.bool na5) := b_l.c 2 rfl
          have c3 : W'.cell? ⟨p16, 3, none⟩ = some (.slice na6 na7 na8) := b_l.c 3 rfl
          have c4 : W'.cell? ⟨p16, 4, none⟩ = some (.bool nb1) := b_l.c 4 rfl
          have c5 : W'.cell? ⟨p16, 5, none⟩ = some (.slice nb2 nb3 nb4) := b_l.c 5 rfl
          have c6 : W'.cell? ⟨p16, 6, none⟩ = some (.bool nb5) := b_l.c 6 rfl
          have c7 : W'.cell? ⟨p16, 7, none⟩ = some (.slice nb6 nb7 nb8) := b_l.c 7 rfl
          have c8 : W'.cell? ⟨p16, 8, none⟩ = some (.bool nc1) := b_l.c 8 rfl
          have c9 : W'.cell? ⟨p16, 9, none⟩ = some (.slice nc2 nc3 nc4) := b_l.c 9 rfl
          have c10 : W'.cell? ⟨p16, 10, none⟩ = some (.bool nc5) := b_l.c 10 rfl
          have c11 : W'.cell? ⟨p16, 11, none⟩ = some (.slice nc6 nc7 nc8) := b_l.c 11 rfl
          have c12 : W'.cell? ⟨p16, 12, none⟩ = some (.bool nd1) := b_l.c 12 rfl
          have c13 : W'.cell? ⟨p16, 13, none⟩ = some (.slice nd2 nd3 nd4) := b_l.c 13 rfl
          have c14 : W'.cell? ⟨p16, 14, none⟩ = some (.bool nd5) := b_l.c 14 rfl
          have c15 : W'.cell? ⟨p16, 15, none⟩ = some (.slice nd6 nd7 nd8) := b_l.c 15 rfl
          go_step
          exact hK.out
        · rfl
        apply Reg.RC_pure (hc := rfl) (hst := rfl) (hw := rfl) (t := 93) (hd := rfl) (ht := Nat.le_of_ble_eq_true rfl)
        · intro D v' W' hc hj hf K hK
          go_step
          exact hK.out
        · rfl
        apply Reg.RC_pure (hc := rfl) (hst := rfl) (hw := rfl) (t := 94) (hd := rfl) (ht := Nat.le_of_ble_eq_true rfl)
        · intro D v' W' hc hj hf K hK
          go_step
          exact hK.out
        · rfl
        apply Reg.RC_pure (hc := rfl) (hst := rfl) (hw := rfl) (t := 95) (hd := rfl) (ht := Nat.le_of_ble_eq_true rfl)
        · intro D v' W' hc hj hf K hK
          obtain ⟨j0, jk, jn, b_a, b_b, b_p, b_q, b_s, b_l, a_10⟩ := hj
          have c0 : W'.cell? ⟨p16, 0, none⟩ = some (.bool na1) := b_l.c 0 rfl
          have c1 : W'.cell? ⟨p16, 1, none⟩ = some (.slice na2 na3 na4) := b_l.c 1 rfl
          have c2 : W'.cell? ⟨p16, 2, none⟩ = some (.bool na5) := b_l.c 2 rfl
          have c3 : W'.cell? ⟨p16, 3, none⟩ = some (.slice na6 na7 na8) := b_l.c 3 rfl
          have c4 : W'.cell? ⟨p16, 4, none⟩ = some (.bool nb1) := b_l.c 4 rfl
          have c5 : W'.cell? ⟨p16, 5, none⟩ = some (.slice nb2 nb3 nb4) := b_l.c 5 rfl
          have c6 : W'.cell? ⟨p16, 6, none⟩ = some (.bool nb5) := b_l.c 6 rfl
          have c7 : W'.cell? ⟨p16, 7, none⟩ = some (.slice nb6 nb7 nb8) := b_l.c 7 rfl
          have c8 : W'.cell? ⟨p16, 8, none⟩ = some (.bool nc1) := b_l.c 8 rfl
          have c9 : W'.cell? ⟨p16, 9, none⟩ = some (.slice nc2 nc3 nc4) := b_l.c 9 rfl
          have c10 : W'.cell? ⟨p16, 10, none⟩ = some (.bool nc5) := b_l.c 10 rfl
          have c11 : W'.cell? ⟨p16, 11, none⟩ = some (.slice nc6 nc7 nc8) := b_l.c 11 rfl
          have c12 : W'.cell? ⟨p16, 12, none⟩ = some (.bool nd1) := b_l.c 12 rfl
          have c13 : W'.cell? ⟨p16, 13, none⟩ = some (.slice nd2 nd3 nd4) := b_l.c 13 rfl
          have c14 : W'.cell? ⟨p16, 14, none⟩ = some (.bool nd5) := b_l.c 14 rfl
          have c15 : W'.cell? ⟨p16, 15, none⟩ = some (.slice nd6 nd7 nd8) := b_l.c 15 rfl
          go_step
          exact hK.out
        · rfl
        refine Reg.RC_call rfl (by intro t ht; cases ht; exact Nat.le_of_ble_eq_true rfl) rfl (fun D v' W' hc hj hf K hK => ?_) ?_
        · obtain ⟨j0, jk, jn, b_a, b_b, b_p, b_q, b_s, b_l, a_10⟩ := hj
          clear hf
          go_step
          refine (rTimesQ W' (Fnb.out.keeps jk) (Fnc.out.keeps jk) sb sc (by omega)).mono ?_
          rintro e W2 ⟨u, rfl, hu, hs⟩
          obtain ⟨r5_1, r5_2, r5_3, r5_4, r5_5, r5_6, r5_7, r5_8, rfl⟩ := hu.shape
          exact hK.out _ W2 (Keeps.steps hs) ⟨below_steps j0 (Nat.le_refl _) hs, jk.then_ hs, Nat.le_trans jn hs.size, b_a.steps hs, b_b.steps hs, b_p.steps hs, b_q.steps hs, b_s.steps hs, b_l.steps hs, fun h => by obtain ⟨g, e1, e2, e3, e4, e5⟩ := a_10 h; exact ⟨g, e1, e2, Nat.lt_of_lt_of_le e3 (hs).size, fun h => (e4 h).steps hs, fun h => Bool.noConfusion ((hc.2 11 (by decide)).symm.trans h)⟩⟩ ⟨_, rfl, hu⟩ ⟨_, _, _, _, _, _, _, _, rfl⟩
        rintro _ ⟨r5_1, r5_2, r5_3, r5_4, r5_5, r5_6, r5_7, r5_8, rfl⟩
        refine Reg.RC_at (b := ⟨#[_,_,_,_,_,_,_,_,_,_,_,_,_,_,_,_,_,_,_,_,_,_,_,_,_,_,_,_,_,_,_,_,_,_,_,_,_,_,_,_,_,_,_,_,_,_,_,_,_,_,_,_,_,_,_,_,_,_,_,_,_,_,_,_,_,_,_,_,_,_,_,_,_,_,_,_,_,_,_,_,_,_,_,_,_,_,_,_,_,_,_,_,_,_,_,_,_,_,_,_,_,_,_,_,_,_,_,_,_,_,_,_,_,_,_,_,_,_,_,_,_,_,_,_,_,_,_,_,_,_,_,_,_,_,_,_,_,_,_,_,_,_,_,_,_,_,_,_,_,_,_,_,_,_,_,_,_,_,_,_,_,_,_,_,_,_,_,_,_,_,_,_,_,_,_,_,_,_,_,_,_,_,_,_,_,_,_,_,_,_,_,_,_,_,_,_,_,_,_,_,_,_,_,_,_,_,_,_,_,_,_,_,_,_,_,_,_,_,_,_], _⟩) rfl ?_
        apply Reg.RC_pure (hc := rfl) (hst := rfl) (hw := rfl) (t := 89) (hd := rfl) (ht := Nat.le_of_ble_eq_true rfl)
        · intro D v' W' hc hj hf K hK
          go_step
          exact hK.out
        · rfl
        apply Reg.RC_pure (hc := rfl) (hst := rfl) (hw := rfl) (t := 97) (hd := rfl) (ht := Nat.le_of_ble_eq_true rfl)
        · intro D v' W' hc hj hf K hK
          go_step
          exact hK.out
        · rfl
        apply Reg.RC_pure (hc := rfl) (hst := rfl) (hw := rfl) (t := 98) (hd := rfl) (ht := Nat.le_of_ble_eq_true rfl)
        · intro D v' W' hc hj hf K hK
          go_step
          exact hK.out
        · rfl
        refine Reg.RC_call rfl (by intro t ht; cases ht; exact Nat.le_of_ble_eq_true rfl) rfl (fun D v' W' hc hj hf K hK => ?_) ?_
        · obtain ⟨j0, jk, jn, b_a, b_b, b_p, b_q, b_s, b_l, a_10⟩ := hj
          go_step
          have hs : ∀ o : Obj, Steps W' (W'.alloc o) := fun o => (Below.refl _ _).alloc (Nat.le_refl _) o
          exact hK.out _ _ (Keeps.steps (hs _)) ⟨below_steps j0 (Nat.le_refl _) (hs _), jk.then_ (hs _), Nat.le_trans jn (hs _).size, b_a.steps (hs _), b_b.steps (hs _), b_p.steps (hs _), b_q.steps (hs _), b_s.steps (hs _), b_l.steps (hs _), fun _ => ⟨W'.heap.size, rfl, jn, by rw [World.size_alloc]; omega, fun _ => Blk.new _ _ _, fun h => Bool.noConfusion ((hc.2 11 (by decide)).symm.trans h)⟩⟩ trivial ⟨_, rfl⟩
        rintro _ ⟨p23, rfl⟩
        refine Reg.RC_at (b := ⟨#[_,_,_,_,_,_,_,_,_,_,_,_,_,_,_,_,_,_,_,_,_,_,_,_,_,_,_,_,_,_,_,_,_,_,_,_,_,_,_,_,_,_,_,_,_,_,_,_,_,_,_,_,_,_,_,_,_,_,_,_,_,_,_,_,_,_,_,_,_,_,_,_,_,_,_,_,_,_,_,_,_,_,_,_,_,_,_,_,_,_,_,_,_,_,_,_,_,_,_,_,_,_,_,_,_,_,_,_,_,_,_,_,_,_,_,_,_,_,_,_,_,_,_,_,_,_,_,_,_,_,_,_,_,_,_,_,_,_,_,_,_,_,_,_,_,_,_,_,_,_,_,_,_,_,_,_,_,_,_,_,_,_,_,_,_,_,_,_,_,_,_,_,_,_,_,_,_,_,_,_,_,_,_,_,_,_,_,_,_,_,_,_,_,_,_,_,_,_,_,_,_,_,_,_,_,_,_,_,_,_,_,_,_,_,_,_,_,_,_,_], _⟩) rfl ?_
        refine Reg.RC_call rfl (by intro t ht; cases ht) rfl (fun D v' W' hc hj hf K hK => ?_) (fun _ _ => Reg.RC_at (b := ⟨_, _⟩) rfl ?_)
        · obtain ⟨j0, jk, jn, b_a, b_b, b_p, b_q, b_s, b_l, a_10⟩ := hj
          have f := hf (10, some 23) (.tail _ (.head _)) rfl
          have e6 : v' 10 = .pointer (some ⟨p23, 0, none⟩) := f.2.1
          obtain ⟨g, e1, e2, e3, e4, e5⟩ := a_10 f.1
          obtain rfl : p23 = g := Reg.ptr_eq (e6.symm.trans e1)
          have hb := e4 hc.1
          clear e4 e5
          have fc := hf (6, some 96) (.head _) rfl
          have ec : v' 6 = .tuple #[.agg #[.bool r5_1, .slice r5_2 r5_3 r5_4, .bool r5_5, .slice r5_6 r5_7 r5_8], .int .i64 0] := fc.2.1
          have ff := hb.fr
          have cc0 : W'.cell? ⟨p23, 0, none⟩ = some (.bool false) := hb.c 0 rfl
          have cc1 : W'.cell? ⟨p23, 1, none⟩ = some (.slice none 0 0) := hb.c 1 rfl
          have cc2 : W'.cell? ⟨p23, 2, none⟩ = some (.bool false) := hb.c 2 rfl
          have cc3 : W'.cell? ⟨p23, 3, none⟩ = some (.slice none 0 0) := hb.c 3 rfl
          go_step
          exact hK.out undef _ (Keeps.only hb rfl ((Only.refl _ _).set.set.set.set)) ⟨(Below.setCell (p := ⟨p23, 3, none⟩) (Below.setCell (p := ⟨p23, 2, none⟩) (Below.setCell (p := ⟨p23, 1, none⟩) (Below.setCell (p := ⟨p23, 0, none⟩) j0 (by show w.heap.size ≤ p23; omega) _) (by show w.heap.size ≤ p23; omega) _) (by show w.heap.size ≤ p23; omega) _) (by show w.heap.size ≤ p23; omega) _), jk.trans (Keeps.only hb rfl ((Only.refl _ _).set.set.set.set)), by simpa using jn, ((((b_a).far' (show w.heap.size ≠ p23 by omega)).far' (show w.heap.size ≠ p23 by omega)).far' (show w.heap.size ≠ p23 by omega)).far' (show w.heap.size ≠ p23 by omega), ((((b_b).far' (show w.heap.size + 1 ≠ p23 by omega)).far' (show w.heap.size + 1 ≠ p23 by omega)).far' (show w.heap.size + 1 ≠ p23 by omega)).far' (show w.heap.size + 1 ≠ p23 by omega), ((((b_p).far' (show w4.heap.size ≠ p23 by omega)).far' (show w4.heap.size ≠ p23 by omega)).far' (show w4.heap.size ≠ p23 by omega)).far' (show w4.heap.size ≠ p23 by omega), ((((b_q).far' (show w5.heap.size ≠ p23 by omega)).far' (show w5.heap.size ≠ p23 by omega)).far' (show w5.heap.size ≠ p23 by omega)).far' (show w5.heap.size ≠ p23 by omega), ((((b_s).far' (show w6.heap.size ≠ p23 by omega)).far' (show w6.heap.size ≠ p23 by omega)).far' (show w6.heap.size ≠ p23 by omega)).far' (show w6.heap.size ≠ p23 by omega), ((((b_l).far' (show p16 ≠ p23 by omega)).far' (show p16 ≠ p23 by omega)).far' (show p16 ≠ p23 by omega)).far' (show p16 ≠ p23 by omega), fun _ => ⟨p23, e1, e2, by simpa using e3, fun h => Bool.noConfusion h, fun _ => ⟨fc.1, _, ec, (Blk.set2 (cs' := #[.bool r5_1, .slice r5_2 r5_3 r5_4, .bool r5_5, .slice r5_6 r5_7 r5_8]) (Blk.set2 (cs' := #[.bool r5_1, .slice r5_2 r5_3 r5_4, .bool r5_5, .slice none 0 0]) (Blk.set2 (cs' := #[.bool r5_1, .slice r5_2 r5_3 r5_4, .bool false, .slice none 0 0]) (Blk.set2 (cs' := #[.bool r5_1, .slice none 0 0, .bool false, .slice none 0 0]) hb (i := 0) rfl) (i := 1) rfl) (i := 2) rfl) (i := 3) rfl)⟩⟩⟩ trivial trivial
        apply Reg.RC_pure (hc := rfl) (hst := rfl) (hw := rfl) (t := 24) (hd := rfl) (ht := Nat.le_of_ble_eq_true rfl)
        · intro D v' W' hc hj hf K hK
          go_step
          exact hK.out
        · rfl
        refine Reg.RC_end (fun Dn v' w10 hd hj hf => ?_)
        obtain ⟨j0, jk, jn, b_a, b_b, b_p, b_q, b_s, b_l, a_10⟩ := hj
        have B := j0
        have oa := b_a
        clear b_a
        have ob := b_b
        clear b_b
        have op := b_p
        clear b_p
        have oq := b_q
        clear b_q
        have os := b_s
        clear b_s
        have ol := b_l
        clear b_l
        have f := hf (10, some 23) (.tail _ (.head _)) rfl
        have e6_ : v' 10 = .pointer (some ⟨p23, 0, none⟩) := f.2.1
        obtain ⟨g, e1_, zx, -, -, e5_⟩ := a_10 f.1
        obtain rfl : p23 = g := Reg.ptr_eq (e6_.symm.trans e1_)
        obtain ⟨-, cs_, ee, ox⟩ := e5_ (hd 11 (Nat.le_of_ble_eq_true rfl))
        have ef : v' 6 = .tuple #[.agg #[.bool r5_1, .slice r5_2 r5_3 r5_4, .bool r5_5, .slice r5_6 r5_7 r5_8], .int .i64 0] := (hf (6, some 96) (.head _) rfl).2.1
        obtain rfl : #[.bool r5_1, .slice r5_2 r5_3 r5_4, .bool r5_5, .slice r5_6 r5_7 r5_8] = cs_ := by have := ef.symm.trans ee; simpa only [Value.tuple.injEq, Value.agg.injEq, Array.mk.injEq, List.cons.injEq, and_true, true_and] using this
        clear ee ef f e5_ e1_ e6_
        have Fr5_ := Hid.mk_ (GFrE.get (r := unitQ b * unitQ c) (e := 0) (v := .agg #[.bool r5_1, .slice r5_2 r5_3 r5_4, .bool r5_5, .slice r5_6 r5_7 r5_8]) (hf (6, some 96) (.head _) rfl).2.2)
        replace Fna := Hid.mk_ (Fna.out.keeps jk)
        replace Fnb := Hid.mk_ (Fnb.out.keeps jk)
        replace Fnc := Hid.mk_ (Fnc.out.keeps jk)
        replace Fnd := Hid.mk_ (Fnd.out.keeps jk)
        replace kk := kk.trans jk
        clear hd hf jk j0
        refine hQ _ _ ?_
        clear hQ hops Q' ops'
        have cp0 := op.q0
        have cp1 := op.q1
        have lp := op.lt
        have cx0 := ox.q0
        have cx1 := ox.q1
        have cx2 := ox.q2
        have cx3 := ox.q3
        have lx := ox.lt
        go_upto_region 16 with fail
        go_cut [17] (fun sl0  wx => sl0 = .bool (glow1 || L2) ∧ Keeps w10 wx ∧ Blk wx (w.heap.size) 23 #[.int .i64 (a), .int .i64 (b)] ∧ Blk wx (w.heap.size + 1) 23 #[.int .i64 (c), .int .i64 (d)] ∧ Blk wx (w4.heap.size) 23 #[.int .i64 (p0), .int .i64 (q0)] ∧ Blk wx (w5.heap.size) 23 #[.int .i64 (p1), .int .i64 (q1)] ∧ Blk wx (w6.heap.size) 23 #[.int .i64 (p2), .int .i64 (q2)] ∧ Blk wx (p16) 45 #[.bool na1, .slice na2 na3 na4, .bool na5, .slice na6 na7 na8, .bool nb1, .slice nb2 nb3 nb4, .bool nb5, .slice nb6 nb7 nb8, .bool nc1, .slice nc2 nc3 nc4, .bool nc5, .slice nc6 nc7 nc8, .bool nd1, .slice nd2 nd3 nd4, .bool nd5, .slice nd6 nd7 nd8] ∧ Blk wx (p23) 31 #[.bool r5_1, .slice r5_2 r5_3 r5_4, .bool r5_5, .slice r5_6 r5_7 r5_8] ∧ Below w.heap.size w wx)
        case first => as_aux_lemma =>
          have kk := Keeps.refl w10
          cases hb : glow1
          case false =>
            go_wp2_with fail
            refine (cL2 _ _ (Fr5_.out.keeps keepsB)).mono ?_
            rintro e w11 ⟨rfl, hb11⟩
            have st : Steps _ w11 := hb11
            have sk : Below w10.heap.size w10 w11 := belowA st
            replace B := below_steps B (Nat.le_refl _) sk
            replace oa := oa.steps sk
            replace ob := ob.steps sk
            replace op := op.steps sk
            replace oq := oq.steps sk
            replace os := os.steps sk
            replace ol := ol.steps sk
            replace ox := ox.steps sk
            replace Fna := Hid.mk_ (Fna.out.steps sk)
            replace Fnb := Hid.mk_ (Fnb.out.steps sk)
            replace Fnc := Hid.mk_ (Fnc.out.steps sk)
            replace Fnd := Hid.mk_ (Fnd.out.steps sk)
            replace Fr5_ := Hid.mk_ (Fr5_.out.steps sk)
            replace kk := kk.then_ sk
            clear st sk cp0 cp1 lp cx0 cx1 cx2 cx3 lx
            go_wp2_with fail
            go_meet
            exact ⟨by simp [hb], kk.trans keepsB, ownK, ownK, ownK, ownK, ownK, ownK, ownK, belowB⟩
          case true =>
            go_wp2_with fail
            go_meet
            exact ⟨by simp [hb], kk.trans keepsB, ownK, ownK, ownK, ownK, ownK, ownK, ownK, belowB⟩
        case rest =>
          clear cp0 cp1 lp cx0 cx1 cx2 cx3 lx
          obtain ⟨rfl, kp, oa, ob, op, oq, os, ol, ox, B⟩ := hcut
          obtain ⟨w11, hw_⟩ : ∃ x, x = wc := ⟨_, rfl⟩
          subst hw_
          replace Fna := Hid.mk_ (Fna.out.keeps kp)
          replace Fnb := Hid.mk_ (Fnb.out.keeps kp)
          replace Fnc := Hid.mk_ (Fnc.out.keeps kp)
          replace Fnd := Hid.mk_ (Fnd.out.keeps kp)
          replace Fr5_ := Hid.mk_ (Fr5_.out.keeps kp)
          replace kk := kk.trans kp
          clear kp
          have cp0 := op.q0
          have cp1 := op.q1
          have lp := op.lt
          have cx0 := ox.q0
          have cx1 := ox.q1
          have cx2 := ox.q2
          have cx3 := ox.q3
          have lx := ox.lt
          go_upto_region 17 with fail
          go_cut [18] (fun sl0  wx => sl0 = .bool (ghigh1 || H2) ∧ Keeps w11 wx ∧ Blk wx (w.heap.size) 23 #[.int .i64 (a), .int .i64 (b)] ∧ Blk wx (w.heap.size + 1) 23 #[.int .i64 (c), .int .i64 (d)] ∧ Blk wx (w4.heap.size) 23 #[.int .i64 (p0), .int .i64 (q0)] ∧ Blk wx (w5.heap.size) 23 #[.int .i64 (p1), .int .i64 (q1)] ∧ Blk wx (w6.heap.size) 23 #[.int .i64 (p2), .int .i64 (q2)] ∧ Blk wx (p16) 45 #[.bool na1, .slice na2 na3 na4, .bool na5, .slice na6 na7 na8, .bool nb1, .slice nb2 nb3 nb4, .bool nb5, .slice nb6 nb7 nb8, .bool nc1, .slice nc2 nc3 nc4, .bool nc5, .slice nc6 nc7 nc8, .bool nd1, .slice nd2 nd3 nd4, .bool nd5, .slice nd6 nd7 nd8] ∧ Blk wx (p23) 31 #[.bool r5_1, .slice r5_2 r5_3 r5_4, .bool r5_5, .slice r5_6 r5_7 r5_8] ∧ Below w.heap.size w wx)
          case first => as_aux_lemma =>
            have kk := Keeps.refl w11
            cases hb : ghigh1
            case false =>
              go_wp2_with fail
              refine (cH2 _ _ (Fr5_.out.keeps keepsB)).mono ?_
              rintro e w12 ⟨rfl, hb12⟩
              have st : Steps _ w12 := hb12
              have sk : Below w11.heap.size w11 w12 := belowA st
              replace B := below_steps B (Nat.le_refl _) sk
              replace oa := oa.steps sk
              replace ob := ob.steps sk
              replace op := op.steps sk
              replace oq := oq.steps sk
              replace os := os.steps sk
              replace ol := ol.steps sk
              replace ox := ox.steps sk
              replace Fna := Hid.mk_ (Fna.out.steps sk)
              replace Fnb := Hid.mk_ (Fnb.out.steps sk)
              replace Fnc := Hid.mk_ (Fnc.out.steps sk)
              replace Fnd := Hid.mk_ (Fnd.out.steps sk)
              replace Fr5_ := Hid.mk_ (Fr5_.out.steps sk)
              replace kk := kk.then_ sk
              clear st sk cp0 cp1 lp cx0 cx1 cx2 cx3 lx
              go_wp2_with fail
              go_meet
              exact ⟨by simp [hb], kk.trans keepsB, ownK, ownK, ownK, ownK, ownK, ownK, ownK, belowB⟩
            case true =>
              go_wp2_with fail
              go_meet
              exact ⟨by simp [hb], kk.trans keepsB, ownK, ownK, ownK, ownK, ownK, ownK, ownK, belowB⟩
          case rest =>
            clear cp0 cp1 lp cx0 cx1 cx2 cx3 lx
            obtain ⟨rfl, kp, oa, ob, op, oq, os, ol, ox, B⟩ := hcut
            obtain ⟨w12, hw_⟩ : ∃ x, x = wc := ⟨_, rfl⟩
            subst hw_
            replace Fna := Hid.mk_ (Fna.out.keeps kp)
            replace Fnb := Hid.mk_ (Fnb.out.keeps kp)
            replace Fnc := Hid.mk_ (Fnc.out.keeps kp)
            replace Fnd := Hid.mk_ (Fnd.out.keeps kp)
            replace Fr5_ := Hid.mk_ (Fr5_.out.keeps kp)
            replace kk := kk.trans kp
            clear kp
            have cl0 := ol.q0
            have cl1 := ol.q1
            have cl2 := ol.q2
            have cl3 := ol.q3
            have cl4 := ol.q4
            have cl5 := ol.q5
            have cl6 := ol.q6
            have cl7 := ol.q7
            have cl8 := ol.q8
            have cl9 := ol.q9
            have cl10 := ol.q10
            have cl11 := ol.q11
            have cl12 := ol.q12
            have cl13 := ol.q13
            have cl14 := ol.q14
            have cl15 := ol.q15
            have ll := ol.lt
            have hz_ := nzB Fnc.out.len
            rw [hzc] at hz_
            go_upto_region 18 with fail
            go_cut [119] (fun sl0  wx => sl0 = .bool (!zc) ∧ Keeps w12 wx ∧ Blk wx (w.heap.size) 23 #[.int .i64 (a), .int .i64 (b)] ∧ Blk wx (w.heap.size + 1) 23 #[.int .i64 (c), .int .i64 (d)] ∧ Blk wx (w4.heap.size) 23 #[.int .i64 (p0), .int .i64 (q0)] ∧ Blk wx (w5.heap.size) 23 #[.int .i64 (p1), .int .i64 (q1)] ∧ Blk wx (w6.heap.size) 23 #[.int .i64 (p2), .int .i64 (q2)] ∧ Blk wx (p16) 45 #[.bool na1, .slice na2 na3 na4, .bool na5, .slice na6 na7 na8, .bool nb1, .slice nb2 nb3 nb4, .bool nb5, .slice nb6 nb7 nb8, .bool nc1, .slice nc2 nc3 nc4, .bool nc5, .slice nc6 nc7 nc8, .bool nd1, .slice nd2 nd3 nd4, .bool nd5, .slice nd6 nd7 nd8] ∧ Blk wx (p23) 31 #[.bool r5_1, .slice r5_2 r5_3 r5_4, .bool r5_5, .slice r5_6 r5_7 r5_8] ∧ Below w.heap.size w wx)
            case first => as_aux_lemma =>
              have kk := Keeps.refl w12
              go_wp2_with fail
              go_meet
              exact ⟨by first | (rw [← hz_]; done) | (rw [← hz_]; simp), kk.trans keepsB, ownK, ownK, ownK, ownK, ownK, ownK, ownK, belowB⟩
            case rest =>
              clear cl0 cl1 cl2 cl3 cl4 cl5 cl6 cl7 cl8 cl9 cl10 cl11 cl12 cl13 cl14 cl15 ll
              obtain ⟨rfl, kp, oa, ob, op, oq, os, ol, ox, B⟩ := hcut
              obtain ⟨w13, hw_⟩ : ∃ x, x = wc := ⟨_, rfl⟩
              subst hw_
              replace Fna := Hid.mk_ (Fna.out.keeps kp)
              replace Fnb := Hid.mk_ (Fnb.out.keeps kp)
              replace Fnc := Hid.mk_ (Fnc.out.keeps kp)
              replace Fnd := Hid.mk_ (Fnd.out.keeps kp)
              replace Fr5_ := Hid.mk_ (Fr5_.out.keeps kp)
              replace kk := kk.trans kp
              clear kp hz_
              have cl0 := ol.q0
              have cl1 := ol.q1
              have cl2 := ol.q2
              have cl3 := ol.q3
              have cl4 := ol.q4
              have cl5 := ol.q5
              have cl6 := ol.q6
              have cl7 := ol.q7
              have cl8 := ol.q8
              have cl9 := ol.q9
              have cl10 := ol.q10
              have cl11 := ol.q11
              have cl12 := ol.q12
              have cl13 := ol.q13
              have cl14 := ol.q14
              have cl15 := ol.q15
              have ll := ol.lt
              cases hk : zc
              case true =>
                go_wp2_with fail
                go_meet
                exact ⟨rfl, rfl, by simp [hk], by simp [hk], kk.trans keepsB, ownK, ownK, ownK, ownK, ownK, ownK, belowB⟩
              case false =>
                have hnz : c ≠ 0 := by rw [hk] at hzc; simpa using hzc
                have zx_13 : p23 < w13.heap.size := ox.lt
                have zz13 := B.size
                go_upto_region 19 with fail
                refine Reg.wp_chain_n (fun N0 D v W => Below w.heap.size w W ∧ Keeps w13 W ∧ N0 ≤ W.heap.size ∧ Blk W (w.heap.size) 23 #[.int .i64 (a), .int .i64 (b)] ∧ Blk W (w.heap.size + 1) 23 #[.int .i64 (c), .int .i64 (d)] ∧ Blk W (w4.heap.size) 23 #[.int .i64 (p0), .int .i64 (q0)] ∧ Blk W (w5.heap.size) 23 #[.int .i64 (p1), .int .i64 (q1)] ∧ Blk W (w6.heap.size) 23 #[.int .i64 (p2), .int .i64 (q2)] ∧ Blk W (p16) 45 #[.bool na1, .slice na2 na3 na4, .bool na5, .slice na6 na7 na8, .bool nb1, .slice nb2 nb3 nb4, .bool nb5, .slice nb6 nb7 nb8, .bool nc1, .slice nc2 nc3 nc4, .bool nc5, .slice nc6 nc7 nc8, .bool nd1, .slice nd2 nd3 nd4, .bool nd5, .slice nd6 nd7 nd8] ∧ Blk W (p23) 31 #[.bool r5_1, .slice r5_2 r5_3 r5_4, .bool r5_5, .slice r5_6 r5_7 r5_8] ∧ (D 10 = true → ∃ g : Nat, v 10 = .pointer (some ⟨g, 0, none⟩) ∧ N0 ≤ g ∧ g < W.heap.size ∧ (D 11 = false → Blk W g 31 #[.bool false, .slice none 0 0, .bool false, .slice none 0 0]) ∧ (D 11 = true → D 6 = true ∧ ∃ cs, v 6 = .tuple #[.agg cs, .int .i64 0] ∧ Blk W g 31 cs)))
                  (Reg.inl [6, 10, 11]) (Reg.gv [(6, IsFrE 0), (10, IsPtr)]) (gw [(6, GFrE (unitQ b / unitQ c) 0)]) (fun _ => Keeps) (fun _ _ => False) (Reg.pl [(11, [(6, some 127), (10, some 25)]), (13, [(6, some 127), (10, some 25)])]) (Reg.pl [(10, [11]), (6, [11])])
                  (by kernel_rfl) (by kernel_rfl) (by kernel_rfl) (Reg.gv_some _ (by intro p hp; simp only [List.mem_cons, List.not_mem_nil, or_false] at hp; rcases hp with rfl | rfl <;> first | exact ⟨_, rfl⟩ | exact ⟨_, 0, rfl⟩ | exact ⟨_, none, 0, 0, rfl⟩ | exact ⟨_, false, none, 0, 0, rfl⟩ | exact ⟨_, false, none, 0, 0, false, none, 0, 0, rfl⟩)) (fun N0 hN0 => ⟨fun v => ?_, fun D v v' W hv hj => ?_, fun D v k j W W' x _ _ _ _ hk hg => gw_keeps _ (by intro p hp; simp only [List.mem_cons, List.not_mem_nil, or_false] at hp; rcases hp with rfl <;> first | exact GFr.keeps | exact GFrE.keeps | exact GNu.keeps | exact GNuE.keeps | exact GLi.keeps) hk hg, fun _ _ _ _ h => h.elim, fun ops' Q' hops hQ => ?_⟩)
                · exact ⟨belowB, keepsB, Nat.le_of_eq hN0.out, ownK, ownK, ownK, ownK, ownK, ownK, ownK, (fun h => Bool.noConfusion h)⟩
                · obtain ⟨j0, jk, jn, b_a, b_b, b_p, b_q, b_s, b_l, b_x, a_10⟩ := hj
                  exact ⟨j0, jk, jn, b_a, b_b, b_p, b_q, b_s, b_l, b_x, fun h => by obtain ⟨g, e1, e2, e3, e4, e5⟩ := a_10 h; exact ⟨g, (hv 10 h) ▸ e1, e2, e3, e4, fun h => by obtain ⟨d, cs, e, hb⟩ := e5 h; exact ⟨d, cs, (hv 6 d) ▸ e, hb⟩⟩⟩
                have i_a : w.heap.size < N0 := by have e := hN0.out; (try simp only [World.size_alloc, World.size_setCell, World.size_drew, World.heap_drewN] at e); first | omega | (have h := oa.lt; omega)
                have i_b : w.heap.size + 1 < N0 := by have e := hN0.out; (try simp only [World.size_alloc, World.size_setCell, World.size_drew, World.heap_drewN] at e); first | omega | (have h := ob.lt; omega)
                have i_p : w4.heap.size < N0 := by have e := hN0.out; (try simp only [World.size_alloc, World.size_setCell, World.size_drew, World.heap_drewN] at e); first | omega | (have h := op.lt; omega)
                have i_q : w5.heap.size < N0 := by have e := hN0.out; (try simp only [World.size_alloc, World.size_setCell, World.size_drew, World.heap_drewN] at e); first | omega | (have h := oq.lt; omega)
                have i_s : w6.heap.size < N0 := by have e := hN0.out; (try simp only [World.size_alloc, World.size_setCell, World.size_drew, World.heap_drewN] at e); first | omega | (have h := os.lt; omega)
                have i_l : p16 < N0 := by have e := hN0.out; (try simp only [World.size_alloc, World.size_setCell, World.size_drew, World.heap_drewN] at e); first | omega | (have h := ol.lt; omega)
                have i_x : p23 < N0 := by have e := hN0.out; (try simp only [World.size_alloc, World.size_setCell, World.size_drew, World.heap_drewN] at e); first | omega | (have h := ox.lt; omega)
                have iw : w.heap.size ≤ N0 := by have e := hN0.out; (try simp only [World.size_alloc, World.size_setCell, World.size_drew, World.heap_drewN] at e); first | omega | (have h := B.size; omega)
                clear cl0 cl1 cl2 cl3 cl4 cl5 cl6 cl7 cl8 cl9 cl10 cl11 cl12 cl13 cl14 cl15 ll
                clear hN0
                apply Reg.RC_pure (hc := rfl) (hst := rfl) (hw := rfl) (t := 121) (hd := rfl) (ht := Nat.le_of_ble_eq_true rfl)
                · intro D v' W' hc hj hf K hK
                  go_step
                  exact hK.out
                · rfl
                apply Reg.RC_pure (hc := rfl) (hst := rfl) (hw := rfl) (t := 122) (hd := rfl) (ht := Nat.le_of_ble_eq_true rfl)
                · intro D v' W' hc hj hf K hK
                  go_step
                  exact hK.out
                · rfl
                apply Reg.RC_pure (hc := rfl) (hst := rfl) (hw := rfl) (t := 123) (hd := rfl) (ht := Nat.le_of_ble_eq_true rfl)
                · intro D v' W' hc hj hf K hK
                  obtain ⟨j0, jk, jn, b_a, b_b, b_p, b_q, b_s, b_l, b_x, a_10⟩ := hj
                  have c0 : W'.cell? ⟨p16, 0, none⟩ = some (.bool na1) := b_l.c 0 rfl
                  have c1 : W'.cell? ⟨p16, 1, none⟩ = some (.slice na2 na3 na4) := b_l.c 1 rfl
                  have c2 : W'.cell? ⟨p16, 2, none⟩ = some (.bool na5) := b_l.c 2 rfl
                  have c3 : W'.cell? ⟨p16, 3, none⟩ = some (.slice na6 na7 na8) := b_l.c 3 rfl
                  have c4 : W'.cell? ⟨p16, 4, none⟩ = some (.bool nb1) := b_l.c 4 rfl
                  have c5 : W'.cell? ⟨p16, 5, none⟩ = some (.slice nb2 nb3 nb4) := b_l.c 5 rfl
                  have c6 : W'.cell? ⟨p16, 6, none⟩ = some (.bool nb5) := b_l.c 6 rfl
                  have c7 : W'.cell? ⟨p16, 7, none⟩ = some (.slice nb6 nb7 nb8) := b_l.c 7 rfl
                  have c8 : W'.cell? ⟨p16, 8, none⟩ = some (.bool nc1) := b_l.c 8 rfl
                  have c9 : W'.cell? ⟨p16, 9, none⟩ = some (.slice nc2 nc3 nc4) := b_l.c 9 rfl
                  have c10 : W'.cell? ⟨p16, 10, none⟩ = some (.bool nc5) := b_l.c 10 rfl
                  have c11 : W'.cell? ⟨p16, 11, none⟩ = some (.slice nc6 nc7 nc8) := b_l.c 11 rfl
                  have c12 : W'.cell? ⟨p16, 12, none⟩ = some (.bool nd1) := b_l.c 12 rfl
                  have c13 : W'.cell? ⟨p16, 13, none⟩ = some (.slice nd2 nd3 nd4) := b_l.c 13 rfl
                  have c14 : W'.cell? ⟨p16, 14, none⟩ = some (.bool nd5) := b_l.c 14 rfl
                  have c15 : W'.cell? ⟨p16, 15, none⟩ = some (.slice nd6 nd7 nd8) := b_l.c 15 rfl
                  go_step
                  exact hK.out
                · rfl
                apply Reg.RC_pure (hc := rfl) (hst := rfl) (hw := rfl) (t := 124) (hd := rfl) (ht := Nat.le_of_ble_eq_true rfl)
                · intro D v' W' hc hj hf K hK
                  go_step
                  exact hK.out
                · rfl
                apply Reg.RC_pure (hc := rfl) (hst := rfl) (hw := rfl) (t := 125) (hd := rfl) (ht := Nat.le_of_ble_eq_true rfl)
                · intro D v' W' hc hj hf K hK
                  go_step
                  exact hK.out
                · rfl
                apply Reg.RC_pure (hc := rfl) (hst := rfl) (hw := rfl) (t := 126) (hd := rfl) (ht := Nat.le_of_ble_eq_true rfl)
                · intro D v' W' hc hj hf K hK
                  obtain ⟨j0, jk, jn, b_a, b_b, b_p, b_q, b_s, b_l, b_x, a_10⟩ := hj
                  have c0 : W'.cell? ⟨p16, 0, none⟩ = some (.bool na1) := b_l.c 0 rfl
                  have c1 : W'.cell? ⟨p16, 1, none⟩ = some (.slice na2 na3 na4) := b_l.c 1 rfl
                  have c2 : W'.cell? ⟨p16, 2, none⟩ = some (.bool na5) := b_l.c 2 rfl
                  have c3 : W'.cell? ⟨p16, 3, none⟩ = some (.slice na6 na7 na8) := b_l.c 3 rfl
                  have c4 : W'.cell? ⟨p16, 4, none⟩ = some (.bool nb1) := b_l.c 4 rfl
                  have c5 : W'.cell? ⟨p16, 5, none⟩ = some (.slice nb2 nb3 nb4) := b_l.c 5 rfl
                  have c6 : W'.cell? ⟨p16, 6, none⟩ = some (.bool nb5) := b_l.c 6 rfl
                  have c7 : W'.cell? ⟨p16, 7, none⟩ = some (.slice nb6 nb7 nb8) := b_l.c 7 rfl
                  have c8 : W'.cell? ⟨p16, 8, none⟩ = some (.bool nc1) := b_l.c 8 rfl
                  have c9 : W'.cell? ⟨p16, 9, none⟩ = some (.slice nc2 nc3 nc4) := b_l.c 9 rfl
                  have c10 : W'.cell? ⟨p16, 10, none⟩ = some (.bool nc5) := b_l.c 10 rfl
                  have c11 : W'.cell? ⟨p16, 11, none⟩ = some (.slice nc6 nc7 nc8) := b_l.c 11 rfl
                  have c12 : W'.cell? ⟨p16, 12, none⟩ = some (.bool nd1) := b_l.c 12 rfl
                  have c13 : W'.cell? ⟨p16, 13, none⟩ = some (.slice nd2 nd3 nd4) := b_l.c 13 rfl
                  have c14 : W'.cell? ⟨p16, 14, none⟩ = some (.bool nd5) := b_l.c 14 rfl
                  have c15 : W'.cell? ⟨p16, 15, none⟩ = some (.slice nd6 nd7 nd8) := b_l.c 15 rfl
                  go_step
                  exact hK.out
                · rfl
                refine Reg.RC_call rfl (by intro t ht; cases ht; exact Nat.le_of_ble_eq_true rfl) rfl (fun D v' W' hc hj hf K hK => ?_) ?_
                · obtain ⟨j0, jk, jn, b_a, b_b, b_p, b_q, b_s, b_l, b_x, a_10⟩ := hj
                  clear hf
                  go_step
                  refine (rOverQ W' (Fnb.out.keeps jk) (Fnc.out.keeps jk) sb sc (by omega) (unit_ne hnz)).mono ?_
                  rintro e W2 ⟨u, rfl, hu, hs⟩
                  obtain ⟨r6_1, r6_2, r6_3, r6_4, r6_5, r6_6, r6_7, r6_8, rfl⟩ := hu.shape
                  exact hK.out _ W2 (Keeps.steps hs) ⟨below_steps j0 (Nat.le_refl _) hs, jk.then_ hs, Nat.le_trans jn hs.size, b_a.steps hs, b_b.steps hs, b_p.steps hs, b_q.steps hs, b_s.steps hs, b_l.steps hs, b_x.steps hs, fun h => by obtain ⟨g, e1, e2, e3, e4, e5⟩ := a_10 h; exact ⟨g, e1, e2, Nat.lt_of_lt_of_le e3 (hs).size, fun h => (e4 h).steps hs, fun h => Bool.noConfusion ((hc.2 11 (by decide)).symm.trans h)⟩⟩ ⟨_, rfl, hu⟩ ⟨_, _, _, _, _, _, _, _, rfl⟩
                rintro _ ⟨r6_1, r6_2, r6_3, r6_4, r6_5, r6_6, r6_7, r6_8, rfl⟩
                refine Reg.RC_at (b := ⟨#[_,_,_,_,_,_,_,_,_,_,_,_,_,_,_,_,_,_,_,_,_,_,_,_,_,_,_,_,_,_,_,_,_,_,_,_,_,_,_,_,_,_,_,_,_,_,_,_,_,_,_,_,_,_,_,_,_,_,_,_,_,_,_,_,_,_,_,_,_,_,_,_,_,_,_,_,_,_,_,_,_,_,_,_,_,_,_,_,_,_,_,_,_,_,_,_,_,_,_,_,_,_,_,_,_,_,_,_,_,_,_,_,_,_,_,_,_,_,_,_,_,_,_,_,_,_,_,_,_,_,_,_,_,_,_,_,_,_,_,_,_,_,_,_,_,_,_,_,_,_,_,_,_,_,_,_,_,_,_,_,_,_,_,_,_,_,_,_,_,_,_,_,_,_,_,_,_,_,_,_,_,_,_,_,_,_,_,_,_,_,_,_,_,_,_,_,_,_,_,_,_,_,_,_,_,_,_,_,_,_,_,_,_,_,_,_,_,_,_,_], _⟩) rfl ?_
                apply Reg.RC_pure (hc := rfl) (hst := rfl) (hw := rfl) (t := 120) (hd := rfl) (ht := Nat.le_of_ble_eq_true rfl)
                · intro D v' W' hc hj hf K hK
                  go_step
                  exact hK.out
                · rfl
                apply Reg.RC_pure (hc := rfl) (hst := rfl) (hw := rfl) (t := 128) (hd := rfl) (ht := Nat.le_of_ble_eq_true rfl)
                · intro D v' W' hc hj hf K hK
                  go_step
                  exact hK.out
                · rfl
                apply Reg.RC_pure (hc := rfl) (hst := rfl) (hw := rfl) (t := 129) (hd := rfl) (ht := Nat.le_of_ble_eq_true rfl)
                · intro D v' W' hc hj hf K hK
                  go_step
                  exact hK.out
                · rfl
                refine Reg.RC_call rfl (by intro t ht; cases ht; exact Nat.le_of_ble_eq_true rfl) rfl (fun D v' W' hc hj hf K hK => ?_) ?_
                · obtain ⟨j0, jk, jn, b_a, b_b, b_p, b_q, b_s, b_l, b_x, a_10⟩ := hj
                  go_step
                  have hs : ∀ o : Obj, Steps W' (W'.alloc o) := fun o => (Below.refl _ _).alloc (Nat.le_refl _) o
                  exact hK.out _ _ (Keeps.steps (hs _)) ⟨below_steps j0 (Nat.le_refl _) (hs _), jk.then_ (hs _), Nat.le_trans jn (hs _).size, b_a.steps (hs _), b_b.steps (hs _), b_p.steps (hs _), b_q.steps (hs _), b_s.steps (hs _), b_l.steps (hs _), b_x.steps (hs _), fun _ => ⟨W'.heap.size, rfl, jn, by rw [World.size_alloc]; omega, fun _ => Blk.new _ _ _, fun h => Bool.noConfusion ((hc.2 11 (by decide)).symm.trans h)⟩⟩ trivial ⟨_, rfl⟩
                rintro _ ⟨p25, rfl⟩
                refine Reg.RC_at (b := ⟨#[_,_,_,_,_,_,_,_,_,_,_,_,_,_,_,_,_,_,_,_,_,_,_,_,_,_,_,_,_,_,_,_,_,_,_,_,_,_,_,_,_,_,_,_,_,_,_,_,_,_,_,_,_,_,_,_,_,_,_,_,_,_,_,_,_,_,_,_,_,_,_,_,_,_,_,_,_,_,_,_,_,_,_,_,_,_,_,_,_,_,_,_,_,_,_,_,_,_,_,_,_,_,_,_,_,_,_,_,_,_,_,_,_,_,_,_,_,_,_,_,_,_,_,_,_,_,_,_,_,_,_,_,_,_,_,_,_,_,_,_,_,_,_,_,_,_,_,_,_,_,_,_,_,_,_,_,_,_,_,_,_,_,_,_,_,_,_,_,_,_,_,_,_,_,_,_,_,_,_,_,_,_,_,_,_,_,_,_,_,_,_,_,_,_,_,_,_,_,_,_,_,_,_,_,_,_,_,_,_,_,_,_,_,_,_,_,_,_,_,_], _⟩) rfl ?_
                refine Reg.RC_call rfl (by intro t ht; cases ht) rfl (fun D v' W' hc hj hf K hK => ?_) (fun _ _ => Reg.RC_at (b := ⟨_, _⟩) rfl ?_)
                · obtain ⟨j0, jk, jn, b_a, b_b, b_p, b_q, b_s, b_l, b_x, a_10⟩ := hj
                  have f := hf (10, some 25) (.tail _ (.head _)) rfl
                  have e6 : v' 10 = .pointer (some ⟨p25, 0, none⟩) := f.2.1
                  obtain ⟨g, e1, e2, e3, e4, e5⟩ := a_10 f.1
                  obtain rfl : p25 = g := Reg.ptr_eq (e6.symm.trans e1)
                  have hb := e4 hc.1
                  clear e4 e5
                  have fc := hf (6, some 127) (.head _) rfl
                  have ec : v' 6 = .tuple #[.agg #[.bool r6_1, .slice r6_2 r6_3 r6_4, .bool r6_5, .slice r6_6 r6_7 r6_8], .int .i64 0] := fc.2.1
                  have ff := hb.fr
                  have cc0 : W'.cell? ⟨p25, 0, none⟩ = some (.bool false) := hb.c 0 rfl
                  have cc1 : W'.cell? ⟨p25, 1, none⟩ = some (.slice none 0 0) := hb.c 1 rfl
                  have cc2 : W'.cell? ⟨p25, 2, none⟩ = some (.bool false) := hb.c 2 rfl
                  have cc3 : W'.cell? ⟨p25, 3, none⟩ = some (.slice none 0 0) := hb.c 3 rfl
                  go_step
                  exact hK.out undef _ (Keeps.only hb rfl ((Only.refl _ _).set.set.set.set)) ⟨(Below.setCell (p := ⟨p25, 3, none⟩) (Below.setCell (p := ⟨p25, 2, none⟩) (Below.setCell (p := ⟨p25, 1, none⟩) (Below.setCell (p := ⟨p25, 0, none⟩) j0 (by show w.heap.size ≤ p25; omega) _) (by show w.heap.size ≤ p25; omega) _) (by show w.heap.size ≤ p25; omega) _) (by show w.heap.size ≤ p25; omega) _), jk.trans (Keeps.only hb rfl ((Only.refl _ _).set.set.set.set)), by simpa using jn, ((((b_a).far' (show w.heap.size ≠ p25 by omega)).far' (show w.heap.size ≠ p25 by omega)).far' (show w.heap.size ≠ p25 by omega)).far' (show w.heap.size ≠ p25 by omega), ((((b_b).far' (show w.heap.size + 1 ≠ p25 by omega)).far' (show w.heap.size + 1 ≠ p25 by omega)).far' (show w.heap.size + 1 ≠ p25 by omega)).far' (show w.heap.size + 1 ≠ p25 by omega), ((((b_p).far' (show w4.heap.size ≠ p25 by omega)).far' (show w4.heap.size ≠ p25 by omega)).far' (show w4.heap.size ≠ p25 by omega)).far' (show w4.heap.size ≠ p25 by omega), ((((b_q).far' (show w5.heap.size ≠ p25 by omega)).far' (show w5.heap.size ≠ p25 by omega)).far' (show w5.heap.size ≠ p25 by omega)).far' (show w5.heap.size ≠ p25 by omega), ((((b_s).far' (show w6.heap.size ≠ p25 by omega)).far' (show w6.heap.size ≠ p25 by omega)).far' (show w6.heap.size ≠ p25 by omega)).far' (show w6.heap.size ≠ p25 by omega), ((((b_l).far' (show p16 ≠ p25 by omega)).far' (show p16 ≠ p25 by omega)).far' (show p16 ≠ p25 by omega)).far' (show p16 ≠ p25 by omega), ((((b_x).far' (show p23 ≠ p25 by omega)).far' (show p23 ≠ p25 by omega)).far' (show p23 ≠ p25 by omega)).far' (show p23 ≠ p25 by omega), fun _ => ⟨p25, e1, e2, by simpa using e3, fun h => Bool.noConfusion h, fun _ => ⟨fc.1, _, ec, (Blk.set2 (cs' := #[.bool r6_1, .slice r6_2 r6_3 r6_4, .bool r6_5, .slice r6_6 r6_7 r6_8]) (Blk.set2 (cs' := #[.bool r6_1, .slice r6_2 r6_3 r6_4, .bool r6_5, .slice none 0 0]) (Blk.set2 (cs' := #[.bool r6_1, .slice r6_2 r6_3 r6_4, .bool false, .slice none 0 0]) (Blk.set2 (cs' := #[.bool r6_1, .slice none 0 0, .bool false, .slice none 0 0]) hb (i := 0) rfl) (i := 1) rfl) (i := 2) rfl) (i := 3) rfl)⟩⟩⟩ trivial trivial
                apply Reg.RC_pure (hc := rfl) (hst := rfl) (hw := rfl) (t := 26) (hd := rfl) (ht := Nat.le_of_ble_eq_true rfl)
                · intro D v' W' hc hj hf K hK
                  go_step
                  exact hK.out
                · rfl
                refine Reg.RC_end (fun Dn v' w14 hd hj hf => ?_)
                obtain ⟨j0, jk, jn, b_a, b_b, b_p, b_q, b_s, b_l, b_x, a_10⟩ := hj
                have B := j0
                have oa := b_a
                clear b_a
                have ob := b_b
                clear b_b
                have op := b_p
                clear b_p
                have oq := b_q
                clear b_q
                have os := b_s
                clear b_s
                have ol := b_l
                clear b_l
                have ox := b_x
                clear b_x
                have f := hf (10, some 25) (.tail _ (.head _)) rfl
                have e6_ : v' 10 = .pointer (some ⟨p25, 0, none⟩) := f.2.1
                obtain ⟨g, e1_, zy, -, -, e5_⟩ := a_10 f.1
                obtain rfl : p25 = g := Reg.ptr_eq (e6_.symm.trans e1_)
                obtain ⟨-, cs_, ee, oy⟩ := e5_ (hd 11 (Nat.le_of_ble_eq_true rfl))
                have ef : v' 6 = .tuple #[.agg #[.bool r6_1, .slice r6_2 r6_3 r6_4, .bool r6_5, .slice r6_6 r6_7 r6_8], .int .i64 0] := (hf (6, some 127) (.head _) rfl).2.1
                obtain rfl : #[.bool r6_1, .slice r6_2 r6_3 r6_4, .bool r6_5, .slice r6_6 r6_7 r6_8] = cs_ := by have := ef.symm.trans ee; simpa only [Value.tuple.injEq, Value.agg.injEq, Array.mk.injEq, List.cons.injEq, and_true, true_and] using this
                clear ee ef f e5_ e1_ e6_
                have Fr6_ := Hid.mk_ (GFrE.get (r := unitQ b / unitQ c) (e := 0) (v := .agg #[.bool r6_1, .slice r6_2 r6_3 r6_4, .bool r6_5, .slice r6_6 r6_7 r6_8]) (hf (6, some 127) (.head _) rfl).2.2)
                replace Fna := Hid.mk_ (Fna.out.keeps jk)
                replace Fnb := Hid.mk_ (Fnb.out.keeps jk)
                replace Fnc := Hid.mk_ (Fnc.out.keeps jk)
                replace Fnd := Hid.mk_ (Fnd.out.keeps jk)
                replace Fr5_ := Hid.mk_ (Fr5_.out.keeps jk)
                replace kk := kk.trans jk
                clear hd hf jk j0
                refine hQ _ _ ?_
                clear hQ hops Q' ops'
                have cq0 := oq.q0
                have cq1 := oq.q1
                have lq := oq.lt
                have cy0 := oy.q0
                have cy1 := oy.q1
                have cy2 := oy.q2
                have cy3 := oy.q3
                have ly := oy.lt
                cases hb1 : gless1
                case false =>
                  go_wp2_with fail
                  refine (cS2 hnz _ _ (Fr6_.out.keeps keepsB)).mono ?_
                  rintro e w15 ⟨rfl, hb15⟩
                  have st : Steps _ w15 := hb15
                  have sk : Below w14.heap.size w14 w15 := belowA st
                  replace B := below_steps B (Nat.le_refl _) sk
                  replace oa := oa.steps sk
                  replace ob := ob.steps sk
                  replace op := op.steps sk
                  replace oq := oq.steps sk
                  replace os := os.steps sk
                  replace ol := ol.steps sk
                  replace ox := ox.steps sk
                  replace oy := oy.steps sk
                  replace Fna := Hid.mk_ (Fna.out.steps sk)
                  replace Fnb := Hid.mk_ (Fnb.out.steps sk)
                  replace Fnc := Hid.mk_ (Fnc.out.steps sk)
                  replace Fnd := Hid.mk_ (Fnd.out.steps sk)
                  replace Fr5_ := Hid.mk_ (Fr5_.out.steps sk)
                  replace Fr6_ := Hid.mk_ (Fr6_.out.steps sk)
                  replace kk := kk.then_ sk
                  clear st sk cq0 cq1 lq cy0 cy1 cy2 cy3 ly
                  have cq0 := oq.q0
                  have cq1 := oq.q1
                  have lq := oq.lt
                  have cy0 := oy.q0
                  have cy1 := oy.q1
                  have cy2 := oy.q2
                  have cy3 := oy.q3
                  have ly := oy.lt
                  cases hb2 : gmore1
                  case false =>
                    go_wp2_with fail
                    refine (cR2 hnz _ _ (Fr6_.out.keeps keepsB)).mono ?_
                    rintro e w16 ⟨rfl, hb16⟩
                    have st : Steps _ w16 := hb16
                    have sk : Below w15.heap.size w15 w16 := belowA st
                    replace B := below_steps B (Nat.le_refl _) sk
                    replace oa := oa.steps sk
                    replace ob := ob.steps sk
                    replace op := op.steps sk
                    replace oq := oq.steps sk
                    replace os := os.steps sk
                    replace ol := ol.steps sk
                    replace ox := ox.steps sk
                    replace oy := oy.steps sk
                    replace Fna := Hid.mk_ (Fna.out.steps sk)
                    replace Fnb := Hid.mk_ (Fnb.out.steps sk)
                    replace Fnc := Hid.mk_ (Fnc.out.steps sk)
                    replace Fnd := Hid.mk_ (Fnd.out.steps sk)
                    replace Fr5_ := Hid.mk_ (Fr5_.out.steps sk)
                    replace Fr6_ := Hid.mk_ (Fr6_.out.steps sk)
                    replace kk := kk.then_ sk
                    clear st sk cq0 cq1 lq cy0 cy1 cy2 cy3 ly
                    go_wp2_with fail
                    go_meet
                    exact ⟨rfl, rfl, by simp [hk, hb1], by simp [hk, hb2], kk.trans keepsB, ownK, ownK, ownK, ownK, ownK, ownK, belowB⟩
                  case true =>
                    go_wp2_with fail
                    go_meet
                    exact ⟨rfl, rfl, by simp [hk, hb1], by simp [hk, hb2], kk.trans keepsB, ownK, ownK, ownK, ownK, ownK, ownK, belowB⟩
                case true =>
                  cases hb2 : gmore1
                  case false =>
                    go_wp2_with fail
                    refine (cR2 hnz _ _ (Fr6_.out.keeps keepsB)).mono ?_
                    rintro e w15 ⟨rfl, hb15⟩
                    have st : Steps _ w15 := hb15
                    have sk : Below w14.heap.size w14 w15 := belowA st
                    replace B := below_steps B (Nat.le_refl _) sk
                    replace oa := oa.steps sk
                    replace ob := ob.steps sk
                    replace op := op.steps sk
                    replace oq := oq.steps sk
                    replace os := os.steps sk
                    replace ol := ol.steps sk
                    replace ox := ox.steps sk
                    replace oy := oy.steps sk
                    replace Fna := Hid.mk_ (Fna.out.steps sk)
                    replace Fnb := Hid.mk_ (Fnb.out.steps sk)
                    replace Fnc := Hid.mk_ (Fnc.out.steps sk)
                    replace Fnd := Hid.mk_ (Fnd.out.steps sk)
                    replace Fr5_ := Hid.mk_ (Fr5_.out.steps sk)
                    replace Fr6_ := Hid.mk_ (Fr6_.out.steps sk)
                    replace kk := kk.then_ sk
                    clear st sk cq0 cq1 lq cy0 cy1 cy2 cy3 ly
                    go_wp2_with fail
                    go_meet
                    exact ⟨rfl, rfl, by simp [hk, hb1], by simp [hk, hb2], kk.trans keepsB, ownK, ownK, ownK, ownK, ownK, ownK, belowB⟩
                  case true =>
                    go_wp2_with fail
                    go_meet
                    exact ⟨rfl, rfl, by simp [hk, hb1], by simp [hk, hb2], kk.trans keepsB, ownK, ownK, ownK, ownK, ownK, ownK, belowB⟩
      case rest =>
        clear cl0 cl1 cl2 cl3 cl4 cl5 cl6 cl7 cl8 cl9 cl10 cl11 cl12 cl13 cl14 cl15 ll
        obtain ⟨rfl, rfl, rfl, rfl, kp, oa, ob, op, oq, os, ol, B⟩ := hcut
        obtain ⟨w10, hw_⟩ : ∃ x, x = wc := ⟨_, rfl⟩
        subst hw_
        replace Fna := Hid.mk_ (Fna.out.keeps kp)
        replace Fnb := Hid.mk_ (Fnb.out.keeps kp)
        replace Fnc := Hid.mk_ (Fnc.out.keeps kp)
        replace Fnd := Hid.mk_ (Fnd.out.keeps kp)
        clear kp
        have cl0 := ol.q0
        have cl1 := ol.q1
        have cl2 := ol.q2
        have cl3 := ol.q3
        have cl4 := ol.q4
        have cl5 := ol.q5
        have cl6 := ol.q6
        have cl7 := ol.q7
        have cl8 := ol.q8
        have cl9 := ol.q9
        have cl10 := ol.q10
        have cl11 := ol.q11
        have cl12 := ol.q12
        have cl13 := ol.q13
        have cl14 := ol.q14
        have cl15 := ol.q15
        have ll := ol.lt
        obtain ⟨glow2, hglow2⟩ : ∃ q_, (glow1 || L2) = q_ := ⟨_, rfl⟩
        rw [hglow2]
        obtain ⟨ghigh2, hghigh2⟩ : ∃ q_, (ghigh1 || H2) = q_ := ⟨_, rfl⟩
        rw [hghigh2]
        obtain ⟨gless2, hgless2⟩ : ∃ q_, (gless1 || (!zc && S2)) = q_ := ⟨_, rfl⟩
        rw [hgless2]
        obtain ⟨gmore2, hgmore2⟩ : ∃ q_, (gmore1 || (!zc && R2)) = q_ := ⟨_, rfl⟩
        rw [hgmore2]
        clear cL2 cH2 cS2 cR2
        go_wp2_with fail
        rw [rounds_succ]
        go_upto_block 3 with fail
        go_cut [17, 18, 19, 20] (fun sl0 sl1 sl2 sl3  wx => sl0 = .bool (glow2 || L3) ∧ sl1 = .bool (ghigh2 || H3) ∧ sl2 = .bool (gless2 || (!zd && S3)) ∧ sl3 = .bool (gmore2 || (!zd && R3)) ∧ Keeps w10 wx ∧ Blk wx (w.heap.size) 23 #[.int .i64 (a), .int .i64 (b)] ∧ Blk wx (w.heap.size + 1) 23 #[.int .i64 (c), .int .i64 (d)] ∧ Blk wx (w4.heap.size) 23 #[.int .i64 (p0), .int .i64 (q0)] ∧ Blk wx (w5.heap.size) 23 #[.int .i64 (p1), .int .i64 (q1)] ∧ Blk wx (w6.heap.size) 23 #[.int .i64 (p2), .int .i64 (q2)] ∧ Blk wx (p16) 45 #[.bool na1, .slice na2 na3 na4, .bool na5, .slice na6 na7 na8, .bool nb1, .slice nb2 nb3 nb4, .bool nb5, .slice nb6 nb7 nb8, .bool nc1, .slice nc2 nc3 nc4, .bool nc5, .slice nc6 nc7 nc8, .bool nd1, .slice nd2 nd3 nd4, .bool nd5, .slice nd6 nd7 nd8] ∧ Below w.heap.size w wx)
        case first => as_aux_lemma =>
          have kk := Keeps.refl w10
          have zl_10 : p16 < w10.heap.size := ol.lt
          have zz10 := B.size
          go_upto_region 15 with fail
          refine Reg.wp_chain_n (fun N0 D v W => Below w.heap.size w W ∧ Keeps w10 W ∧ N0 ≤ W.heap.size ∧ Blk W (w.heap.size) 23 #[.int .i64 (a), .int .i64 (b)] ∧ Blk W (w.heap.size + 1) 23 #[.int .i64 (c), .int .i64 (d)] ∧ Blk W (w4.heap.size) 23 #[.int .i64 (p0), .int .i64 (q0)] ∧ Blk W (w5.heap.size) 23 #[.int .i64 (p1), .int .i64 (q1)] ∧ Blk W (w6.heap.size) 23 #[.int .i64 (p2), .int .i64 (q2)] ∧ Blk W (p16) 45 #[.bool na1, .slice na2 na3 na4, .bool na5, .slice na6 na7 na8, .bool nb1, .slice nb2 nb3 nb4, .bool nb5, .slice nb6 nb7 nb8, .bool nc1, .slice nc2 nc3 nc4, .bool nc5, .slice nc6 nc7 nc8, .bool nd1, .slice nd2 nd3 nd4, .bool nd5, .slice nd6 nd7 nd8] ∧ (D 10 = true → ∃ g : Nat, v 10 = .pointer (some ⟨g, 0, none⟩) ∧ N0 ≤ g ∧ g < W.heap.size ∧ (D 11 = false → Blk W g 31 #[.bool false, .slice none 0 0, .bool false, .slice none 0 0]) ∧ (D 11 = true → D 6 = true ∧ ∃ cs, v 6 = .tuple #[.agg cs, .int .i64 0] ∧ Blk W g 31 cs)))
            (Reg.inl [6, 10, 11]) (Reg.gv [(6, IsFrE 0), (10, IsPtr)]) (gw [(6, GFrE (unitQ b * unitQ d) 0)]) (fun _ => Keeps) (fun _ _ => False) (Reg.pl [(11, [(6, some 96), (10, some 23)]), (13, [(6, some 96), (10, some 23)])]) (Reg.pl [(10, [11]), (6, [11])])
            (by kernel_rfl) (by kernel_rfl) (by kernel_rfl) (Reg.gv_some _ (by intro p hp; simp only [List.mem_cons, List.not_mem_nil, or_false] at hp; rcases hp with rfl | rfl <;> first | exact ⟨_, rfl⟩ | exact ⟨_, 0, rfl⟩ | exact ⟨_, none, 0, 0, rfl⟩ | exact ⟨_, false, none, 0, 0, rfl⟩ | exact ⟨_, false, none, 0, 0, false, none, 0, 0, rfl⟩)) (fun N0 hN0 => ⟨fun v => ?_, fun D v v' W hv hj => ?_, fun D v k j W W' x _ _ _ _ hk hg => gw_keeps _ (by intro p hp; simp only [List.mem_cons, List.not_mem_nil, or_false] at hp; rcases hp with rfl <;> first | exact GFr.keeps | exact GFrE.keeps | exact GNu.keeps | exact GNuE.keeps | exact GLi.keeps) hk hg, fun _ _ _ _ h => h.elim, fun ops' Q' hops hQ => ?_⟩)
          · exact ⟨belowB, keepsB, Nat.le_of_eq hN0.out, ownK, ownK, ownK, ownK, ownK, ownK, (fun h => Bool.noConfusion h)⟩
          · obtain ⟨j0, jk, jn, b_a, b_b, b_p, b_q, b_s, b_l, a_10⟩ := hj
            exact ⟨j0, jk, jn, b_a, b_b, b_p, b_q, b_s, b_l, fun h => by obtain ⟨g, e1, e2, e3, e4, e5⟩ := a_10 h; exact ⟨g, (hv 10 h) ▸ e1, e2, e3, e4, fun h => by obtain ⟨d, cs, e, hb⟩ := e5 h; exact ⟨d, cs, (hv 6 d) ▸ e, hb⟩⟩⟩
          have i_a : w.heap.size < N0 := by have e := hN0.out; (try simp only [World.size_alloc, World.size_setCell, World.size_drew, World.heap_drewN] at e); first | omega | (have h := oa.lt; omega)
          have i_b : w.heap.size + 1 < N0 := by have e := hN0.out; (try simp only [World.size_alloc, World.size_setCell, World.size_drew, World.heap_drewN] at e); first | omega | (have h := ob.lt; omega)
          have i_p : w4.heap.size < N0 := by have e := hN0.out; (try simp only [World.size_alloc, World.size_setCell, World.size_drew, World.heap_drewN] at e); first | omega | (have h := op.lt; omega)
          have i_q : w5.heap.size < N0 := by have e := hN0.out; (try simp only [World.size_alloc, World.size_setCell, World.size_drew, World.heap_drewN] at e); first | omega | (have h := oq.lt; omega)
          have i_s : w6.heap.size < N0 := by have e := hN0.out; (try simp only [World.size_alloc, World.size_setCell, World.size_drew, World.heap_drewN] at e); first | omega | (have h := os.lt; omega)
          have i_l : p16 < N0 := by have e := hN0.out; (try simp only [World.size_alloc, World.size_setCell, World.size_drew, World.heap_drewN] at e); first | omega | (have h := ol.lt; omega)
          have iw : w.heap.size ≤ N0 := by have e := hN0.out; (try simp only [World.size_alloc, World.size_setCell, World.size_drew, World.heap_drewN] at e); first | omega | (have h := B.size; omega)
          clear cl0 cl1 cl2 cl3 cl4 cl5 cl6 cl7 cl8 cl9 cl10 cl11 cl12 cl13 cl14 cl15 ll
          clear hN0
          apply Reg.RC_pure (hc := rfl) (hst := rfl) (hw := rfl) (t := 90) (hd := rfl) (ht := Nat.le_of_ble_eq_true rfl)
          · intro D v' W' hc hj hf K hK
            go_step
            exact hK.out
          · rfl
          apply Reg.RC_pure (hc := rfl) (hst := rfl) (hw := rfl) (t := 91) (hd := rfl) (ht := Nat.le_of_ble_eq_true rfl)
          · intro D v' W' hc hj hf K hK
            go_step
            exact hK.out
          · rfl
          apply Reg.RC_pure (hc := rfl) (hst := rfl) (hw := rfl) (t := 92) (hd := rfl) (ht := Nat.le_of_ble_eq_true rfl)
          · intro D v' W' hc hj hf K hK
            obtain ⟨j0, jk, jn, b_a, b_b, b_p, b_q, b_s, b_l, a_10⟩ := hj
            have c0 : W'.cell? ⟨p16, 0, none⟩ = some (.bool na1) := b_l.c 0 rfl
            have c1 : W'.cell? ⟨p16, 1, none⟩ = some (.slice na2 na3 na4) := b_l.c 1 rfl
            have c2 : W'.cell? ⟨p16, 2, none⟩ = some (.bool na5) := b_l.c 2 rfl
            have c3 : W'.cell? ⟨p16, 3, none⟩ = some (.slice na6 na7 na8) := b_l.c 3 rfl
            have c4 : W'.cell? ⟨p16, 4, none⟩ = some (.bool nb1) := b_l.c 4 rfl
            have c5 : W'.cell? ⟨p16, 5, none⟩ = some (.slice nb2 nb3 nb4) := b_l.c 5 rfl
            have c6 : W'.cell? ⟨p16, 6, none⟩ = some (.bool nb5) := b_l.c 6 rfl
            have c7 : W'.cell? ⟨p16, 7, none⟩ = some (.slice nb6 nb7 nb8) := b_l.c 7 rfl
            have c8 : W'.cell? ⟨p16, 8, none⟩ = some (.bool nc1) := b_l.c 8 rfl
            have c9 : W'.cell? ⟨p16, 9, none⟩ = some (.slice nc2 nc3 nc4) := b_l.c 9 rfl
            have c10 : W'.cell? ⟨p16, 10, none⟩ = some (.bool nc5) := b_l.c 10 rfl
            have c11 : W'.cell? ⟨p16, 11, none⟩ = some (.slice nc6 nc7 nc8) := b_l.c 11 rfl
            have c12 : W'.cell? ⟨p16, 12, none⟩ = some (.bool nd1) := b_l.c 12 rfl
            have c13 : W'.cell? ⟨p16, 13, none⟩ = some (.slice nd2 nd3 nd4) := b_l.c 13 rfl
            have c14 : W'.cell? ⟨p16, 14, none⟩ = some (.bool nd5) := b_l.c 14 rfl
            have c15 : W'.cell? ⟨p16, 15, none⟩ = some (.slice nd6 nd7 nd8) := b_l.c 15 rfl
            go_step
            exact hK.out
          · rfl
          apply Reg.RC_pure (hc := rfl) (hst := rfl) (hw := rfl) (t := 93) (hd := rfl) (ht := Nat.le_of_ble_eq_true rfl)
          · intro D v' W' hc hj hf K hK
            go_step
            exact hK.out
          · rfl
          apply Reg.RC_pure (hc := rfl) (hst := rfl) (hw := rfl) (t := 94) (hd := rfl) (ht := Nat.le_of_ble_eq_true rfl)
          · intro D v' W' hc hj hf K hK
            go_step
            exact hK.out
          · rfl
          apply Reg.RC_pure (hc := rfl) (hst := rfl) (hw := rfl) (t := 95) (hd := rfl) (ht := Nat.le_of_ble_eq_true rfl)
          · intro D v' W' hc hj hf K hK
            obtain ⟨j0, jk, jn, b_a, b_b, b_p, b_q, b_s, b_l, a_10⟩ := hj
            have c0 : W'.cell? ⟨p16, 0, none⟩ = some (.bool na1) := b_l.c 0 rfl
            have c1 : W'.cell? ⟨p16, 1, none⟩ = some (.slice na2 na3 na4) := b_l.c 1 rfl
            have c2 : W'.cell? ⟨p16, 2, none⟩ = some (.bool na5) := b_l.c 2 rfl
            have c3 : W'.cell? ⟨p16, 3, none⟩ = some (.slice na6 na7 na8) := b_l.c 3 rfl
            have c4 : W'.cell? ⟨p16, 4, none⟩ = some (.bool nb1) := b_l.c 4 rfl
            have c5 : W'.cell? ⟨p16, 5, none⟩ = some (.slice nb2 nb3 nb4) := b_l.c 5 rfl
            have c6 : W'.cell? ⟨p16, 6, none⟩ = some (.bool nb5) := b_l.c 6 rfl
            have c7 : W'.cell? ⟨p16, 7, none⟩ = some (.slice nb6 nb7 nb8) := b_l.c 7 rfl
            have c8 : W'.cell? ⟨p16, 8, none⟩ = some (.bool nc1) := b_l.c 8 rfl
            have c9 : W'.cell? ⟨p16, 9, none⟩ = some (.slice nc2 nc3 nc4) := b_l.c 9 rfl
            have c10 : W'.cell? ⟨p16, 10, none⟩ = some (.bool nc5) := b_l.c 10 rfl
            have c11 : W'.cell? ⟨p16, 11, none⟩ = some (.slice nc6 nc7 nc8) := b_l.c 11 rfl
            have c12 : W'.cell? ⟨p16, 12, none⟩ = some (.bool nd1) := b_l.c 12 rfl
            have c13 : W'.cell? ⟨p16, 13, none⟩ = some (.slice nd2 nd3 nd4) := b_l.c 13 rfl
            have c14 : W'.cell? ⟨p16, 14, none⟩ = some (.bool nd5) := b_l.c 14 rfl
            have c15 : W'.cell? ⟨p16, 15, none⟩ = some (.slice nd6 nd7 nd8) := b_l.c 15 rfl
            go_step
            exact hK.out
          · rfl
          refine Reg.RC_call rfl (by intro t ht; cases ht; exact Nat.le_of_ble_eq_true rfl) rfl (fun D v' W' hc hj hf K hK => ?_) ?_
          · obtain ⟨j0, jk, jn, b_a, b_b, b_p, b_q, b_s, b_l, a_10⟩ := hj
            clear hf
            go_step
            refine (rTimesQ W' (Fnb.out.keeps jk) (Fnd.out.keeps jk) sb sd (by omega)).mono ?_
            rintro e W2 ⟨u, rfl, hu, hs⟩
            obtain ⟨r7_1, r7_2, r7_3, r7_4, r7_5, r7_6, r7_7, r7_8, rfl⟩ := hu.shape
            exact hK.out _ W2 (Keeps.steps hs) ⟨below_steps j0 (Nat.le_refl _) hs, jk.then_ hs, Nat.le_trans jn hs.size, b_a.steps hs, b_b.steps hs, b_p.steps hs, b_q.steps hs, b_s.steps hs, b_l.steps hs, fun h => by obtain ⟨g, e1, e2, e3, e4, e5⟩ := a_10 h; exact ⟨g, e1, e2, Nat.lt_of_lt_of_le e3 (hs).size, fun h => (e4 h).steps hs, fun h => Bool.noConfusion ((hc.2 11 (by decide)).symm.trans h)⟩⟩ ⟨_, rfl, hu⟩ ⟨_, _, _, _, _, _, _, _, rfl⟩
          rintro _ ⟨r7_1, r7_2, r7_3, r7_4, r7_5, r7_6, r7_7, r7_8, rfl⟩
          refine Reg.RC_at (b := ⟨#[_,_,_,_,_,_,_,_,_,_,_,_,_,_,_,_,_,_,_,_,_,_,_,_,_,_,_,_,_,_,_,_,_,_,_,_,_,_,_,_,_,_,_,_,_,_,_,_,_,_,_,_,_,_,_,_,_,_,_,_,_,_,_,_,_,_,_,_,_,_,_,_,_,_,_,_,_,_,_,_,_,_,_,_,_,_,_,_,_,_,_,_,_,_,_,_,_,_,_,_,_,_,_,_,_,_,_,_,_,_,_,_,_,_,_,_,_,_,_,_,_,_,_,_,_,_,_,_,_,_,_,_,_,_,_,_,_,_,_,_,_,_,_,_,_,_,_,_,_,_,_,_,_,_,_,_,_,_,_,_,_,_,_,_,_,_,_,_,_,_,_,_,_,_,_,_,_,_,_,_,_,_,_,_,_,_,_,_,_,_,_,_,_,_,_,_,_,_,_,_,_,_,_,_,_,_,_,_,_,_,_,_,_,_,_,_,_,_,_,_], _⟩) rfl ?_
          apply Reg.RC_pure (hc := rfl) (hst := rfl) (hw := rfl) (t := 89) (hd := rfl) (ht := Nat.le_of_ble_eq_true rfl)
          · intro D v' W' hc hj hf K hK
            go_step
            exact hK.out
          · rfl
          apply Reg.RC_pure (hc := rfl) (hst := rfl) (hw := rfl) (t := 97) (hd := rfl) (ht := Nat.le_of_ble_eq_true rfl)
          · intro D v' W' hc hj hf K hK
            go_step
            exact hK.out
          · rfl
          apply Reg.RC_pure (hc := rfl) (hst := rfl) (hw := rfl) (t := 98) (hd := rfl) (ht := Nat.le_of_ble_eq_true rfl)
          · intro D v' W' hc hj hf K hK
            go_step
            exact hK.out
          · rfl
          refine Reg.RC_call rfl (by intro t ht; cases ht; exact Nat.le_of_ble_eq_true rfl) rfl (fun D v' W' hc hj hf K hK => ?_) ?_
          · obtain ⟨j0, jk, jn, b_a, b_b, b_p, b_q, b_s, b_l, a_10⟩ := hj
            go_step
            have hs : ∀ o : Obj, Steps W' (W'.alloc o) := fun o => (Below.refl _ _).alloc (Nat.le_refl _) o
            exact hK.out _ _ (Keeps.steps (hs _)) ⟨below_steps j0 (Nat.le_refl _) (hs _), jk.then_ (hs _), Nat.le_trans jn (hs _).size, b_a.steps (hs _), b_b.steps (hs _), b_p.steps (hs _), b_q.steps (hs _), b_s.steps (hs _), b_l.steps (hs _), fun _ => ⟨W'.heap.size, rfl, jn, by rw [World.size_alloc]; omega, fun _ => Blk.new _ _ _, fun h => Bool.noConfusion ((hc.2 11 (by decide)).symm.trans h)⟩⟩ trivial ⟨_, rfl⟩
          rintro _ ⟨p23, rfl⟩
          refine Reg.RC_at (b := ⟨#[_,_,_,_,_,_,_,_,_,_,_,_,_,_,_,_,_,_,_,_,_,_,_,_,_,_,_,_,_,_,_,_,_,_,_,_,_,_,_,_,_,_,_,_,_,_,_,_,_,_,_,_,_,_,_,_,_,_,_,_,_,_,_,_,_,_,_,_,_,_,_,_,_,_,_,_,_,_,_,_,_,_,_,_,_,_,_,_,_,_,_,_,_,_,_,_,_,_,_,_,_,_,_,_,_,_,_,_,_,_,_,_,_,_,_,_,_,_,_,_,_,_,_,_,_,_,_,_,_,_,_,_,_,_,_,_,_,_,_,_,_,_,_,_,_,_,_,_,_,_,_,_,_,_,_,_,_,_,_,_,_,_,_,_,_,_,_,_,_,_,_,_,_,_,_,_,_,_,_,_,_,_,_,_,_,_,_,_,_,_,_,_,_,_,_,_,_,_,_,_,_,_,_,_,_,_,_,_,_,_,_,_,_,_,_,_,_,_,_,_], _⟩) rfl ?_
          refine Reg.RC_call rfl (by intro t ht; cases ht) rfl (fun D v' W' hc hj hf K hK => ?_) (fun _ _ => Reg.RC_at (b := ⟨_, _⟩) rfl ?_)
          · obtain ⟨j0, jk, jn, b_a, b_b, b_p, b_q, b_s, b_l, a_10⟩ := hj
            have f := hf (10, some 23) (.tail _ (.head _)) rfl
            have e6 : v' 10 = .pointer (some ⟨p23, 0, none⟩) := f.2.1
            obtain ⟨g, e1, e2, e3, e4, e5⟩ := a_10 f.1
            obtain rfl : p23 = g := Reg.ptr_eq (e6.symm.trans e1)
            have hb := e4 hc.1
            clear e4 e5
            have fc := hf (6, some 96) (.head _) rfl
            have ec : v' 6 = .tuple #[.agg #[.bool r7_1, .slice r7_2 r7_3 r7_4, .bool r7_5, .slice r7_6 r7_7 r7_8], .int .i64 0] := fc.2.1
            have ff := hb.fr
            have cc0 : W'.cell? ⟨p23, 0, none⟩ = some (.bool false) := hb.c 0 rfl
            have cc1 : W'.cell? ⟨p23, 1, none⟩ = some (.slice none 0 0) := hb.c 1 rfl
            have cc2 : W'.cell? ⟨p23, 2, none⟩ = some (.bool false) := hb.c 2 rfl
            have cc3 : W'.cell? ⟨p23, 3, none⟩ = some (.slice none 0 0) := hb.c 3 rfl
            go_step
            exact hK.out undef _ (Keeps.only hb rfl ((Only.refl _ _).set.set.set.set)) ⟨(Below.setCell (p := ⟨p23, 3, none⟩) (Below.setCell (p := ⟨p23, 2, none⟩) (Below.setCell (p := ⟨p23, 1, none⟩) (Below.setCell (p := ⟨p23, 0, none⟩) j0 (by show w.heap.size ≤ p23; omega) _) (by show w.heap.size ≤ p23; omega) _) (by show w.heap.size ≤ p23; omega) _) (by show w.heap.size ≤ p23; omega) _), jk.trans (Keeps.only hb rfl ((Only.refl _ _).set.set.set.set)), by simpa using jn, ((((b_a).far' (show w.heap.size ≠ p23 by omega)).far' (show w.heap.size ≠ p23 by omega)).far' (show w.heap.size ≠ p23 by omega)).far' (show w.heap.size ≠ p23 by omega), ((((b_b).far' (show w.heap.size + 1 ≠ p23 by omega)).far' (show w.heap.size + 1 ≠ p23 by omega)).far' (show w.heap.size + 1 ≠ p23 by omega)).far' (show w.heap.size + 1 ≠ p23 by omega), ((((b_p).far' (show w4.heap.size ≠ p23 by omega)).far' (show w4.heap.size ≠ p23 by omega)).far' (show w4.heap.size ≠ p23 by omega)).far' (show w4.heap.size ≠ p23 by omega), ((((b_q).far' (show w5.heap.size ≠ p23 by omega)).far' (show w5.heap.size ≠ p23 by omega)).far' (show w5.heap.size ≠ p23 by omega)).far' (show w5.heap.size ≠ p23 by omega), ((((b_s).far' (show w6.heap.size ≠ p23 by omega)).far' (show w6.heap.size ≠ p23 by omega)).far' (show w6.heap.size ≠ p23 by omega)).far' (show w6.heap.size ≠ p23 by omega), ((((b_l).far' (show p16 ≠ p23 by omega)).far' (show p16 ≠ p23 by omega)).far' (show p16 ≠ p23 by omega)).far' (show p16 ≠ p23 by omega), fun _ => ⟨p23, e1, e2, by simpa using e3, fun h => Bool.noConfusion h, fun _ => ⟨fc.1, _, ec, (Blk.set2 (cs' := #[.bool r7_1, .slice r7_2 r7_3 r7_4, .bool r7_5, .slice r7_6 r7_7 r7_8]) (Blk.set2 (cs' := #[.bool r7_1, .slice r7_2 r7_3 r7_4, .bool r7_5, .slice none 0 0]) (Blk.set2 (cs' := #[.bool r7_1, .slice r7_2 r7_3 r7_4, .bool false, .slice none 0 0]) (Blk.set2 (cs' := #[.bool r7_1, .slice none 0 0, .bool false, .slice none 0 0]) hb (i := 0) rfl) (i := 1) rfl) (i := 2) rfl) (i := 3) rfl)⟩⟩⟩ trivial trivial
          apply Reg.RC_pure (hc := rfl) (hst := rfl) (hw := rfl) (t := 24) (hd := rfl) (ht := Nat.le_of_ble_eq_true rfl)
          · intro D v' W' hc hj hf K hK
            go_step
            exact hK.out
          · rfl
          refine Reg.RC_end (fun Dn v' w11 hd hj hf => ?_)
          obtain ⟨j0, jk, jn, b_a, b_b, b_p, b_q, b_s, b_l, a_10⟩ := hj
          have B := j0
          have oa := b_a
          clear b_a
          have ob := b_b
          clear b_b
          have op := b_p
          clear b_p
          have oq := b_q
          clear b_q
          have os := b_s
          clear b_s
          have ol := b_l
          clear b_l
          have f := hf (10, some 23) (.tail _ (.head _)) rfl
          have e6_ : v' 10 = .pointer (some ⟨p23, 0, none⟩) := f.2.1
          obtain ⟨g, e1_, zx, -, -, e5_⟩ := a_10 f.1
          obtain rfl : p23 = g := Reg.ptr_eq (e6_.symm.trans e1_)
          obtain ⟨-, cs_, ee, ox⟩ := e5_ (hd 11 (Nat.le_of_ble_eq_true rfl))
          have ef : v' 6 = .tuple #[.agg #[.bool r7_1, .slice r7_2 r7_3 r7_4, .bool r7_5, .slice r7_6 r7_7 r7_8], .int .i64 0] := (hf (6, some 96) (.head _) rfl).2.1
          obtain rfl : #[.bool r7_1, .slice r7_2 r7_3 r7_4, .bool r7_5, .slice r7_6 r7_7 r7_8] = cs_ := by have := ef.symm.trans ee; simpa only [Value.tuple.injEq, Value.agg.injEq, Array.mk.injEq, List.cons.injEq, and_true, true_and] using this
          clear ee ef f e5_ e1_ e6_
          have Fr7_ := Hid.mk_ (GFrE.get (r := unitQ b * unitQ d) (e := 0) (v := .agg #[.bool r7_1, .slice r7_2 r7_3 r7_4, .bool r7_5, .slice r7_6 r7_7 r7_8]) (hf (6, some 96) (.head _) rfl).2.2)
          replace Fna := Hid.mk_ (Fna.out.keeps jk)
          replace Fnb := Hid.mk_ (Fnb.out.keeps jk)
          replace Fnc := Hid.mk_ (Fnc.out.keeps jk)
          replace Fnd := Hid.mk_ (Fnd.out.keeps jk)
          replace kk := kk.trans jk
          clear hd hf jk j0
          refine hQ _ _ ?_
          clear hQ hops Q' ops'
          have cp0 := op.q0
          have cp1 := op.q1
          have lp := op.lt
          have cx0 := ox.q0
          have cx1 := ox.q1
          have cx2 := ox.q2
          have cx3 := ox.q3
          have lx := ox.lt
          go_upto_region 16 with fail
          go_cut [17] (fun sl0  wx => sl0 = .bool (glow2 || L3) ∧ Keeps w11 wx ∧ Blk wx (w.heap.size) 23 #[.int .i64 (a), .int .i64 (b)] ∧ Blk wx (w.heap.size + 1) 23 #[.int .i64 (c), .int .i64 (d)] ∧ Blk wx (w4.heap.size) 23 #[.int .i64 (p0), .int .i64 (q0)] ∧ Blk wx (w5.heap.size) 23 #[.int .i64 (p1), .int .i64 (q1)] ∧ Blk wx (w6.heap.size) 23 #[.int .i64 (p2), .int .i64 (q2)] ∧ Blk wx (p16) 45 #[.bool na1, .slice na2 na3 na4, .bool na5, .slice na6 na7 na8, .bool nb1, .slice nb2 nb3 nb4, .bool nb5, .slice nb6 nb7 nb8, .bool nc1, .slice nc2 nc3 nc4, .bool nc5, .slice nc6 nc7 nc8, .bool nd1, .slice nd2 nd3 nd4, .bool nd5, .slice nd6 nd7 nd8] ∧ Blk wx (p23) 31 #[.bool r7_1, .slice r7_2 r7_3 r7_4, .bool r7_5, .slice r7_6 r7_7 r7_8] ∧ Below w.heap.size w wx)
          case first => as_aux_lemma =>
            have kk := Keeps.refl w11
            cases hb : glow2
            case false =>
              go_wp2_with fail
              refine (cL3 _ _ (Fr7_.out.keeps keepsB)).mono ?_
              rintro e w12 ⟨rfl, hb12⟩
              have st : Steps _ w12 := hb12
              have sk : Below w11.heap.size w11 w12 := belowA st
              replace B := below_steps B (Nat.le_refl _) sk
              replace oa := oa.steps sk
              replace ob := ob.steps sk
              replace op := op.steps sk
              replace oq := oq.steps sk
              replace os := os.steps sk
              replace ol := ol.steps sk
              replace ox := ox.steps sk
              replace Fna := Hid.mk_ (Fna.out.steps sk)
              replace Fnb := Hid.mk_ (Fnb.out.steps sk)
              replace Fnc := Hid.mk_ (Fnc.out.steps sk)
              replace Fnd := Hid.mk_ (Fnd.out.steps sk)
              replace Fr7_ := Hid.mk_ (Fr7_.out.steps sk)
              replace kk := kk.then_ sk
              clear st sk cp0 cp1 lp cx0 cx1 cx2 cx3 lx
              go_wp2_with fail
              go_meet
              exact ⟨by simp [hb], kk.trans keepsB, ownK, ownK, ownK, ownK, ownK, ownK, ownK, belowB⟩
            case true =>
              go_wp2_with fail
              go_meet
              exact ⟨by simp [hb], kk.trans keepsB, ownK, ownK, ownK, ownK, ownK, ownK, ownK, belowB⟩
          case rest =>
            clear cp0 cp1 lp cx0 cx1 cx2 cx3 lx
            obtain ⟨rfl, kp, oa, ob, op, oq, os, ol, ox, B⟩ := hcut
            obtain ⟨w12, hw_⟩ : ∃ x, x = wc := ⟨_, rfl⟩
            subst hw_
            replace Fna := Hid.mk_ (Fna.out.keeps kp)
            replace Fnb := Hid.mk_ (Fnb.out.keeps kp)
            replace Fnc := Hid.mk_ (Fnc.out.keeps kp)
            replace Fnd := Hid.mk_ (Fnd.out.keeps kp)
            replace Fr7_ := Hid.mk_ (Fr7_.out.keeps kp)
            replace kk := kk.trans kp
            clear kp
            have cp0 := op.q0
            have cp1 := op.q1
            have lp := op.lt
            have cx0 := ox.q0
            have cx1 := ox.q1
            have cx2 := ox.q2
            have cx3 := ox.q3
            have lx := ox.lt
            go_upto_region 17 with fail
            go_cut [18] (fun sl0  wx => sl0 = .bool (ghigh2 || H3) ∧ Keeps w12 wx ∧ Blk wx (w.heap.size) 23 #[.int .i64 (a), .int .i64 (b)] ∧ Blk wx (w.heap.size + 1) 23 #[.int .i64 (c), .int .i64 (d)] ∧ Blk wx (w4.heap.size) 23 #[.int .i64 (p0), .int .i64 (q0)] ∧ Blk wx (w5.heap.size) 23 #[.int .i64 (p1), .int .i64 (q1)] ∧ Blk wx (w6.heap.size) 23 #[.int .i64 (p2), .int .i64 (q2)] ∧ Blk wx (p16) 45 #[.bool na1, .slice na2 na3 na4, .bool na5, .slice na6 na7 na8, .bool nb1, .slice nb2 nb3 nb4, .bool nb5, .slice nb6 nb7 nb8, .bool nc1, .slice nc2 nc3 nc4, .bool nc5, .slice nc6 nc7 nc8, .bool nd1, .slice nd2 nd3 nd4, .bool nd5, .slice nd6 nd7 nd8] ∧ Blk wx (p23) 31 #[.bool r7_1, .slice r7_2 r7_3 r7_4, .bool r7_5, .slice r7_6 r7_7 r7_8] ∧ Below w.heap.size w wx)
            case first => as_aux_lemma =>
              have kk := Keeps.refl w12
              cases hb : ghigh2
              case false =>
                go_wp2_with fail
                refine (cH3 _ _ (Fr7_.out.keeps keepsB)).mono ?_
                rintro e w13 ⟨rfl, hb13⟩
                have st : Steps _ w13 := hb13
                have sk : Below w12.heap.size w12 w13 := belowA st
                replace B := below_steps B (Nat.le_refl _) sk
                replace oa := oa.steps sk
                replace ob := ob.steps sk
                replace op := op.steps sk
                replace oq := oq.steps sk
                replace os := os.steps sk
                replace ol := ol.steps sk
                replace ox := ox.steps sk
                replace Fna := Hid.mk_ (Fna.out.steps sk)
                replace Fnb := Hid.mk_ (Fnb.out.steps sk)
                replace Fnc := Hid.mk_ (Fnc.out.steps sk)
                replace Fnd := Hid.mk_ (Fnd.out.steps sk)
                replace Fr7_ := Hid.mk_ (Fr7_.out.steps sk)
                replace kk := kk.then_ sk
                clear st sk cp0 cp1 lp cx0 cx1 cx2 cx3 lx
                go_wp2_with fail
                go_meet
                exact ⟨by simp [hb], kk.trans keepsB, ownK, ownK, ownK, ownK, ownK, ownK, ownK, belowB⟩
              case true =>
                go_wp2_with fail
                go_meet
                exact ⟨by simp [hb], kk.trans keepsB, ownK, ownK, ownK, ownK, ownK, ownK, ownK, belowB⟩
            case rest =>
              clear cp0 cp1 lp cx0 cx1 cx2 cx3 lx
              obtain ⟨rfl, kp, oa, ob, op, oq, os, ol, ox, B⟩ := hcut
              obtain ⟨w13, hw_⟩ : ∃ x, x = wc := ⟨_, rfl⟩
              subst hw_
              replace Fna := Hid.mk_ (Fna.out.keeps kp)
              replace Fnb := Hid.mk_ (Fnb.out.keeps kp)
              replace Fnc := Hid.mk_ (Fnc.out.keeps kp)
              replace Fnd := Hid.mk_ (Fnd.out.keeps kp)
              replace Fr7_ := Hid.mk_ (Fr7_.out.keeps kp)
              replace kk := kk.trans kp
              clear kp
              have cl0 := ol.q0
              have cl1 := ol.q1
              have cl2 := ol.q2
              have cl3 := ol.q3
              have cl4 := ol.q4
              have cl5 := ol.q5
              have cl6 := ol.q6
              have cl7 := ol.q7
              have cl8 := ol.q8
              have cl9 := ol.q9
              have cl10 := ol.q10
              have cl11 := ol.q11
              have cl12 := ol.q12
              have cl13 := ol.q13
              have cl14 := ol.q14
              have cl15 := ol.q15
              have ll := ol.lt
              have hz_ := nzB Fnd.out.len
              rw [hzd] at hz_
              go_upto_region 18 with fail
              go_cut [119] (fun sl0  wx => sl0 = .bool (!zd) ∧ Keeps w13 wx ∧ Blk wx (w.heap.size) 23 #[.int .i64 (a), .int .i64 (b)] ∧ Blk wx (w.heap.size + 1) 23 #[.int .i64 (c), .int .i64 (d)] ∧ Blk wx (w4.heap.size) 23 #[.int .i64 (p0), .int .i64 (q0)] ∧ Blk wx (w5.heap.size) 23 #[.int .i64 (p1), .int .i64 (q1)] ∧ Blk wx (w6.heap.size) 23 #[.int .i64 (p2), .int .i64 (q2)] ∧ Blk wx (p16) 45 #[.bool na1, .slice na2 na3 na4, .bool na5, .slice na6 na7 na8, .bool nb1, .slice nb2 nb3 nb4, .bool nb5, .slice nb6 nb7 nb8, .bool nc1, .slice nc2 nc3 nc4, .bool nc5, .slice nc6 nc7 nc8, .bool nd1, .slice nd2 nd3 nd4, .bool nd5, .slice nd6 nd7 nd8] ∧ Blk wx (p23) 31 #[.bool r7_1, .slice r7_2 r7_3 r7_4, .bool r7_5, .slice r7_6 r7_7 r7_8] ∧ Below w.heap.size w wx)
              case first => as_aux_lemma =>
                have kk := Keeps.refl w13
                go_wp2_with fail
                go_meet
                exact ⟨by first | (rw [← hz_]; done) | (rw [← hz_]; simp), kk.trans keepsB, ownK, ownK, ownK, ownK, ownK, ownK, ownK, belowB⟩
              case rest =>
                clear cl0 cl1 cl2 cl3 cl4 cl5 cl6 cl7 cl8 cl9 cl10 cl11 cl12 cl13 cl14 cl15 ll
                obtain ⟨rfl, kp, oa, ob, op, oq, os, ol, ox, B⟩ := hcut
                obtain ⟨w14, hw_⟩ : ∃ x, x = wc := ⟨_, rfl⟩
                subst hw_
                replace Fna := Hid.mk_ (Fna.out.keeps kp)
                replace Fnb := Hid.mk_ (Fnb.out.keeps kp)
                replace Fnc := Hid.mk_ (Fnc.out.keeps kp)
                replace Fnd := Hid.mk_ (Fnd.out.keeps kp)
                replace Fr7_ := Hid.mk_ (Fr7_.out.keeps kp)
                replace kk := kk.trans kp
                clear kp hz_
                have cl0 := ol.q0
                have cl1 := ol.q1
                have cl2 := ol.q2
                have cl3 := ol.q3
                have cl4 := ol.q4
                have cl5 := ol.q5
                have cl6 := ol.q6
                have cl7 := ol.q7
                have cl8 := ol.q8
                have cl9 := ol.q9
                have cl10 := ol.q10
                have cl11 := ol.q11
                have cl12 := ol.q12
                have cl13 := ol.q13
                have cl14 := ol.q14
                have cl15 := ol.q15
                have ll := ol.lt
                cases hk : zd
                case true =>
                  go_wp2_with fail
                  go_meet
                  exact ⟨rfl, rfl, by simp [hk], by simp [hk], kk.trans keepsB, ownK, ownK, ownK, ownK, ownK, ownK, belowB⟩
                case false =>
                  have hnz : d ≠ 0 := by rw [hk] at hzd; simpa using hzd
                  have zx_14 : p23 < w14.heap.size := ox.lt
                  have zz14 := B.size
                  go_upto_region 19 with fail
                  refine Reg.wp_chain_n (fun N0 D v W => Below w.heap.size w W ∧ Keeps w14 W ∧ N0 ≤ W.heap.size ∧ Blk W (w.heap.size) 23 #[.int .i64 (a), .int .i64 (b)] ∧ Blk W (w.heap.size + 1) 23 #[.int .i64 (c), .int .i64 (d)] ∧ Blk W (w4.heap.size) 23 #[.int .i64 (p0), .int .i64 (q0)] ∧ Blk W (w5.heap.size) 23 #[.int .i64 (p1), .int .i64 (q1)] ∧ Blk W (w6.heap.size) 23 #[.int .i64 (p2), .int .i64 (q2)] ∧ Blk W (p16) 45 #[.bool na1, .slice na2 na3 na4, .bool na5, .slice na6 na7 na8, .bool nb1, .slice nb2 nb3 nb4, .bool nb5, .slice nb6 nb7 nb8, .bool nc1, .slice nc2 nc3 nc4, .bool nc5, .slice nc6 nc7 nc8, .bool nd1, .slice nd2 nd3 nd4, .bool nd5, .slice nd6 nd7 nd8] ∧ Blk W (p23) 31 #[.bool r7_1, .slice r7_2 r7_3 r7_4, .bool r7_5, .slice r7_6 r7_7 r7_8] ∧ (D 10 = true → ∃ g : Nat, v 10 = .pointer (some ⟨g, 0, none⟩) ∧ N0 ≤ g ∧ g < W.heap.size ∧ (D 11 = false → Blk W g 31 #[.bool false, .slice none 0 0, .bool false, .slice none 0 0]) ∧ (D 11 = true → D 6 = true ∧ ∃ cs, v 6 = .tuple #[.agg cs, .int .i64 0] ∧ Blk W g 31 cs)))
                    (Reg.inl [6, 10, 11]) (Reg.gv [(6, IsFrE 0), (10, IsPtr)]) (gw [(6, GFrE (unitQ b / unitQ d) 0)]) (fun _ => Keeps) (fun _ _ => False) (Reg.pl [(11, [(6, some 127), (10, some 25)]), (13, [(6, some 127), (10, some 25)])]) (Reg.pl [(10, [11]), (6, [11])])
                    (by kernel_rfl) (by kernel_rfl) (by kernel_rfl) (Reg.gv_some _ (by intro p hp; simp only [List.mem_cons, List.not_mem_nil, or_false] at hp; rcases hp with rfl | rfl <;> first | exact ⟨_, rfl⟩ | exact ⟨_, 0, rfl⟩ | exact ⟨_, none, 0, 0, rfl⟩ | exact ⟨_, false, none, 0, 0, rfl⟩ | exact ⟨_, false, none, 0, 0, false, none, 0, 0, rfl⟩)) (fun N0 hN0 => ⟨fun v => ?_, fun D v v' W hv hj => ?_, fun D v k j W W' x _ _ _ _ hk hg => gw_keeps _ (by intro p hp; simp only [List.mem_cons, List.not_mem_nil, or_false] at hp; rcases hp with rfl <;> first | exact GFr.keeps | exact GFrE.keeps | exact GNu.keeps | exact GNuE.keeps | exact GLi.keeps) hk hg, fun _ _ _ _ h => h.elim, fun ops' Q' hops hQ => ?_⟩)
                  · exact ⟨belowB, keepsB, Nat.le_of_eq hN0.out, ownK, ownK, ownK, ownK, ownK, ownK, ownK, (fun h => Bool.noConfusion h)⟩
                  · obtain ⟨j0, jk, jn, b_a, b_b, b_p, b_q, b_s, b_l, b_x, a_10⟩ := hj
                    exact ⟨j0, jk, jn, b_a, b_b, b_p, b_q, b_s, b_l, b_x, fun h => by obtain ⟨g, e1, e2, e3, e4, e5⟩ := a_10 h; exact ⟨g, (hv 10 h) ▸ e1, e2, e3, e4, fun h => by obtain ⟨d, cs, e, hb⟩ := e5 h; exact ⟨d, cs, (hv 6 d) ▸ e, hb⟩⟩⟩
                  have i_a : w.heap.size < N0 := by have e := hN0.out; (try simp only [World.size_alloc, World.size_setCell, World.size_drew, World.heap_drewN] at e); first | omega | (have h := oa.lt; omega)
                  have i_b : w.heap.size + 1 < N0 := by have e := hN0.out; (try simp only [World.size_alloc, World.size_setCell, World.size_drew, World.heap_drewN] at e); first | omega | (have h := ob.lt; omega)
                  have i_p : w4.heap.size < N0 := by have e := hN0.out; (try simp only [World.size_alloc, World.size_setCell, World.size_drew, World.heap_drewN] at e); first | omega | (have h := op.lt; omega)
                  have i_q : w5.heap.size < N0 := by have e := hN0.out; (try simp only [World.size_alloc, World.size_setCell, World.size_drew, World.heap_drewN] at e); first | omega | (have h := oq.lt; omega)
                  have i_s : w6.heap.size < N0 := by have e := hN0.out; (try simp only [World.size_alloc, World.size_setCell, World.size_drew, World.heap_drewN] at e); first | omega | (have h := os.lt; omega)
                  have i_l : p16 < N0 := by have e := hN0.out; (try simp only [World.size_alloc, World.size_setCell, World.size_drew, World.heap_drewN] at e); first | omega | (have h := ol.lt; omega)
                  have i_x : p23 < N0 := by have e := hN0.out; (try simp only [World.size_alloc, World.size_setCell, World.size_drew, World.heap_drewN] at e); first | omega | (have h := ox.lt; omega)
                  have iw : w.heap.size ≤ N0 := by have e := hN0.out; (try simp only [World.size_alloc, World.size_setCell, World.size_drew, World.heap_drewN] at e); first | omega | (have h := B.size; omega)
                  clear cl0 cl1 cl2 cl3 cl4 cl5 cl6 cl7 cl8 cl9 cl10 cl11 cl12 cl13 cl14 cl15 ll
                  clear hN0
                  apply Reg.RC_pure (hc := rfl) (hst := rfl) (hw := rfl) (t := 121) (hd := rfl) (ht := Nat.le_of_ble_eq_true rfl)
                  · intro D v' W' hc hj hf K hK
                    go_step
                    exact hK.out
                  · rfl
                  apply Reg.RC_pure (hc := rfl) (hst := rfl) (hw := rfl) (t := 122) (hd := rfl) (ht := Nat.le_of_ble_eq_true rfl)
                  · intro D v' W' hc hj hf K hK
                    go_step
                    exact hK.out
                  · rfl
                  apply Reg.RC_pure (hc := rfl) (hst := rfl) (hw := rfl) (t := 123) (hd := rfl) (ht := Nat.le_of_ble_eq_true rfl)
                  · intro D v' W' hc hj hf K hK
                    obtain ⟨j0, jk, jn, b_a, b_b, b_p, b_q, b_s, b_l, b_x, a_10⟩ := hj
                    have c0 : W'.cell? ⟨p16, 0, none⟩ = some (.bool na1) := b_l.c 0 rfl
                    have c1 : W'.cell? ⟨p16, 1, none⟩ = some (.slice na2 na3 na4) := b_l.c 1 rfl
                    have c2 : W'.cell? ⟨p16, 2, none⟩ = some (.bool na5) := b_l.c 2 rfl
                    have c3 : W'.cell? ⟨p16, 3, none⟩ = some (.slice na6 na7 na8) := b_l.c 3 rfl
                    have c4 : W'.cell? ⟨p16, 4, none⟩ = some (.bool nb1) := b_l.c 4 rfl
                    have c5 : W'.cell? ⟨p16, 5, none⟩ = some (.slice nb2 nb3 nb4) := b_l.c 5 rfl
                    have c6 : W'.cell? ⟨p16, 6, none⟩ = some (.bool nb5) := b_l.c 6 rfl
                    have c7 : W'.cell? ⟨p16, 7, none⟩ = some (.slice nb6 nb7 nb8) := b_l.c 7 rfl
                    have c8 : W'.cell? ⟨p16, 8, none⟩ = some (.bool nc1) := b_l.c 8 rfl
                    have c9 : W'.cell? ⟨p16, 9, none⟩ = some (.slice nc2 nc3 nc4) := b_l.c 9 rfl
                    have c10 : W'.cell? ⟨p16, 10, none⟩ = some (.bool nc5) := b_l.c 10 rfl
                    have c11 : W'.cell? ⟨p16, 11, none⟩ = some (.slice nc6 nc7 nc8) := b_l.c 11 rfl
                    have c12 : W'.cell? ⟨p16, 12, none⟩ = some (.bool nd1) := b_l.c 12 rfl
                    have c13 : W'.cell? ⟨p16, 13, none⟩ = some (.slice nd2 nd3 nd4) := b_l.c 13 rfl
                    have c14 : W'.cell? ⟨p16, 14, none⟩ = some (.bool nd5) := b_l.c 14 rfl
                    have c15 : W'.cell? ⟨p16, 15, none⟩ = some (.slice nd6 nd7 nd8) := b_l.c 15 rfl
                    go_step
                    exact hK.out
                  · rfl
                  apply Reg.RC_pure (hc := rfl) (hst := rfl) (hw := rfl) (t := 124) (hd := rfl) (ht := Nat.le_of_ble_eq_true rfl)
                  · intro D v' W' hc hj hf K hK
                    go_step
                    exact hK.out
                  · rfl
                  apply Reg.RC_pure (hc := rfl) (hst := rfl) (hw := rfl) (t := 125) (hd := rfl) (ht := Nat.le_of_ble_eq_true rfl)
                  · intro D v' W' hc hj hf K hK
                    go_step
                    exact hK.out
                  · rfl
                  apply Reg.RC_pure (hc := rfl) (hst := rfl) (hw := rfl) (t := 126) (hd := rfl) (ht := Nat.le_of_ble_eq_true rfl)
                  · intro D v' W' hc hj hf K hK
                    obtain ⟨j0, jk, jn, b_a, b_b, b_p, b_q, b_s, b_l, b_x, a_10⟩ := hj
                    have c0 : W'.cell? ⟨p16, 0, none⟩ = some (.bool na1) := b_l.c 0 rfl
                    have c1 : W'.cell? ⟨p16, 1, none⟩ = some (.slice na2 na3 na4) := b_l.c 1 rfl
                    have c2 : W'.cell? ⟨p16, 2, none⟩ = some (.bool na5) := b_l.c 2 rfl
                    have c3 : W'.cell? ⟨p16, 3, none⟩ = some (.slice na6 na7 na8) := b_l.c 3 rfl
                    have c4 : W'.cell? ⟨p16, 4, none⟩ = some (.bool nb1) := b_l.c 4 rfl
                    have c5 : W'.cell? ⟨p16, 5, none⟩ = some (.slice nb2 nb3 nb4) := b_l.c 5 rfl
                    have c6 : W'.cell? ⟨p16, 6, none⟩ = some (.bool nb5) := b_l.c 6 rfl
                    have c7 : W'.cell? ⟨p16, 7, none⟩ = some (.slice nb6 nb7 nb8) := b_l.c 7 rfl
                    have c8 : W'.cell? ⟨p16, 8, none⟩ = some (.bool nc1) := b_l.c 8 rfl
                    have c9 : W'.cell? ⟨p16, 9, none⟩ = some (.slice nc2 nc3 nc4) := b_l.c 9 rfl
                    have c10 : W'.cell? ⟨p16, 10, none⟩ = some (.bool nc5) := b_l.c 10 rfl
                    have c11 : W'.cell? ⟨p16, 11, none⟩ = some (.slice nc6 nc7 nc8) := b_l.c 11 rfl
                    have c12 : W'.cell? ⟨p16, 12, none⟩ = some (.bool nd1) := b_l.c 12 rfl
                    have c13 : W'.cell? ⟨p16, 13, none⟩ = some (.slice nd2 nd3 nd4) := b_l.c 13 rfl
                    have c14 : W'.cell? ⟨p16, 14, none⟩ = some (.bool nd5) := b_l.c 14 rfl
                    have c15 : W'.cell? ⟨p16, 15, none⟩ = some (.slice nd6 nd7 nd8) := b_l.c 15 rfl
                    go_step
                    exact hK.out
                  · rfl
                  refine Reg.RC_call rfl (by intro t ht; cases ht; exact Nat.le_of_ble_eq_true rfl) rfl (fun D v' W' hc hj hf K hK => ?_) ?_
                  · obtain ⟨j0, jk, jn, b_a, b_b, b_p, b_q, b_s, b_l, b_x, a_10⟩ := hj
                    clear hf
                    go_step
                    refine (rOverQ W' (Fnb.out.keeps jk) (Fnd.out.keeps jk) sb sd (by omega) (unit_ne hnz)).mono ?_
                    rintro e W2 ⟨u, rfl, hu, hs⟩
                    obtain ⟨r8_1, r8_2, r8_3, r8_4, r8_5, r8_6, r8_7, r8_8, rfl⟩ := hu.shape
                    exact hK.out _ W2 (Keeps.steps hs) ⟨below_steps j0 (Nat.le_refl _) hs, jk.then_ hs, Nat.le_trans jn hs.size, b_a.steps hs, b_b.steps hs, b_p.steps hs, b_q.steps hs, b_s.steps hs, b_l.steps hs, b_x.steps hs, fun h => by obtain ⟨g, e1, e2, e3, e4, e5⟩ := a_10 h; exact ⟨g, e1, e2, Nat.lt_of_lt_of_le e3 (hs).size, fun h => (e4 h).steps hs, fun h => Bool.noConfusion ((hc.2 11 (by decide)).symm.trans h)⟩⟩ ⟨_, rfl, hu⟩ ⟨_, _, _, _, _, _, _, _, rfl⟩
                  rintro _ ⟨r8_1, r8_2, r8_3, r8_4, r8_5, r8_6, r8_7, r8_8, rfl⟩
                  refine Reg.RC_at (b := ⟨#[_,_,_,_,_,_,_,_,_,_,_,_,_,_,_,_,_,_,_,_,_,_,_,_,_,_,_,_,_,_,_,_,_,_,_,_,_,_,_,_,_,_,_,_,_,_,_,_,_,_,_,_,_,_,_,_,_,_,_,_,_,_,_,_,_,_,_,_,_,_,_,_,_,_,_,_,_,_,_,_,_,_,_,_,_,_,_,_,_,_,_,_,_,_,_,_,_,_,_,_,_,_,_,_,_,_,_,_,_,_,_,_,_,_,_,_,_,_,_,_,_,_,_,_,_,_,_,_,_,_,_,_,_,_,_,_,_,_,_,_,_,_,_,_,_,_,_,_,_,_,_,_,_,_,_,_,_,_,_,_,_,_,_,_,_,_,_,_,_,_,_,_,_,_,_,_,_,_,_,_,_,_,_,_,_,_,_,_,_,_,_,_,_,_,_,_,_,_,_,_,_,_,_,_,_,_,_,_,_,_,_,_,_,_,_,_,_,_,_,_], _⟩) rfl ?_
                  apply Reg.RC_pure (hc := rfl) (hst := rfl) (hw := rfl) (t := 120) (hd := rfl) (ht := Nat.le_of_ble_eq_true rfl)
                  · intro D v' W' hc hj hf K hK
                    go_step
                    exact hK.out
                  · rfl
                  apply Reg.RC_pure (hc := rfl) (hst := rfl) (hw := rfl) (t := 128) (hd := rfl) (ht := Nat.le_of_ble_eq_true rfl)
                  · intro D v' W' hc hj hf K hK
                    go_step
                    exact hK.out
                  · rfl
                  apply Reg.RC_pure (hc := rfl) (hst := rfl) (hw := rfl) (t := 129) (hd := rfl) (ht := Nat.le_of_ble_eq_true rfl)
                  · intro D v' W' hc hj hf K hK
                    go_step
                    exact hK.out
                  · rfl
                  refine Reg.RC_call rfl (by intro t ht; cases ht; exact Nat.le_of_ble_eq_true rfl) rfl (fun D v' W' hc hj hf K hK => ?_) ?_
                  · obtain ⟨j0, jk, jn, b_a, b_b, b_p, b_q, b_s, b_l, b_x, a_10⟩ := hj
                    go_step
                    have hs : ∀ o : Obj, Steps W' (W'.alloc o) := fun o => (Below.refl _ _).alloc (Nat.le_refl _) o
                    exact hK.out _ _ (Keeps.steps (hs _)) ⟨below_steps j0 (Nat.le_refl _) (hs _), jk.then_ (hs _), Nat.le_trans jn (hs _).size, b_a.steps (hs _), b_b.steps (hs _), b_p.steps (hs _), b_q.steps (hs _), b_s.steps (hs _), b_l.steps (hs _), b_x.steps (hs _), fun _ => ⟨W'.heap.size, rfl, jn, by rw [World.size_alloc]; omega, fun _ => Blk.new _ _ _, fun h => Bool.noConfusion ((hc.2 11 (by decide)).symm.trans h)⟩⟩ trivial ⟨_, rfl⟩
                  rintro _ ⟨p25, rfl⟩
                  refine Reg.RC_at (b := ⟨#[_,_,_,_,_,_,_,_,_,_,_,_,_,_,_,_,_,_,_,_,_,_,_,_,_,_,_,_,_,_,_,_,_,_,_,_,_,_,_,_,_,_,_,_,_,_,_,_,_,_,_,_,_,_,_,_,_,_,_,_,_,_,_,_,_,_,_,_,_,_,_,_,_,_,_,_,_,_,_,_,_,_,_,_,_,_,_,_,_,_,_,_,_,_,_,_,_,_,_,_,_,_,_,_,_,_,_,_,_,_,_,_,_,_,_,_,_,_,_,_,_,_,_,_,_,_,_,_,_,_,_,_,_,_,_,_,_,_,_,_,_,_,_,_,_,_,_,_,_,_,_,_,_,_,_,_,_,_,_,_,_,_,_,_,_,_,_,_,_,_,_,_,_,_,_,_,_,_,_,_,_,_,_,_,_,_,_,_,_,_,_,_,_,_,_,_,_,_,_,_,_,_,_,_,_,_,_,_,_,_,_,_,_,_,_,_,_,_,_,_], _⟩) rfl ?_
                  refine Reg.RC_call rfl (by intro t ht; cases ht) rfl (fun D v' W' hc hj hf K hK => ?_) (fun _ _ => Reg.RC_at (b := ⟨_, _⟩) rfl ?_)
                  · obtain ⟨j0, jk, jn, b_a, b_b, b_p, b_q, b_s, b_l, b_x, a_10⟩ := hj
                    have f := hf (10, some 25) (.tail _ (.head _)) rfl
                    have e6 : v' 10 = .pointer (some ⟨p25, 0, none⟩) := f.2.1
                    obtain ⟨g, e1, e2, e3, e4, e5⟩ := a_10 f.1
                    obtain rfl : p25 = g := Reg.ptr_eq (e6.symm.trans e1)
                    have hb := e4 hc.1
                    clear e4 e5
                    have fc := hf (6, some 127) (.head _) rfl
                    have ec : v' 6 = .tuple #[.agg #[.bool r8_1, .slice r8_2 r8_3 r8_4, .bool r8_5, .slice r8_6 r8_7 r8_8], .int .i64 0] := fc.2.1
                    have ff := hb.fr
                    have cc0 : W'.cell? ⟨p25, 0, none⟩ = some (.bool false) := hb.c 0 rfl
                    have cc1 : W'.cell? ⟨p25, 1, none⟩ = some (.slice none 0 0) := hb.c 1 rfl
                    have cc2 : W'.cell? ⟨p25, 2, none⟩ = some (.bool false) := hb.c 2 rfl
                    have cc3 : W'.cell? ⟨p25, 3, none⟩ = some (.slice none 0 0) := hb.c 3 rfl
                    go_step
                    exact hK.out undef _ (Keeps.only hb rfl ((Only.refl _ _).set.set.set.set)) ⟨(Below.setCell (p := ⟨p25, 3, none⟩) (Below.setCell (p := ⟨p25, 2, none⟩) (Below.setCell (p := ⟨p25, 1, none⟩) (Below.setCell (p := ⟨p25, 0, none⟩) j0 (by show w.heap.size ≤ p25; omega) _) (by show w.heap.size ≤ p25; omega) _) (by show w.heap.size ≤ p25; omega) _) (by show w.heap.size ≤ p25; omega) _), jk.trans (Keeps.only hb rfl ((Only.refl _ _).set.set.set.set)), by simpa using jn, ((((b_a).far' (show w.heap.size ≠ p25 by omega)).far' (show w.heap.size ≠ p25 by omega)).far' (show w.heap.size ≠ p25 by omega)).far' (show w.heap.size ≠ p25 by omega), ((((b_b).far' (show w.heap.size + 1 ≠ p25 by omega)).far' (show w.heap.size + 1 ≠ p25 by omega)).far' (show w.heap.size + 1 ≠ p25 by omega)).far' (show w.heap.size + 1 ≠ p25 by omega), ((((b_p).far' (show w4.heap.size ≠ p25 by omega)).far' (show w4.heap.size ≠ p25 by omega)).far' (show w4.heap.size ≠ p25 by omega)).far' (show w4.heap.size ≠ p25 by omega), ((((b_q).far' (show w5.heap.size ≠ p25 by omega)).far' (show w5.heap.size ≠ p25 by omega)).far' (show w5.heap.size ≠ p25 by omega)).far' (show w5.heap.size ≠ p25 by omega), ((((b_s).far' (show w6.heap.size ≠ p25 by omega)).far' (show w6.heap.size ≠ p25 by omega)).far' (show w6.heap.size ≠ p25 by omega)).far' (show w6.heap.size ≠ p25 by omega), ((((b_l).far' (show p16 ≠ p25 by omega)).far' (show p16 ≠ p25 by omega)).far' (show p16 ≠ p25 by omega)).far' (show p16 ≠ p25 by omega), ((((b_x).far' (show p23 ≠ p25 by omega)).far' (show p23 ≠ p25 by omega)).far' (show p23 ≠ p25 by omega)).far' (show p23 ≠ p25 by omega), fun _ => ⟨p25, e1, e2, by simpa using e3, fun h => Bool.noConfusion h, fun _ => ⟨fc.1, _, ec, (Blk.set2 (cs' := #[.bool r8_1, .slice r8_2 r8_3 r8_4, .bool r8_5, .slice r8_6 r8_7 r8_8]) (Blk.set2 (cs' := #[.bool r8_1, .slice r8_2 r8_3 r8_4, .bool r8_5, .slice none 0 0]) (Blk.set2 (cs' := #[.bool r8_1, .slice r8_2 r8_3 r8_4, .bool false, .slice none 0 0]) (Blk.set2 (cs' := #[.bool r8_1, .slice none 0 0, .bool false, .slice none 0 0]) hb (i := 0) rfl) (i := 1) rfl) (i := 2) rfl) (i := 3) rfl)⟩⟩⟩ trivial trivial
                  apply Reg.RC_pure (hc := rfl) (hst := rfl) (hw := rfl) (t := 26) (hd := rfl) (ht := Nat.le_of_ble_eq_true rfl)
                  · intro D v' W' hc hj hf K hK
                    go_step
                    exact hK.out
                  · rfl
                  refine Reg.RC_end (fun Dn v' w15 hd hj hf => ?_)
                  obtain ⟨j0, jk, jn, b_a, b_b, b_p, b_q, b_s, b_l, b_x, a_10⟩ := hj
                  have B := j0
                  have oa := b_a
                  clear b_a
                  have ob := b_b
                  clear b_b
                  have op := b_p
                  clear b_p
                  have oq := b_q
                  clear b_q
                  have os := b_s
                  clear b_s
                  have ol := b_l
                  clear b_l
                  have ox := b_x
                  clear b_x
                  have f := hf (10, some 25) (.tail _ (.head _)) rfl
                  have e6_ : v' 10 = .pointer (some ⟨p25, 0, none⟩) := f.2.1
                  obtain ⟨g, e1_, zy, -, -, e5_⟩ := a_10 f.1
                  obtain rfl : p25 = g := Reg.ptr_eq (e6_.symm.trans e1_)
                  obtain ⟨-, cs_, ee, oy⟩ := e5_ (hd 11 (Nat.le_of_ble_eq_true rfl))
                  have ef : v' 6 = .tuple #[.agg #[.bool r8_1, .slice r8_2 r8_3 r8_4, .bool r8_5, .slice r8_6 r8_7 r8_8], .int .i64 0] := (hf (6, some 127) (.head _) rfl).2.1
                  obtain rfl : #[.bool r8_1, .slice r8_2 r8_3 r8_4, .bool r8_5, .slice r8_6 r8_7 r8_8] = cs_ := by have := ef.symm.trans ee; simpa only [Value.tuple.injEq, Value.agg.injEq, Array.mk.injEq, List.cons.injEq, and_true, true_and] using this
                  clear ee ef f e5_ e1_ e6_
                  have Fr8_ := Hid.mk_ (GFrE.get (r := unitQ b / unitQ d) (e := 0) (v := .agg #[.bool r8_1, .slice r8_2 r8_3 r8_4, .bool r8_5, .slice r8_6 r8_7 r8_8]) (hf (6, some 127) (.head _) rfl).2.2)
                  replace Fna := Hid.mk_ (Fna.out.keeps jk)
                  replace Fnb := Hid.mk_ (Fnb.out.keeps jk)
                  replace Fnc := Hid.mk_ (Fnc.out.keeps jk)
                  replace Fnd := Hid.mk_ (Fnd.out.keeps jk)
                  replace Fr7_ := Hid.mk_ (Fr7_.out.keeps jk)
                  replace kk := kk.trans jk
                  clear hd hf jk j0
                  refine hQ _ _ ?_
                  clear hQ hops Q' ops'
                  have cq0 := oq.q0
                  have cq1 := oq.q1
                  have lq := oq.lt
                  have cy0 := oy.q0
                  have cy1 := oy.q1
                  have cy2 := oy.q2
                  have cy3 := oy.q3
                  have ly := oy.lt
                  cases hb1 : gless2
                  case false =>
                    go_wp2_with fail
                    refine (cS3 hnz _ _ (Fr8_.out.keeps keepsB)).mono ?_
                    rintro e w16 ⟨rfl, hb16⟩
                    have st : Steps _ w16 := hb16
                    have sk : Below w15.heap.size w15 w16 := belowA st
                    replace B := below_steps B (Nat.le_refl _) sk
                    replace oa := oa.steps sk
                    replace ob := ob.steps sk
                    replace op := op.steps sk
                    replace oq := oq.steps sk
                    replace os := os.steps sk
                    replace ol := ol.steps sk
                    replace ox := ox.steps sk
                    replace oy := oy.steps sk
                    replace Fna := Hid.mk_ (Fna.out.steps sk)
                    replace Fnb := Hid.mk_ (Fnb.out.steps sk)
                    replace Fnc := Hid.mk_ (Fnc.out.steps sk)
                    replace Fnd := Hid.mk_ (Fnd.out.steps sk)
                    replace Fr7_ := Hid.mk_ (Fr7_.out.steps sk)
                    replace Fr8_ := Hid.mk_ (Fr8_.out.steps sk)
                    replace kk := kk.then_ sk
                    clear st sk cq0 cq1 lq cy0 cy1 cy2 cy3 ly
                    have cq0 := oq.q0
                    have cq1 := oq.q1
                    have lq := oq.lt
                    have cy0 := oy.q0
                    have cy1 := oy.q1
                    have cy2 := oy.q2
                    have cy3 := oy.q3
                    have ly := oy.lt
                    cases hb2 : gmore2
                    case false =>
                      go_wp2_with fail
                      refine (cR3 hnz _ _ (Fr8_.out.keeps keepsB)).mono ?_
                      rintro e w17 ⟨rfl, hb17⟩
                      have st : Steps _ w17 := hb17
                      have sk : Below w16.heap.size w16 w17 := belowA st
                      replace B := below_steps B (Nat.le_refl _) sk
                      replace oa := oa.steps sk
                      replace ob := ob.steps sk
                      replace op := op.steps sk
                      replace oq := oq.steps sk
                      replace os := os.steps sk
                      replace ol := ol.steps sk
                      replace ox := ox.steps sk
                      replace oy := oy.steps sk
                      replace Fna := Hid.mk_ (Fna.out.steps sk)
                      replace Fnb := Hid.mk_ (Fnb.out.steps sk)
                      replace Fnc := Hid.mk_ (Fnc.out.steps sk)
                      replace Fnd := Hid.mk_ (Fnd.out.steps sk)
                      replace Fr7_ := Hid.mk_ (Fr7_.out.steps sk)
                      replace Fr8_ := Hid.mk_ (Fr8_.out.steps sk)
                      replace kk := kk.then_ sk
                      clear st sk cq0 cq1 lq cy0 cy1 cy2 cy3 ly
                      go_wp2_with fail
                      go_meet
                      exact ⟨rfl, rfl, by simp [hk, hb1], by simp [hk, hb2], kk.trans keepsB, ownK, ownK, ownK, ownK, ownK, ownK, belowB⟩
                    case true =>
                      go_wp2_with fail
                      go_meet
                      exact ⟨rfl, rfl, by simp [hk, hb1], by simp [hk, hb2], kk.trans keepsB, ownK, ownK, ownK, ownK, ownK, ownK, belowB⟩
                  case true =>
                    cases hb2 : gmore2
                    case false =>
                      go_wp2_with fail
                      refine (cR3 hnz _ _ (Fr8_.out.keeps keepsB)).mono ?_
                      rintro e w16 ⟨rfl, hb16⟩
                      have st : Steps _ w16 := hb16
                      have sk : Below w15.heap.size w15 w16 := belowA st
                      replace B := below_steps B (Nat.le_refl _) sk
                      replace oa := oa.steps sk
                      replace ob := ob.steps sk
                      replace op := op.steps sk
                      replace oq := oq.steps sk
                      replace os := os.steps sk
                      replace ol := ol.steps sk
                      replace ox := ox.steps sk
                      replace oy := oy.steps sk
                      replace Fna := Hid.mk_ (Fna.out.steps sk)
                      replace Fnb := Hid.mk_ (Fnb.out.steps sk)
                      replace Fnc := Hid.mk_ (Fnc.out.steps sk)
                      replace Fnd := Hid.mk_ (Fnd.out.steps sk)
                      replace Fr7_ := Hid.mk_ (Fr7_.out.steps sk)
                      replace Fr8_ := Hid.mk_ (Fr8_.out.steps sk)
                      replace kk := kk.then_ sk
                      clear st sk cq0 cq1 lq cy0 cy1 cy2 cy3 ly
                      go_wp2_with fail
                      go_meet
                      exact ⟨rfl, rfl, by simp [hk, hb1], by simp [hk, hb2], kk.trans keepsB, ownK, ownK, ownK, ownK, ownK, ownK, belowB⟩
                    case true =>
                      go_wp2_with fail
                      go_meet
                      exact ⟨rfl, rfl, by simp [hk, hb1], by simp [hk, hb2], kk.trans keepsB, ownK, ownK, ownK, ownK, ownK, ownK, belowB⟩
        case rest =>
          clear cl0 cl1 cl2 cl3 cl4 cl5 cl6 cl7 cl8 cl9 cl10 cl11 cl12 cl13 cl14 cl15 ll
          obtain ⟨rfl, rfl, rfl, rfl, kp, oa, ob, op, oq, os, ol, B⟩ := hcut
          obtain ⟨w11, hw_⟩ : ∃ x, x = wc := ⟨_, rfl⟩
          subst hw_
          replace Fna := Hid.mk_ (Fna.out.keeps kp)
          replace Fnb := Hid.mk_ (Fnb.out.keeps kp)
          replace Fnc := Hid.mk_ (Fnc.out.keeps kp)
          replace Fnd := Hid.mk_ (Fnd.out.keeps kp)
          clear kp
          obtain ⟨glow3, hglow3⟩ : ∃ q_, (glow2 || L3) = q_ := ⟨_, rfl⟩
          rw [hglow3]
          obtain ⟨ghigh3, hghigh3⟩ : ∃ q_, (ghigh2 || H3) = q_ := ⟨_, rfl⟩
          rw [hghigh3]
          obtain ⟨gless3, hgless3⟩ : ∃ q_, (gless2 || (!zd && S3)) = q_ := ⟨_, rfl⟩
          rw [hgless3]
          obtain ⟨gmore3, hgmore3⟩ : ∃ q_, (gmore2 || (!zd && R3)) = q_ := ⟨_, rfl⟩
          rw [hgmore3]
          clear cL3 cH3 cS3 cR3
          go_wp2_with fail
          rw [rounds_succ]
          go_wp2_with fail
          rw [rounds_succ]
          have Z0' : Hid ((e0 == 0) = true → glow3 = true ∧ ghigh3 = true) := by rw [← hglow3, ← hglow2, ← hglow1, ← hglow0, ← hghigh3, ← hghigh2, ← hghigh1, ← hghigh0]; exact Z0
          have Z1' : Hid ((e1 == 0) = true → gless3 = true ∧ gmore3 = true) := by rw [← hgless3, ← hgless2, ← hgless1, ← hgless0, ← hgmore3, ← hgmore2, ← hgmore1, ← hgmore0]; exact Z1
          clear hglow0 hglow1 hglow2 hglow3 hghigh0 hghigh1 hghigh2 hghigh3 hgless0 hgless1 hgless2 hgless3 hgmore0 hgmore1 hgmore2 hgmore3 Z0 Z1 hzc hzd
          have Z0 := Z0'
          have Z1 := Z1'
          clear Z0' Z1'
          go_upto_region 22 with fail
          go_cut [173] (fun sl0  wx => sl0 = .bool false ∧ Keeps w11 wx ∧ Blk wx (w.heap.size) 23 #[.int .i64 (a), .int .i64 (b)] ∧ Blk wx (w.heap.size + 1) 23 #[.int .i64 (c), .int .i64 (d)] ∧ Blk wx (w4.heap.size) 23 #[.int .i64 (p0), .int .i64 (q0)] ∧ Blk wx (w5.heap.size) 23 #[.int .i64 (p1), .int .i64 (q1)] ∧ Blk wx (w6.heap.size) 23 #[.int .i64 (p2), .int .i64 (q2)] ∧ Blk wx (p16) 45 #[.bool na1, .slice na2 na3 na4, .bool na5, .slice na6 na7 na8, .bool nb1, .slice nb2 nb3 nb4, .bool nb5, .slice nb6 nb7 nb8, .bool nc1, .slice nc2 nc3 nc4, .bool nc5, .slice nc6 nc7 nc8, .bool nd1, .slice nd2 nd3 nd4, .bool nd5, .slice nd6 nd7 nd8] ∧ Below w.heap.size w wx)
          case first => as_aux_lemma =>
            have kk := Keeps.refl w11
            cases h0 : (e0 == 0) <;> cases h1 : (e1 == 0) <;> cases h2 : (e2 == 0)
            all_goals (first | (have z_ := Z0.out h0; obtain ⟨rfl, rfl⟩ := z_) | skip)
            all_goals (first | (have z_ := Z1.out h1; obtain ⟨rfl, rfl⟩ := z_) | skip)
            all_goals (first | have hden : (den == 0) = false := (by have := (Z2.out h2).1; simpa using this) | skip)
            all_goals go_wp2_with fail
            all_goals (go_meet; exact ⟨rfl, kk.trans keepsB, ownK, ownK, ownK, ownK, ownK, ownK, belowB⟩)
          case rest =>
            obtain ⟨rfl, kp, oa, ob, op, oq, os, ol, B⟩ := hcut
            obtain ⟨w12, hw_⟩ : ∃ x, x = wc := ⟨_, rfl⟩
            subst hw_
            replace Fna := Hid.mk_ (Fna.out.keeps kp)
            replace Fnb := Hid.mk_ (Fnb.out.keeps kp)
            replace Fnc := Hid.mk_ (Fnc.out.keeps kp)
            replace Fnd := Hid.mk_ (Fnd.out.keeps kp)
            clear kp Z0 Z1
            cases h2 : (e2 == 0)
            case false =>
              go_wp2
              go_returns
              exact ⟨rfl, belowB⟩
            case true =>
              obtain ⟨hden, HL⟩ := Z2.out h2
              have ofc := fun w' => rof num den w' n0 n1 d0 d1 hden
              have sq := sz_frac (x := num) (y := den) (k := 2) hden (absN_two n0 (by omega)) (absN_two d0 (by omega))
              go_wp2_with fail
              refine (rofQ num den _ n0 n1 d0 d1 hden).mono ?_
              rintro e w13 ⟨vof, rfl, hvof, hb13⟩
              have st : Steps _ w13 := hb13
              have sk : Below w12.heap.size w12 w13 := belowA st
              replace B := below_steps B (Nat.le_refl _) sk
              replace oa := oa.steps sk
              replace ob := ob.steps sk
              replace op := op.steps sk
              replace oq := oq.steps sk
              replace os := os.steps sk
              replace ol := ol.steps sk
              replace Fna := Hid.mk_ (Fna.out.steps sk)
              replace Fnb := Hid.mk_ (Fnb.out.steps sk)
              replace Fnc := Hid.mk_ (Fnc.out.steps sk)
              replace Fnd := Hid.mk_ (Fnd.out.steps sk)
              clear st sk
              have cl0 := ol.q0
              have cl1 := ol.q1
              have cl2 := ol.q2
              have cl3 := ol.q3
              have cl4 := ol.q4
              have cl5 := ol.q5
              have cl6 := ol.q6
              have cl7 := ol.q7
              have cl8 := ol.q8
              have cl9 := ol.q9
              have cl10 := ol.q10
              have cl11 := ol.q11
              have cl12 := ol.q12
              have cl13 := ol.q13
              have cl14 := ol.q14
              have cl15 := ol.q15
              have ll := ol.lt
              obtain ⟨of1, of2, of3, of4, of5, of6, of7, of8, rfl⟩ := hvof.shape
              have Fof := Hid.mk_ hvof
              clear hvof
              have zl_13 : p16 < w13.heap.size := ol.lt
              have zz13 := B.size
              go_wp2_with fail
              refine (rTimesQ _ (Fna.out.keeps keepsB) (Fof.out.keeps keepsB) sa sq (by omega)).mono ?_
              rintro e w14 ⟨vr9_, rfl, hvr9_, hb14⟩
              have st : Steps _ w14 := hb14
              have sk : Below w13.heap.size w13 w14 := belowA st
              replace B := below_steps B (Nat.le_refl _) sk
              have ot : Blk w14 (w13.heap.size) 31 #[.bool of1, .slice of2 of3 of4, .bool of5, .slice of6 of7 of8] := Blk.stepsK st
              replace oa := oa.steps sk
              replace ob := ob.steps sk
              replace op := op.steps sk
              replace oq := oq.steps sk
              replace os := os.steps sk
              replace ol := ol.steps sk
              replace Fna := Hid.mk_ (Fna.out.steps sk)
              replace Fnb := Hid.mk_ (Fnb.out.steps sk)
              replace Fnc := Hid.mk_ (Fnc.out.steps sk)
              replace Fnd := Hid.mk_ (Fnd.out.steps sk)
              replace Fof := Hid.mk_ (Fof.out.steps sk)
              clear st sk cl0 cl1 cl2 cl3 cl4 cl5 cl6 cl7 cl8 cl9 cl10 cl11 cl12 cl13 cl14 cl15 ll
              have cl0 := ol.q0
              have cl1 := ol.q1
              have cl2 := ol.q2
              have cl3 := ol.q3
              have cl4 := ol.q4
              have cl5 := ol.q5
              have cl6 := ol.q6
              have cl7 := ol.q7
              have cl8 := ol.q8
              have cl9 := ol.q9
              have cl10 := ol.q10
              have cl11 := ol.q11
              have cl12 := ol.q12
              have cl13 := ol.q13
              have cl14 := ol.q14
              have cl15 := ol.q15
              have ll := ol.lt
              have ct0 := ot.q0
              have ct1 := ot.q1
              have ct2 := ot.q2
              have ct3 := ot.q3
              have lt := ot.lt
              obtain ⟨r9_1, r9_2, r9_3, r9_4, r9_5, r9_6, r9_7, r9_8, rfl⟩ := hvr9_.shape
              have Fr9_ := Hid.mk_ hvr9_
              clear hvr9_
              have zt_14 : w13.heap.size < w14.heap.size := ot.lt
              have zz14 := B.size
              go_wp2_with fail
              refine (rTimesQ _ (Fnb.out.keeps keepsB) (Fof.out.keeps keepsB) sb sq (by omega)).mono ?_
              rintro e w15 ⟨vr10_, rfl, hvr10_, hb15⟩
              have st : Steps _ w15 := hb15
              have sk : Below w14.heap.size w14 w15 := belowA st
              replace B := below_steps B (Nat.le_refl _) sk
              have ou : Blk w15 (w14.heap.size) 31 #[.bool r9_1, .slice r9_2 r9_3 r9_4, .bool r9_5, .slice r9_6 r9_7 r9_8] := Blk.stepsK st
              replace oa := oa.steps sk
              replace ob := ob.steps sk
              replace op := op.steps sk
              replace oq := oq.steps sk
              replace os := os.steps sk
              replace ol := ol.steps sk
              replace ot := ot.steps sk
              replace Fna := Hid.mk_ (Fna.out.steps sk)
              replace Fnb := Hid.mk_ (Fnb.out.steps sk)
              replace Fnc := Hid.mk_ (Fnc.out.steps sk)
              replace Fnd := Hid.mk_ (Fnd.out.steps sk)
              replace Fof := Hid.mk_ (Fof.out.steps sk)
              replace Fr9_ := Hid.mk_ (Fr9_.out.steps sk)
              clear st sk cl0 cl1 cl2 cl3 cl4 cl5 cl6 cl7 cl8 cl9 cl10 cl11 cl12 cl13 cl14 cl15 ll ct0 ct1 ct2 ct3 lt
              have cu0 := ou.q0
              have cu1 := ou.q1
              have cu2 := ou.q2
              have cu3 := ou.q3
              have lu := ou.lt
              obtain ⟨r10_1, r10_2, r10_3, r10_4, r10_5, r10_6, r10_7, r10_8, rfl⟩ := hvr10_.shape
              have Fr10_ := Hid.mk_ hvr10_
              clear hvr10_
              have zu_15 : w14.heap.size < w15.heap.size := ou.lt
              have zz15 := B.size
              obtain ⟨cc, hcc⟩ : ∃ c, cmpQ (unitQ a * ((num : Rat) / (den : Rat))) (unitQ b * ((num : Rat) / (den : Rat))) = c := ⟨_, rfl⟩
              have cm : ∀ w' u v, FR w' u (unitQ a * ((num : Rat) / (den : Rat))) → FR w' v (unitQ b * ((num : Rat) / (den : Rat))) → Calls Tryz.prog 20 #[u, v] w' fun e w2 => e = .returned (.tuple #[.int .i64 cc, .int .i64 0]) ∧ Steps w' w2 := fun w' u v h1 h2 => by rw [← hcc]; exact rCmpQ w' h1 h2 (sa.mul sq) (sb.mul sq) (by omega)
              go_wp2_with fail
              refine (cm _ _ _ (Fr9_.out.keeps keepsB) (Fr10_.out.keeps keepsB)).mono ?_
              rintro e w16 ⟨rfl, hb16⟩
              have st : Steps _ w16 := hb16
              have sk : Below w15.heap.size w15 w16 := belowA st
              replace B := below_steps B (Nat.le_refl _) sk
              have ov : Blk w16 (w15.heap.size) 31 #[.bool r10_1, .slice r10_2 r10_3 r10_4, .bool r10_5, .slice r10_6 r10_7 r10_8] := Blk.stepsK st
              replace oa := oa.steps sk
              replace ob := ob.steps sk
              replace op := op.steps sk
              replace oq := oq.steps sk
              replace os := os.steps sk
              replace ol := ol.steps sk
              replace ot := ot.steps sk
              replace ou := ou.steps sk
              replace Fna := Hid.mk_ (Fna.out.steps sk)
              replace Fnb := Hid.mk_ (Fnb.out.steps sk)
              replace Fnc := Hid.mk_ (Fnc.out.steps sk)
              replace Fnd := Hid.mk_ (Fnd.out.steps sk)
              replace Fof := Hid.mk_ (Fof.out.steps sk)
              replace Fr9_ := Hid.mk_ (Fr9_.out.steps sk)
              replace Fr10_ := Hid.mk_ (Fr10_.out.steps sk)
              clear st sk cu0 cu1 cu2 cu3 lu
              have cs0 := os.q0
              have cs1 := os.q1
              have ls := os.lt
              have cu0 := ou.q0
              have cu1 := ou.q1
              have cu2 := ou.q2
              have cu3 := ou.q3
              have fu := ou.fr
              have lu := ou.lt
              have cv0 := ov.q0
              have cv1 := ov.q1
              have cv2 := ov.q2
              have cv3 := ov.q3
              have fv := ov.fr
              have lv := ov.lt
              by_cases hx : cc > 0
              · have hxy := cmpQ_gt.1 (hcc ▸ hx)
                have hn := HL.2 hxy
                have nrd : ∀ w' v, FR w' v (unitQ b * ((num : Rat) / (den : Rat))) → Calls Tryz.prog 22 #[.int .i64 p2, v, .bool false] w' fun e w2 => e = .returned (.bool true) ∧ Steps w' w2 := fun w' v hv => by have := lnear_nd p2 w' hv (sb.mul sq) (by omega) b2.1 b2.2.1; rwa [decide_eq_true hn.1] at this
                have nru : ∀ w' v, FR w' v (unitQ a * ((num : Rat) / (den : Rat))) → Calls Tryz.prog 22 #[.int .i64 q2, v, .bool true] w' fun e w2 => e = .returned (.bool true) ∧ Steps w' w2 := fun w' v hv => by have := lnear_nu q2 w' hv (sa.mul sq) (by omega) b2.2.2.1 b2.2.2.2; rwa [decide_eq_true hn.2] at this
                clear hn hxy HL Z2 hcc cm ofc
                go_wp2_with fail
                refine (nrd _ _ (Fr10_.out.keeps keepsB)).mono ?_
                rintro e w17 ⟨rfl, hb17⟩
                have st : Steps _ w17 := hb17
                have Bn : Below w.heap.size w w17 := belowA st
                have kp : Keeps w16 w17 := Keeps.then_ keepsB st
                have na : Blk w17 (w.heap.size) 23 #[.int .i64 (a), .int .i64 (b)] := Blk.stepsK st
                have nb : Blk w17 (w.heap.size + 1) 23 #[.int .i64 (c), .int .i64 (d)] := Blk.stepsK st
                have np : Blk w17 (w4.heap.size) 23 #[.int .i64 (p0), .int .i64 (q0)] := Blk.stepsK st
                have nq : Blk w17 (w5.heap.size) 23 #[.int .i64 (p1), .int .i64 (q1)] := Blk.stepsK st
                have ns : Blk w17 (w6.heap.size) 23 #[.int .i64 (p2), .int .i64 (q2)] := Blk.stepsK st
                have nl : Blk w17 (p16) 45 #[.bool na1, .slice na2 na3 na4, .bool na5, .slice na6 na7 na8, .bool nb1, .slice nb2 nb3 nb4, .bool nb5, .slice nb6 nb7 nb8, .bool nc1, .slice nc2 nc3 nc4, .bool nc5, .slice nc6 nc7 nc8, .bool nd1, .slice nd2 nd3 nd4, .bool nd5, .slice nd6 nd7 nd8] := Blk.stepsK st
                have nt : Blk w17 (w13.heap.size) 31 #[.bool of1, .slice of2 of3 of4, .bool of5, .slice of6 of7 of8] := Blk.stepsK st
                have nu : Blk w17 (w14.heap.size) 31 #[.bool r10_1, .slice r10_2 r10_3 r10_4, .bool r10_5, .slice r10_6 r10_7 r10_8] := Blk.stepsK st
                have nv : Blk w17 (w15.heap.size) 31 #[.bool r9_1, .slice r9_2 r9_3 r9_4, .bool r9_5, .slice r9_6 r9_7 r9_8] := Blk.stepsK st
                clear cs0 cs1 ls cu0 cu1 cu2 cu3 fu lu cv0 cv1 cv2 cv3 fv lv
                replace B := Bn
                replace oa := na
                clear na
                replace ob := nb
                clear nb
                replace op := np
                clear np
                replace oq := nq
                clear nq
                replace os := ns
                clear ns
                replace ol := nl
                clear nl
                replace ot := nt
                clear nt
                replace ou := nu
                clear nu
                replace ov := nv
                clear nv
                replace Fna := Hid.mk_ (Fna.out.keeps kp)
                replace Fnb := Hid.mk_ (Fnb.out.keeps kp)
                replace Fnc := Hid.mk_ (Fnc.out.keeps kp)
                replace Fnd := Hid.mk_ (Fnd.out.keeps kp)
                replace Fof := Hid.mk_ (Fof.out.keeps kp)
                replace Fr9_ := Hid.mk_ (Fr9_.out.keeps kp)
                replace Fr10_ := Hid.mk_ (Fr10_.out.keeps kp)
                clear kp
                clear st
                have cs0 := os.q0
                have cs1 := os.q1
                have ls := os.lt
                have cv0 := ov.q0
                have cv1 := ov.q1
                have cv2 := ov.q2
                have cv3 := ov.q3
                have lv := ov.lt
                go_wp2_with fail
                refine (nru _ _ (Fr9_.out.keeps keepsB)).mono ?_
                rintro e w18 ⟨rfl, hb18⟩
                have st : Steps _ w18 := hb18
                have sk : Below w17.heap.size w17 w18 := belowA st
                replace B := below_steps B (Nat.le_refl _) sk
                replace oa := oa.steps sk
                replace ob := ob.steps sk
                replace op := op.steps sk
                replace oq := oq.steps sk
                replace os := os.steps sk
                replace ol := ol.steps sk
                replace ot := ot.steps sk
                replace ou := ou.steps sk
                replace ov := ov.steps sk
                replace Fna := Hid.mk_ (Fna.out.steps sk)
                replace Fnb := Hid.mk_ (Fnb.out.steps sk)
                replace Fnc := Hid.mk_ (Fnc.out.steps sk)
                replace Fnd := Hid.mk_ (Fnd.out.steps sk)
                replace Fof := Hid.mk_ (Fof.out.steps sk)
                replace Fr9_ := Hid.mk_ (Fr9_.out.steps sk)
                replace Fr10_ := Hid.mk_ (Fr10_.out.steps sk)
                clear st sk cs0 cs1 ls cv0 cv1 cv2 cv3 lv
                go_wp2
                go_returns
                exact ⟨rfl, belowB⟩
              · have hxy := Rat.not_lt.1 (fun h => hx (hcc ▸ cmpQ_gt.2 h))
                have hn := HL.1 hxy
                have nrd : ∀ w' v, FR w' v (unitQ a * ((num : Rat) / (den : Rat))) → Calls Tryz.prog 22 #[.int .i64 p2, v, .bool false] w' fun e w2 => e = .returned (.bool true) ∧ Steps w' w2 := fun w' v hv => by have := lnear_nd p2 w' hv (sa.mul sq) (by omega) b2.1 b2.2.1; rwa [decide_eq_true hn.1] at this
                have nru : ∀ w' v, FR w' v (unitQ b * ((num : Rat) / (den : Rat))) → Calls Tryz.prog 22 #[.int .i64 q2, v, .bool true] w' fun e w2 => e = .returned (.bool true) ∧ Steps w' w2 := fun w' v hv => by have := lnear_nu q2 w' hv (sb.mul sq) (by omega) b2.2.2.1 b2.2.2.2; rwa [decide_eq_true hn.2] at this
                clear hn hxy HL Z2 hcc cm ofc
                go_wp2_with fail
                refine (nrd _ _ (Fr9_.out.keeps keepsB)).mono ?_
                rintro e w17 ⟨rfl, hb17⟩
                have st : Steps _ w17 := hb17
                have sk : Below w16.heap.size w16 w17 := belowA st
                replace B := below_steps B (Nat.le_refl _) sk
                replace oa := oa.steps sk
                replace ob := ob.steps sk
                replace op := op.steps sk
                replace oq := oq.steps sk
                replace os := os.steps sk
                replace ol := ol.steps sk
                replace ot := ot.steps sk
                replace ou := ou.steps sk
                replace ov := ov.steps sk
                replace Fna := Hid.mk_ (Fna.out.steps sk)
                replace Fnb := Hid.mk_ (Fnb.out.steps sk)
                replace Fnc := Hid.mk_ (Fnc.out.steps sk)
                replace Fnd := Hid.mk_ (Fnd.out.steps sk)
                replace Fof := Hid.mk_ (Fof.out.steps sk)
                replace Fr9_ := Hid.mk_ (Fr9_.out.steps sk)
                replace Fr10_ := Hid.mk_ (Fr10_.out.steps sk)
                clear st sk cs0 cs1 ls cu0 cu1 cu2 cu3 fu lu cv0 cv1 cv2 cv3 fv lv
                have cs0 := os.q0
                have cs1 := os.q1
                have ls := os.lt
                have cv0 := ov.q0
                have cv1 := ov.q1
                have cv2 := ov.q2
                have cv3 := ov.q3
                have lv := ov.lt
                go_wp2_with fail
                refine (nru _ _ (Fr10_.out.keeps keepsB)).mono ?_
                rintro e w18 ⟨rfl, hb18⟩
                have st : Steps _ w18 := hb18
                have sk : Below w17.heap.size w17 w18 := belowA st
                replace B := below_steps B (Nat.le_refl _) sk
                replace oa := oa.steps sk
                replace ob := ob.steps sk
                replace op := op.steps sk
                replace oq := oq.steps sk
                replace os := os.steps sk
                replace ol := ol.steps sk
                replace ot := ot.steps sk
                replace ou := ou.steps sk
                replace ov := ov.steps sk
                replace Fna := Hid.mk_ (Fna.out.steps sk)
                replace Fnb := Hid.mk_ (Fnb.out.steps sk)
                replace Fnc := Hid.mk_ (Fnc.out.steps sk)
                replace Fnd := Hid.mk_ (Fnd.out.steps sk)
                replace Fof := Hid.mk_ (Fof.out.steps sk)
                replace Fr9_ := Hid.mk_ (Fr9_.out.steps sk)
                replace Fr10_ := Hid.mk_ (Fr10_.out.steps sk)
                clear st sk cs0 cs1 ls cv0 cv1 cv2 cv3 lv
                go_wp2
                go_returns
                exact ⟨rfl, belowB⟩
end Go.Proofs.YtalnlnpnacfdfaaGreat
