import Derived.Test.YtibdehlmflaodaaGreatNQd
import Derived.Test.YtibdehlmflaodaaGreatNRow
set_option linter.unusedVariables false
set_option linter.unusedSimpArgs false
namespace Go.Proofs.YtibdehlmflaodaaGreat
open Go.RowKit
def QD (w : World) (v : Value) (k0 k1 k2 k3 : Int) (r0 r1 r2 r3 : Rat) : Prop :=
 ∃ a b c d e f g h i j k l m n o p, v = .agg #[.int .i64 k0, .int .i64 k1, .int .i64 k2, .int .i64 k3, a, b, c, d, e, f, g, h, i, j, k, l, m, n, o, p] ∧
  FR w (.agg #[a, b, c, d]) r0 ∧ FR w (.agg #[e, f, g, h]) r1 ∧ FR w (.agg #[i, j, k, l]) r2 ∧ FR w (.agg #[m, n, o, p]) r3
theorem QD.keeps {w w' : World} {v : Value} {k0 k1 k2 k3 : Int} {r0 r1 r2 r3 : Rat} (h : QD w v k0 k1 k2 k3 r0 r1 r2 r3) (k : Keeps w w') : QD w' v k0 k1 k2 k3 r0 r1 r2 r3 := by
 obtain ⟨a, b, c, d, e, f, g, h, i, j, k', l, m, n, o, p, e1, f0, f1, f2, f3⟩ := h
 exact ⟨a, b, c, d, e, f, g, h, i, j, k', l, m, n, o, p, e1, f0.keeps k, f1.keeps k, f2.keeps k, f3.keeps k⟩
theorem QD.steps {w w' : World} {v : Value} {k0 k1 k2 k3 : Int} {r0 r1 r2 r3 : Rat} (h : QD w v k0 k1 k2 k3 r0 r1 r2 r3) (k : Steps w w') : QD w' v k0 k1 k2 k3 r0 r1 r2 r3 := h.keeps (Keeps.steps k)
set_option maxHeartbeats 6400000 in
set_option maxRecDepth 1000000 in
theorem qquad (k0 k1 k2 k3 A1 A2 B1 B2 N : Int) (w : World) (hA1 : -9223372036854775808 ≤ A1 ∧ A1 ≤ 9223372036854775807) (hA2 : -9223372036854775808 ≤ A2 ∧ A2 ≤ 9223372036854775807) (hB1 : -9223372036854775808 ≤ B1 ∧ B1 ≤ 9223372036854775807) (hB2 : -9223372036854775808 ≤ B2 ∧ B2 ≤ 9223372036854775807) (hN : 0 < N ∧ N ≤ 9223372036854775807) :
  Calls Tryz.prog 18 #[.agg #[.int .i64 k0, .int .i64 k1, .int .i64 k2, .int .i64 k3, .int .i64 A1, .int .i64 A2, .int .i64 B1, .int .i64 B2, .int .i64 N]] w fun e w' =>
   ∃ v, e = .returned (.tuple #[v, .int .i64 0]) ∧ QD w' v k0 k1 k2 k3 ((A1 : Rat) / (N : Rat)) ((A2 : Rat) / (N : Rat)) ((B1 : Rat) / (N : Rat)) ((B2 : Rat) / (N : Rat)) ∧ Steps w w' := by
 have o0 := fun w' => fofQ A1 N w' hA1.1 hA1.2 (by omega) hN.2 (by omega)
 have o1 := fun w' => fofQ A2 N w' hA2.1 hA2.2 (by omega) hN.2 (by omega)
 have o2 := fun w' => fofQ B1 N w' hB1.1 hB1.2 (by omega) hN.2 (by omega)
 have o3 := fun w' => fofQ B2 N w' hB2.1 hB2.2 (by omega) hN.2 (by omega)
 clear hA1 hA2 hB1 hB2 hN
 have ix0 : ∀ w' : World, (Instr.index 55 (.agg #[.int .i64 A1, .int .i64 A2, .int .i64 B1, .int .i64 B2]) (.int .i64 0)).run Tryz.prog w' = .ok (.int .i64 A1) w' := fun w' => by kernel_rfl
 have ix1 : ∀ w' : World, (Instr.index 55 (.agg #[.int .i64 A1, .int .i64 A2, .int .i64 B1, .int .i64 B2]) (.int .i64 1)).run Tryz.prog w' = .ok (.int .i64 A2) w' := fun w' => by kernel_rfl
 have ix2 : ∀ w' : World, (Instr.index 55 (.agg #[.int .i64 A1, .int .i64 A2, .int .i64 B1, .int .i64 B2]) (.int .i64 2)).run Tryz.prog w' = .ok (.int .i64 B1) w' := fun w' => by kernel_rfl
 have ix3 : ∀ w' : World, (Instr.index 55 (.agg #[.int .i64 A1, .int .i64 A2, .int .i64 B1, .int .i64 B2]) (.int .i64 3)).run Tryz.prog w' = .ok (.int .i64 B2) w' := fun w' => by kernel_rfl
 go_enter Tryz.func18, Tryz.ntmps18
 go_wp2_with (first
  | (
    refine build_big rfl 33 #[(0, .tmp 10)] rfl #[.int .i64 k0, .int .i64 k1, .int .i64 k2, .int .i64 k3, .bool false, .slice none 0 0, .bool false, .slice none 0 0, .bool false, .slice none 0 0, .bool false, .slice none 0 0, .bool false, .slice none 0 0, .bool false, .slice none 0 0, .bool false, .slice none 0 0, .bool false, .slice none 0 0] (by kernel_rfl) ?_
    skip)
  | (
    refine store_big rfl 33 (.tmp 4) (.tmp 11) rfl (w.heap.size + 1 + 1) #[.int .i64 k0, .int .i64 k1, .int .i64 k2, .int .i64 k3, .bool false, .slice none 0 0, .bool false, .slice none 0 0, .bool false, .slice none 0 0, .bool false, .slice none 0 0, .bool false, .slice none 0 0, .bool false, .slice none 0 0, .bool false, .slice none 0 0, .bool false, .slice none 0 0] rfl rfl 33 #[.int .i64 0, .int .i64 0, .int .i64 0, .int .i64 0, .bool false, .slice none 0 0, .bool false, .slice none 0 0, .bool false, .slice none 0 0, .bool false, .slice none 0 0, .bool false, .slice none 0 0, .bool false, .slice none 0 0, .bool false, .slice none 0 0, .bool false, .slice none 0 0] ownK (by kernel_rfl) rfl (by simp [Value.oneCell']) (fun w1 hrow => ?_)
    have Bn : Below w.heap.size w w1 := hrow.below belowB (by omega)
    have oa : Blk w1 (w.heap.size) 57 #[.int .i64 k0, .int .i64 k1, .int .i64 k2, .int .i64 k3, .int .i64 A1, .int .i64 A2, .int .i64 B1, .int .i64 B2, .int .i64 N] := hrow.far ownK (show w.heap.size ≠ w.heap.size + 1 + 1 by omega)
    have or : Blk w1 (w.heap.size + 1) 33 #[.int .i64 0, .int .i64 0, .int .i64 0, .int .i64 0, .bool false, .slice none 0 0, .bool false, .slice none 0 0, .bool false, .slice none 0 0, .bool false, .slice none 0 0, .bool false, .slice none 0 0, .bool false, .slice none 0 0, .bool false, .slice none 0 0, .bool false, .slice none 0 0] := hrow.far ownK (show w.heap.size + 1 ≠ w.heap.size + 1 + 1 by omega)
    have oq : Blk w1 (w.heap.size + 1 + 1) 33 #[.int .i64 k0, .int .i64 k1, .int .i64 k2, .int .i64 k3, .bool false, .slice none 0 0, .bool false, .slice none 0 0, .bool false, .slice none 0 0, .bool false, .slice none 0 0, .bool false, .slice none 0 0, .bool false, .slice none 0 0, .bool false, .slice none 0 0, .bool false, .slice none 0 0] := hrow.blk
    have B := Bn
    clear Bn hrow
    obtain ⟨ca0, ca1, ca2, ca3, ca4, ca5, ca6, ca7, ca8⟩ := oa.r8
    have la := oa.lt
    have lr := or.lt
    have lq := oq.lt
    skip)
  )
 skip
 refine wp_loop_rounds 5 ?_
 rw [rounds_succ]
 go_wp2_with fail
 refine (o0 _).mono ?_
 rintro e w2 ⟨vf0_, rfl, hvf0_, hb2⟩
 have st : Steps _ w2 := hb2
 have sk : Below w1.heap.size w1 w2 := belowA st
 replace B := below_steps B (Nat.le_refl _) sk
 replace oa := oa.steps sk
 replace or := or.steps sk
 replace oq := oq.steps sk
 clear st sk ca0 ca1 ca2 ca3 ca4 ca5 ca6 ca7 ca8 la lr lq
 obtain ⟨ca0, ca1, ca2, ca3, ca4, ca5, ca6, ca7, ca8⟩ := oa.r8
 have la := oa.lt
 have lr := or.lt
 obtain ⟨cq0, cq1, cq2, cq3, cq4, cq5, cq6, cq7, cq8, cq9, cq10, cq11, cq12, cq13, cq14, cq15, cq16, cq17, cq18, cq19, fq, lq⟩ := oq.s19
 obtain ⟨f0_1, f0_2, f0_3, f0_4, f0_5, f0_6, f0_7, f0_8, rfl⟩ := hvf0_.shape
 have Ff0_ := Hid.mk_ hvf0_
 clear hvf0_
 clear o0
 have zq_2 : w.heap.size + 1 + 1 < w2.heap.size := oq.lt
 have zz2 := B.size
 go_wp2_with fail
 rw [rounds_succ]
 go_wp2_with fail
 refine (o1 _).mono ?_
 rintro e w3 ⟨vf1_, rfl, hvf1_, hb3⟩
 have st : Steps _ w3 := hb3
 have Bn : Below w.heap.size w w3 := belowA st
 have kp : Keeps w2 w3 := Keeps.then_ keepsB st
 replace oa : Blk w3 (w.heap.size) 57 #[.int .i64 k0, .int .i64 k1, .int .i64 k2, .int .i64 k3, .int .i64 A1, .int .i64 A2, .int .i64 B1, .int .i64 B2, .int .i64 N] := Blk.stepsK st
 replace or : Blk w3 (w.heap.size + 1) 33 #[.int .i64 0, .int .i64 0, .int .i64 0, .int .i64 0, .bool false, .slice none 0 0, .bool false, .slice none 0 0, .bool false, .slice none 0 0, .bool false, .slice none 0 0, .bool false, .slice none 0 0, .bool false, .slice none 0 0, .bool false, .slice none 0 0, .bool false, .slice none 0 0] := Blk.stepsK st
 replace oq : Blk w3 (w.heap.size + 1 + 1) 33 #[.int .i64 k0, .int .i64 k1, .int .i64 k2, .int .i64 k3, .bool f0_1, .slice f0_2 f0_3 f0_4, .bool f0_5, .slice f0_6 f0_7 f0_8, .bool false, .slice none 0 0, .bool false, .slice none 0 0, .bool false, .slice none 0 0, .bool false, .slice none 0 0, .bool false, .slice none 0 0, .bool false, .slice none 0 0] := Blk.steps ownD st
 have of0 : Blk w3 (w2.heap.size) 30 #[.bool f0_1, .slice f0_2 f0_3 f0_4, .bool f0_5, .slice f0_6 f0_7 f0_8] := Blk.stepsK st
 clear ca0 ca1 ca2 ca3 ca4 ca5 ca6 ca7 ca8 la lr cq0 cq1 cq2 cq3 cq4 cq5 cq6 cq7 cq8 cq9 cq10 cq11 cq12 cq13 cq14 cq15 cq16 cq17 cq18 cq19 fq lq
 replace B := Bn
 replace Ff0_ := Hid.mk_ (Ff0_.out.keeps kp)
 clear kp
 clear st
 obtain ⟨ca0, ca1, ca2, ca3, ca4, ca5, ca6, ca7, ca8⟩ := oa.r8
 have la := oa.lt
 have lr := or.lt
 obtain ⟨cq0, cq1, cq2, cq3, cq4, cq5, cq6, cq7, cq8, cq9, cq10, cq11, cq12, cq13, cq14, cq15, cq16, cq17, cq18, cq19, fq, lq⟩ := oq.s19
 obtain ⟨f1_1, f1_2, f1_3, f1_4, f1_5, f1_6, f1_7, f1_8, rfl⟩ := hvf1_.shape
 have Ff1_ := Hid.mk_ hvf1_
 clear hvf1_
 clear o1
 have zf0_3 : w2.heap.size < w3.heap.size := of0.lt
 have zz3 := B.size
 go_wp2_with fail
 rw [rounds_succ]
 go_wp2_with fail
 refine (o2 _).mono ?_
 rintro e w4 ⟨vf2_, rfl, hvf2_, hb4⟩
 have st : Steps _ w4 := hb4
 have Bn : Below w.heap.size w w4 := belowA st
 have kp : Keeps w3 w4 := Keeps.then_ keepsB st
 have na := oa.stp st
 have nr := or.stp st
 replace oq : Blk w4 (w.heap.size + 1 + 1) 33 #[.int .i64 k0, .int .i64 k1, .int .i64 k2, .int .i64 k3, .bool f0_1, .slice f0_2 f0_3 f0_4, .bool f0_5, .slice f0_6 f0_7 f0_8, .bool f1_1, .slice f1_2 f1_3 f1_4, .bool f1_5, .slice f1_6 f1_7 f1_8, .bool false, .slice none 0 0, .bool false, .slice none 0 0, .bool false, .slice none 0 0, .bool false, .slice none 0 0] := Blk.steps ownD st
 have nf0 := of0.stp st
 have of1 : Blk w4 (w3.heap.size) 30 #[.bool f1_1, .slice f1_2 f1_3 f1_4, .bool f1_5, .slice f1_6 f1_7 f1_8] := Blk.stepsK st
 clear ca0 ca1 ca2 ca3 ca4 ca5 ca6 ca7 ca8 la lr cq0 cq1 cq2 cq3 cq4 cq5 cq6 cq7 cq8 cq9 cq10 cq11 cq12 cq13 cq14 cq15 cq16 cq17 cq18 cq19 fq lq
 replace B := Bn
 replace oa := na
 clear na
 replace or := nr
 clear nr
 replace of0 := nf0
 clear nf0
 replace Ff0_ := Hid.mk_ (Ff0_.out.keeps kp)
 replace Ff1_ := Hid.mk_ (Ff1_.out.keeps kp)
 clear kp
 clear st
 obtain ⟨ca0, ca1, ca2, ca3, ca4, ca5, ca6, ca7, ca8⟩ := oa.r8
 have la := oa.lt
 have lr := or.lt
 obtain ⟨cq0, cq1, cq2, cq3, cq4, cq5, cq6, cq7, cq8, cq9, cq10, cq11, cq12, cq13, cq14, cq15, cq16, cq17, cq18, cq19, fq, lq⟩ := oq.s19
 obtain ⟨f2_1, f2_2, f2_3, f2_4, f2_5, f2_6, f2_7, f2_8, rfl⟩ := hvf2_.shape
 have Ff2_ := Hid.mk_ hvf2_
 clear hvf2_
 clear o2
 have zf1_4 : w3.heap.size < w4.heap.size := of1.lt
 have zz4 := B.size
 go_wp2_with fail
 rw [rounds_succ]
 go_wp2_with fail
 refine (o3 _).mono ?_
 rintro e w5 ⟨vf3_, rfl, hvf3_, hb5⟩
 have st : Steps _ w5 := hb5
 have Bn : Below w.heap.size w w5 := belowA st
 have kp : Keeps w4 w5 := Keeps.then_ keepsB st
 have na := oa.stp st
 have nr := or.stp st
 replace oq : Blk w5 (w.heap.size + 1 + 1) 33 #[.int .i64 k0, .int .i64 k1, .int .i64 k2, .int .i64 k3, .bool f0_1, .slice f0_2 f0_3 f0_4, .bool f0_5, .slice f0_6 f0_7 f0_8, .bool f1_1, .slice f1_2 f1_3 f1_4, .bool f1_5, .slice f1_6 f1_7 f1_8, .bool f2_1, .slice f2_2 f2_3 f2_4, .bool f2_5, .slice f2_6 f2_7 f2_8, .bool false, .slice none 0 0, .bool false, .slice none 0 0] := Blk.steps ownD st
 have nf0 := of0.stp st
 have nf1 := of1.stp st
 have of2 : Blk w5 (w4.heap.size) 30 #[.bool f2_1, .slice f2_2 f2_3 f2_4, .bool f2_5, .slice f2_6 f2_7 f2_8] := Blk.stepsK st
 clear ca0 ca1 ca2 ca3 ca4 ca5 ca6 ca7 ca8 la lr cq0 cq1 cq2 cq3 cq4 cq5 cq6 cq7 cq8 cq9 cq10 cq11 cq12 cq13 cq14 cq15 cq16 cq17 cq18 cq19 fq lq
 replace B := Bn
 replace oa := na
 clear na
 replace or := nr
 clear nr
 replace of0 := nf0
 clear nf0
 replace of1 := nf1
 clear nf1
 replace Ff0_ := Hid.mk_ (Ff0_.out.keeps kp)
 replace Ff1_ := Hid.mk_ (Ff1_.out.keeps kp)
 replace Ff2_ := Hid.mk_ (Ff2_.out.keeps kp)
 clear kp
 clear st
 have la := oa.lt
 have lr := or.lt
 obtain ⟨cq0, cq1, cq2, cq3, cq4, cq5, cq6, cq7, cq8, cq9, cq10, cq11, cq12, cq13, cq14, cq15, cq16, cq17, cq18, cq19, fq, lq⟩ := oq.s19
 obtain ⟨f3_1, f3_2, f3_3, f3_4, f3_5, f3_6, f3_7, f3_8, rfl⟩ := hvf3_.shape
 have Ff3_ := Hid.mk_ hvf3_
 clear hvf3_
 clear o3
 have zf2_5 : w4.heap.size < w5.heap.size := of2.lt
 have zz5 := B.size
 go_wp2_with fail
 rw [rounds_succ]
 go_wp2_with (first
  | (
    refine load_big rfl 33 (.tmp 4) rfl (w.heap.size + 1 + 1) rfl 33 #[.int .i64 k0, .int .i64 k1, .int .i64 k2, .int .i64 k3, .bool f0_1, .slice f0_2 f0_3 f0_4, .bool f0_5, .slice f0_6 f0_7 f0_8, .bool f1_1, .slice f1_2 f1_3 f1_4, .bool f1_5, .slice f1_6 f1_7 f1_8, .bool f2_1, .slice f2_2 f2_3 f2_4, .bool f2_5, .slice f2_6 f2_7 f2_8, .bool f3_1, .slice f3_2 f3_3 f3_4, .bool f3_5, .slice f3_6 f3_7 f3_8] _ ownD Tryz.underlying33 rfl (by kernel_rfl) ?_
    skip)
  | (
    refine store_big rfl 33 (.tmp 2) (.tmp 34) rfl (w.heap.size + 1) #[.int .i64 k0, .int .i64 k1, .int .i64 k2, .int .i64 k3, .bool f0_1, .slice f0_2 f0_3 f0_4, .bool f0_5, .slice f0_6 f0_7 f0_8, .bool f1_1, .slice f1_2 f1_3 f1_4, .bool f1_5, .slice f1_6 f1_7 f1_8, .bool f2_1, .slice f2_2 f2_3 f2_4, .bool f2_5, .slice f2_6 f2_7 f2_8, .bool f3_1, .slice f3_2 f3_3 f3_4, .bool f3_5, .slice f3_6 f3_7 f3_8] rfl rfl 33 #[.int .i64 0, .int .i64 0, .int .i64 0, .int .i64 0, .bool false, .slice none 0 0, .bool false, .slice none 0 0, .bool false, .slice none 0 0, .bool false, .slice none 0 0, .bool false, .slice none 0 0, .bool false, .slice none 0 0, .bool false, .slice none 0 0, .bool false, .slice none 0 0] ownK (by kernel_rfl) rfl (by simp [Value.oneCell']) (fun w6 hrow => ?_)
    have Bn : Below w.heap.size w w6 := hrow.below belowB (by omega)
    have kp : Keeps w5 w6 := Keeps.trans keepsB (hrow.keeps rfl)
    replace oa : Blk w6 (w.heap.size) 57 #[.int .i64 k0, .int .i64 k1, .int .i64 k2, .int .i64 k3, .int .i64 A1, .int .i64 A2, .int .i64 B1, .int .i64 B2, .int .i64 N] := hrow.far ownK (show w.heap.size ≠ w.heap.size + 1 by omega)
    replace or : Blk w6 (w.heap.size + 1) 33 #[.int .i64 k0, .int .i64 k1, .int .i64 k2, .int .i64 k3, .bool f0_1, .slice f0_2 f0_3 f0_4, .bool f0_5, .slice f0_6 f0_7 f0_8, .bool f1_1, .slice f1_2 f1_3 f1_4, .bool f1_5, .slice f1_6 f1_7 f1_8, .bool f2_1, .slice f2_2 f2_3 f2_4, .bool f2_5, .slice f2_6 f2_7 f2_8, .bool f3_1, .slice f3_2 f3_3 f3_4, .bool f3_5, .slice f3_6 f3_7 f3_8] := hrow.blk
    replace oq : Blk w6 (w.heap.size + 1 + 1) 33 #[.int .i64 k0, .int .i64 k1, .int .i64 k2, .int .i64 k3, .bool f0_1, .slice f0_2 f0_3 f0_4, .bool f0_5, .slice f0_6 f0_7 f0_8, .bool f1_1, .slice f1_2 f1_3 f1_4, .bool f1_5, .slice f1_6 f1_7 f1_8, .bool f2_1, .slice f2_2 f2_3 f2_4, .bool f2_5, .slice f2_6 f2_7 f2_8, .bool f3_1, .slice f3_2 f3_3 f3_4, .bool f3_5, .slice f3_6 f3_7 f3_8] := hrow.far ownD (show w.heap.size + 1 + 1 ≠ w.heap.size + 1 by omega)
    replace of0 : Blk w6 (w2.heap.size) 30 #[.bool f0_1, .slice f0_2 f0_3 f0_4, .bool f0_5, .slice f0_6 f0_7 f0_8] := hrow.far ownK (show w2.heap.size ≠ w.heap.size + 1 by omega)
    replace of1 : Blk w6 (w3.heap.size) 30 #[.bool f1_1, .slice f1_2 f1_3 f1_4, .bool f1_5, .slice f1_6 f1_7 f1_8] := hrow.far ownK (show w3.heap.size ≠ w.heap.size + 1 by omega)
    replace of2 : Blk w6 (w4.heap.size) 30 #[.bool f2_1, .slice f2_2 f2_3 f2_4, .bool f2_5, .slice f2_6 f2_7 f2_8] := hrow.far ownK (show w4.heap.size ≠ w.heap.size + 1 by omega)
    have of3 : Blk w6 (w5.heap.size) 30 #[.bool f3_1, .slice f3_2 f3_3 f3_4, .bool f3_5, .slice f3_6 f3_7 f3_8] := hrow.far ownK (show w5.heap.size ≠ w.heap.size + 1 by omega)
    clear la lr cq0 cq1 cq2 cq3 cq4 cq5 cq6 cq7 cq8 cq9 cq10 cq11 cq12 cq13 cq14 cq15 cq16 cq17 cq18 cq19 fq lq
    replace B := Bn
    clear Bn hrow
    replace Ff0_ := Hid.mk_ (Ff0_.out.keeps kp)
    replace Ff1_ := Hid.mk_ (Ff1_.out.keeps kp)
    replace Ff2_ := Hid.mk_ (Ff2_.out.keeps kp)
    replace Ff3_ := Hid.mk_ (Ff3_.out.keeps kp)
    clear kp
    skip)
  )
 skip
 refine bodyPost_ret (results_row2 rfl _ _ (w.heap.size + 1) rfl (cs := #[.int .i64 k0, .int .i64 k1, .int .i64 k2, .int .i64 k3, .bool f0_1, .slice f0_2 f0_3 f0_4, .bool f0_5, .slice f0_6 f0_7 f0_8, .bool f1_1, .slice f1_2 f1_3 f1_4, .bool f1_5, .slice f1_6 f1_7 f1_8, .bool f2_1, .slice f2_2 f2_3 f2_4, .bool f2_5, .slice f2_6 f2_7 f2_8, .bool f3_1, .slice f3_2 f3_3 f3_4, .bool f3_5, .slice f3_6 f3_7 f3_8]) ownK Tryz.underlying33 rfl (by kernel_rfl)) rfl ?_
 exact ⟨_, rfl, ⟨_, _, _, _, _, _, _, _, _, _, _, _, _, _, _, _, rfl, Ff0_.out.keeps keepsB, Ff1_.out.keeps keepsB, Ff2_.out.keeps keepsB, Ff3_.out.keeps keepsB⟩, belowB⟩
end Go.Proofs.YtibdehlmflaodaaGreat
