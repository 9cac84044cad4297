import Derived.Test.YtalnlnpnacfdfaaGreatCHoldsM
import Derived.Test.YtalnlnpnacfdfaaGreatCAlive
import Derived.Test.YtalnlnpnacfdfaaGreatCLawD
namespace Go.Proofs.YtalnlnpnacfdfaaGreat
open Go.RowKit
theorem FR.len {w : World} {a : Bool} {s : Option Addr} {n c : Nat} {b : Bool} {t : Value} {r : Rat} (h : FR w (.agg #[.bool a, .slice s n c, .bool b, t]) r) : n = 0 ↔ r = 0 := by
  obtain ⟨ap, np, cp, aq, nq, cq, e, _, _, hn⟩ := h.nums
  simp only [Value.agg.injEq, Array.mk.injEq, List.cons.injEq, Value.slice.injEq] at e
  rw [e.2.1.2.1]; exact hn
set_option maxHeartbeats 6400000 in
set_option maxRecDepth 1000000 in
theorem holds_bad (a b c d k n : Int) (w : World) (hv : ¬ (V a b ∧ V c d)) : Calls Tryz.prog 3 #[.agg #[.int .i64 a, .int .i64 b], .agg #[.int .i64 c, .int .i64 d], .int .u64 k, .int .u64 n] w fun e w' => e = .returned (.bool true) ∧ Below w.heap.size w w' := by
  by_cases h1 : V a b
  · have E1 : errV (V a b) = 0 := if_pos h1
    have E2 : errV (V c d) = 8 := if_neg (fun h => hv ⟨h1, h⟩)
    have k1 := fun w' => rcheck3 a b w'
    have k2 := fun w' => rcheck3 c d w'
    rw [E1] at k1
    rw [E2] at k2
    clear E1 E2 h1 hv
    go_enter Tryz.func3, Tryz.ntmps3
    go_wp2_with fail
    refine (lalive _).mono ?_
    rintro e w1 ⟨rfl, hb1⟩
    have st : Steps _ w1 := hb1
    have Bn : Below w.heap.size w w1 := belowA st
    have na : Blk w1 (w.heap.size) 23 #[.int .i64 (a), .int .i64 (b)] := Blk.stepsK st
    have nb : Blk w1 (w.heap.size + 1) 23 #[.int .i64 (c), .int .i64 (d)] := Blk.stepsK st
    clear st
    have B := Bn
    clear Bn
    have oa := na
    clear na
    have ca0 : World.cell? w1 ⟨w.heap.size, 0, none⟩ = some (.int .i64 (a)) := oa.c 0 rfl
    have ca1 : World.cell? w1 ⟨w.heap.size, 1, none⟩ = some (.int .i64 (b)) := oa.c 1 rfl
    have fa := oa.fr
    have la := oa.lt
    have ob := nb
    clear nb
    have cb0 : World.cell? w1 ⟨w.heap.size + 1, 0, none⟩ = some (.int .i64 (c)) := ob.c 0 rfl
    have cb1 : World.cell? w1 ⟨w.heap.size + 1, 1, none⟩ = some (.int .i64 (d)) := ob.c 1 rfl
    have fb := ob.fr
    have lb := ob.lt
    go_wp2_with fail
    refine (k1 _).mono ?_
    rintro e w2 ⟨rfl, hb2⟩
    have st : Steps _ w2 := hb2
    have Bn : Below w.heap.size w w2 := belowA st
    have na : Blk w2 (w.heap.size) 23 #[.int .i64 (a), .int .i64 (b)] := Blk.stepsK st
    have nb : Blk w2 (w.heap.size + 1) 23 #[.int .i64 (c), .int .i64 (d)] := Blk.stepsK st
    clear B oa ob ca0 ca1 fa la cb0 cb1 fb lb
    clear st
    have B := Bn
    clear Bn
    have oa := na
    clear na
    have ca0 : World.cell? w2 ⟨w.heap.size, 0, none⟩ = some (.int .i64 (a)) := oa.c 0 rfl
    have ca1 : World.cell? w2 ⟨w.heap.size, 1, none⟩ = some (.int .i64 (b)) := oa.c 1 rfl
    have fa := oa.fr
    have la := oa.lt
    have ob := nb
    clear nb
    have cb0 : World.cell? w2 ⟨w.heap.size + 1, 0, none⟩ = some (.int .i64 (c)) := ob.c 0 rfl
    have cb1 : World.cell? w2 ⟨w.heap.size + 1, 1, none⟩ = some (.int .i64 (d)) := ob.c 1 rfl
    have fb := ob.fr
    have lb := ob.lt
    go_wp2_with fail
    refine (k2 _).mono ?_
    rintro e w3 ⟨rfl, hb3⟩
    have st : Steps _ w3 := hb3
    have Bn : Below w.heap.size w w3 := belowA st
    have na : Blk w3 (w.heap.size) 23 #[.int .i64 (a), .int .i64 (b)] := Blk.stepsK st
    have nb : Blk w3 (w.heap.size + 1) 23 #[.int .i64 (c), .int .i64 (d)] := Blk.stepsK st
    clear B oa ob ca0 ca1 fa la cb0 cb1 fb lb
    clear st
    have B := Bn
    clear Bn
    have oa := na
    clear na
    have ca0 : World.cell? w3 ⟨w.heap.size, 0, none⟩ = some (.int .i64 (a)) := oa.c 0 rfl
    have ca1 : World.cell? w3 ⟨w.heap.size, 1, none⟩ = some (.int .i64 (b)) := oa.c 1 rfl
    have fa := oa.fr
    have la := oa.lt
    have ob := nb
    clear nb
    have cb0 : World.cell? w3 ⟨w.heap.size + 1, 0, none⟩ = some (.int .i64 (c)) := ob.c 0 rfl
    have cb1 : World.cell? w3 ⟨w.heap.size + 1, 1, none⟩ = some (.int .i64 (d)) := ob.c 1 rfl
    have fb := ob.fr
    have lb := ob.lt
    go_wp2
    go_returns
    exact ⟨rfl, belowB⟩
  · have E1 : errV (V a b) = 8 := if_neg h1
    have k1 := fun w' => rcheck3 a b w'
    rw [E1] at k1
    clear E1 h1 hv
    go_enter Tryz.func3, Tryz.ntmps3
    go_wp2_with fail
    refine (lalive _).mono ?_
    rintro e w1 ⟨rfl, hb1⟩
    have st : Steps _ w1 := hb1
    have Bn : Below w.heap.size w w1 := belowA st
    have na : Blk w1 (w.heap.size) 23 #[.int .i64 (a), .int .i64 (b)] := Blk.stepsK st
    have nb : Blk w1 (w.heap.size + 1) 23 #[.int .i64 (c), .int .i64 (d)] := Blk.stepsK st
    clear st
    have B := Bn
    clear Bn
    have oa := na
    clear na
    have ca0 : World.cell? w1 ⟨w.heap.size, 0, none⟩ = some (.int .i64 (a)) := oa.c 0 rfl
    have ca1 : World.cell? w1 ⟨w.heap.size, 1, none⟩ = some (.int .i64 (b)) := oa.c 1 rfl
    have fa := oa.fr
    have la := oa.lt
    have ob := nb
    clear nb
    have cb0 : World.cell? w1 ⟨w.heap.size + 1, 0, none⟩ = some (.int .i64 (c)) := ob.c 0 rfl
    have cb1 : World.cell? w1 ⟨w.heap.size + 1, 1, none⟩ = some (.int .i64 (d)) := ob.c 1 rfl
    have fb := ob.fr
    have lb := ob.lt
    go_wp2_with fail
    refine (k1 _).mono ?_
    rintro e w2 ⟨rfl, hb2⟩
    have st : Steps _ w2 := hb2
    have Bn : Below w.heap.size w w2 := belowA st
    have na : Blk w2 (w.heap.size) 23 #[.int .i64 (a), .int .i64 (b)] := Blk.stepsK st
    have nb : Blk w2 (w.heap.size + 1) 23 #[.int .i64 (c), .int .i64 (d)] := Blk.stepsK st
    clear B oa ob ca0 ca1 fa la cb0 cb1 fb lb
    clear st
    have B := Bn
    clear Bn
    have oa := na
    clear na
    have ca0 : World.cell? w2 ⟨w.heap.size, 0, none⟩ = some (.int .i64 (a)) := oa.c 0 rfl
    have ca1 : World.cell? w2 ⟨w.heap.size, 1, none⟩ = some (.int .i64 (b)) := oa.c 1 rfl
    have fa := oa.fr
    have la := oa.lt
    have ob := nb
    clear nb
    have cb0 : World.cell? w2 ⟨w.heap.size + 1, 0, none⟩ = some (.int .i64 (c)) := ob.c 0 rfl
    have cb1 : World.cell? w2 ⟨w.heap.size + 1, 1, none⟩ = some (.int .i64 (d)) := ob.c 1 rfl
    have fb := ob.fr
    have lb := ob.lt
    go_wp2
    go_returns
    exact ⟨rfl, belowB⟩
set_option maxHeartbeats 25600000 in
set_option maxRecDepth 1000000 in
theorem holds_ok (a b c d k n : Int) (w : World) (v1 : V a b) (v2 : V c d) (k0 : 0 ≤ k) (k1 : k < 18446744073709551616) (n0 : 0 ≤ n) (n1 : n < 18446744073709551616) :
    Calls Tryz.prog 3 #[.agg #[.int .i64 a, .int .i64 b], .agg #[.int .i64 c, .int .i64 d], .int .u64 k, .int .u64 n] w fun e w' => e = .returned (.bool true) ∧ Below w.heap.size w w' := by
  have ck1 : ∀ w', Calls Tryz.prog 6 #[.agg #[.int .i64 a, .int .i64 b]] w' fun e w2 => e = .returned (.int .i64 0) ∧ Below w'.heap.size w' w2 := fun w' => by have := rcheck3 a b w'; rwa [show errV (V a b) = 0 from if_pos v1] at this
  have ck2 : ∀ w', Calls Tryz.prog 6 #[.agg #[.int .i64 c, .int .i64 d]] w' fun e w2 => e = .returned (.int .i64 0) ∧ Below w'.heap.size w' w2 := fun w' => by have := rcheck3 c d w'; rwa [show errV (V c d) = 0 from if_pos v2] at this
  have P1 := point_in (k := k) v1
  have P2 := point_in (k := n) v2
  have q1 := fun w' => lpoint a b k w' v1 k0 k1
  have q2 := fun w' => lpoint c d n w' v2 n0 n1
  obtain ⟨x, hx⟩ : ∃ x, a + k % (b - a + 1) = x := ⟨_, rfl⟩
  obtain ⟨y, hy⟩ : ∃ x, c + n % (d - c + 1) = x := ⟨_, rfl⟩
  rw [hx] at q1 P1
  rw [hy] at q2 P2
  have bx : -9223372036854775808 ≤ x ∧ x ≤ 9223372036854775807 := by unfold V at v1; omega
  have by_ : -9223372036854775808 ≤ y ∧ y ≤ 9223372036854775807 := by unfold V at v2; omega
  have l1 := fun w' => lnumber x w' bx.1 bx.2
  have l2 := fun w' => lnumber y w' by_.1 by_.2
  have sx := sz_unit bx.1 (by omega)
  have sy := sz_unit by_.1 (by omega)
  have f0 := fun w' => add_p a b c d w'
  have hs0 : ∀ s t e, addS a b c d = (s, t, e) → ∀ w' v, (e == 0) = true → FR w' v (unitQ x + unitQ y) → Calls Tryz.prog 16 #[.agg #[.int .i64 s, .int .i64 t], v] w' fun e w2 => e = .returned (.bool true) ∧ Steps w' w2 := fun s t e he w' v h0 hf => has_call (he ▸ add_has v1 v2 P1.1 P1.2 P2.1 P2.2) (he ▸ add_b v1 v2) (sx.add sy) (by omega) w' v h0 hf
  obtain ⟨⟨s0, t0, e0⟩, hT0⟩ : ∃ T, addS a b c d = T := ⟨_, rfl⟩
  replace hs0 := hs0 _ _ _ hT0
  rw [hT0] at f0
  have f1 := fun w' => sub_p a b c d w'
  have hs1 : ∀ s t e, subS a b c d = (s, t, e) → ∀ w' v, (e == 0) = true → FR w' v (unitQ x - unitQ y) → Calls Tryz.prog 16 #[.agg #[.int .i64 s, .int .i64 t], v] w' fun e w2 => e = .returned (.bool true) ∧ Steps w' w2 := fun s t e he w' v h0 hf => has_call (he ▸ sub_has v1 v2 P1.1 P1.2 P2.1 P2.2) (he ▸ sub_b v1 v2) (sx.sub sy) (by omega) w' v h0 hf
  obtain ⟨⟨s1, t1, e1⟩, hT1⟩ : ∃ T, subS a b c d = T := ⟨_, rfl⟩
  replace hs1 := hs1 _ _ _ hT1
  rw [hT1] at f1
  have f2 := fun w' => mul_p a b c d w'
  have hs2 : ∀ s t e, mulS a b c d = (s, t, e) → ∀ w' v, (e == 0) = true → FR w' v (unitQ x * unitQ y) → Calls Tryz.prog 16 #[.agg #[.int .i64 s, .int .i64 t], v] w' fun e w2 => e = .returned (.bool true) ∧ Steps w' w2 := fun s t e he w' v h0 hf => has_call (he ▸ mul_has v1 v2 P1.1 P1.2 P2.1 P2.2) (he ▸ mul_b v1 v2) (sx.mul sy) (by omega) w' v h0 hf
  obtain ⟨⟨s2, t2, e2⟩, hT2⟩ : ∃ T, mulS a b c d = T := ⟨_, rfl⟩
  replace hs2 := hs2 _ _ _ hT2
  rw [hT2] at f2
  have f3 := fun w' => sq_p a b w'
  have hs3 : ∀ s t e, sqS a b = (s, t, e) → ∀ w' v, (e == 0) = true → FR w' v (unitQ x * unitQ x) → Calls Tryz.prog 16 #[.agg #[.int .i64 s, .int .i64 t], v] w' fun e w2 => e = .returned (.bool true) ∧ Steps w' w2 := fun s t e he w' v h0 hf => has_call (he ▸ sq_has v1 P1.1 P1.2) (he ▸ sq_bb v1) (sx.mul sx) (by omega) w' v h0 hf
  obtain ⟨⟨s3, t3, e3⟩, hT3⟩ : ∃ T, sqS a b = T := ⟨_, rfl⟩
  replace hs3 := hs3 _ _ _ hT3
  rw [hT3] at f3
  have f4 := fun w' => div_p a b c d w'
  have hs4 : ∀ s t e, divS a b c d = (s, t, e) → y ≠ 0 → ∀ w' v, (e == 0) = true → FR w' v (unitQ x / unitQ y) → Calls Tryz.prog 16 #[.agg #[.int .i64 s, .int .i64 t], v] w' fun e w2 => e = .returned (.bool true) ∧ Steps w' w2 := fun s t e he y0 w' v h0 hf => has_call (he ▸ div_has v1 v2 P1.1 P1.2 P2.1 P2.2 y0) (he ▸ div_b v1 v2) (sx.div sy (unit_ne y0)) (by omega) w' v h0 hf
  obtain ⟨⟨s4, t4, e4⟩, hT4⟩ : ∃ T, divS a b c d = T := ⟨_, rfl⟩
  replace hs4 := hs4 _ _ _ hT4
  rw [hT4] at f4
  have ovr : ∀ w' u v, y ≠ 0 → FR w' u (unitQ x) → FR w' v (unitQ y) → Calls Tryz.prog 18 #[u, v] w' fun e w2 => ∃ z, e = .returned (.tuple #[z, .int .i64 0]) ∧ FR w2 z (unitQ x / unitQ y) ∧ Steps w' w2 := fun w' u v y0 h1 h2 => rOverQ w' h1 h2 sx sy (by omega) (unit_ne y0)
  have f5 := fun w' => sqrt_p a b w'
  have SQ := Hid.mk_ (sqrt_has v1 P1.1 P1.2)
  obtain ⟨⟨m1, m2, m3⟩, hT5⟩ : ∃ T, sqrtS a b = T := ⟨_, rfl⟩
  rw [hT5] at f5 SQ
  clear hT0 hT1 hT2 hT3 hT4 hT5 hx hy v1 v2 k0 k1 n0 n1 P1 P2
  go_enter Tryz.func3, Tryz.ntmps3
  go_wp2_with fail
  refine (lalive _).mono ?_
  rintro e w1 ⟨rfl, hb1⟩
  have st : Steps _ w1 := hb1
  have B : Below w.heap.size w w1 := belowA st
  have na : Blk w1 (w.heap.size) 23 #[.int .i64 (a), .int .i64 (b)] := Blk.stepsK st
  have nb : Blk w1 (w.heap.size + 1) 23 #[.int .i64 (c), .int .i64 (d)] := Blk.stepsK st
  have oa := na
  clear na
  have ob := nb
  clear nb
  clear st
  have ca0 : World.cell? _ ⟨w.heap.size, 0, none⟩ = some (.int .i64 (a)) := oa.c 0 rfl
  have ca1 : World.cell? _ ⟨w.heap.size, 1, none⟩ = some (.int .i64 (b)) := oa.c 1 rfl
  have la := oa.lt
  have lb := ob.lt
  go_wp2_with fail
  refine (ck1 _).mono ?_
  rintro e w2 ⟨rfl, hb2⟩
  have st : Steps _ w2 := hb2
  have sk : Below w1.heap.size w1 w2 := belowA st
  replace B := below_steps B (Nat.le_refl _) sk
  replace oa := oa.steps sk
  replace ob := ob.steps sk
  clear st sk ca0 ca1 la lb
  have la := oa.lt
  have cb0 : World.cell? _ ⟨w.heap.size + 1, 0, none⟩ = some (.int .i64 (c)) := ob.c 0 rfl
  have cb1 : World.cell? _ ⟨w.heap.size + 1, 1, none⟩ = some (.int .i64 (d)) := ob.c 1 rfl
  have lb := ob.lt
  clear ck1
  go_wp2_with fail
  refine (ck2 _).mono ?_
  rintro e w3 ⟨rfl, hb3⟩
  have st : Steps _ w3 := hb3
  have sk : Below w2.heap.size w2 w3 := belowA st
  replace B := below_steps B (Nat.le_refl _) sk
  replace oa := oa.steps sk
  replace ob := ob.steps sk
  clear st sk la cb0 cb1 lb
  have ca0 : World.cell? _ ⟨w.heap.size, 0, none⟩ = some (.int .i64 (a)) := oa.c 0 rfl
  have ca1 : World.cell? _ ⟨w.heap.size, 1, none⟩ = some (.int .i64 (b)) := oa.c 1 rfl
  have la := oa.lt
  have cb0 : World.cell? _ ⟨w.heap.size + 1, 0, none⟩ = some (.int .i64 (c)) := ob.c 0 rfl
  have cb1 : World.cell? _ ⟨w.heap.size + 1, 1, none⟩ = some (.int .i64 (d)) := ob.c 1 rfl
  have lb := ob.lt
  clear ck2
  have zb : w.heap.size + 1 < w3.heap.size := ob.lt
  have zz3 := B.size
  go_upto_region 4 with fail
  refine Reg.wp_chain_n (fun N0 D v W => Below w.heap.size w W ∧ Keeps w3 W ∧ N0 ≤ W.heap.size ∧ Blk W (w.heap.size) 23 #[.int .i64 (a), .int .i64 (b)] ∧ Blk W (w.heap.size + 1) 23 #[.int .i64 (c), .int .i64 (d)] ∧ (D 8 = true → ∃ g : Nat, v 8 = .pointer (some ⟨g, 0, none⟩) ∧ N0 ≤ g ∧ g < W.heap.size ∧ (D 10 = false → Blk W g 31 #[.bool false, .slice none 0 0, .bool false, .slice none 0 0]) ∧ (D 10 = true → D 3 = true ∧ ∃ cs, v 3 = .agg cs ∧ Blk W g 31 cs)) ∧ (D 9 = true → ∃ g : Nat, v 9 = .pointer (some ⟨g, 0, none⟩) ∧ N0 ≤ g ∧ g < W.heap.size ∧ (D 11 = false → Blk W g 31 #[.bool false, .slice none 0 0, .bool false, .slice none 0 0]) ∧ (D 11 = true → D 7 = true ∧ ∃ cs, v 7 = .agg cs ∧ Blk W g 31 cs)) ∧ (D 8 = true → D 9 = true → v 8 ≠ v 9))
    (Reg.inl [2, 3, 6, 7, 8, 9, 10, 11]) (Reg.gv [(2, fun z_ => z_ = .int .i64 (x)), (3, IsFr), (6, fun z_ => z_ = .int .i64 (y)), (7, IsFr), (8, IsPtr), (9, IsPtr)]) (gw [(3, GFr (unitQ x)), (7, GFr (unitQ y))]) (fun _ => Keeps) (fun _ _ => False) (Reg.pl [(3, [(2, some 60)]), (7, [(6, some 64)]), (10, [(3, some 61), (8, some 10)]), (11, [(7, some 65), (9, some 11)]), (12, [(2, some 60), (3, some 61), (6, some 64), (7, some 65), (8, some 10), (9, some 11)])]) (Reg.pl [(8, [10]), (3, [10]), (9, [11]), (7, [11])])
    (by kernel_rfl) (by kernel_rfl) (by kernel_rfl) (Reg.gv_some _ (by intro p hp; simp only [List.mem_cons, List.not_mem_nil, or_false] at hp; rcases hp with rfl | rfl | rfl | rfl | rfl | rfl <;> first | exact ⟨_, rfl⟩ | exact ⟨_, 0, rfl⟩ | exact ⟨_, none, 0, 0, rfl⟩ | exact ⟨_, false, none, 0, 0, rfl⟩ | exact ⟨_, false, none, 0, 0, false, none, 0, 0, rfl⟩)) (fun N0 hN0 => ⟨fun v => ?_, fun D v v' W hv hj => ?_, fun D v k j W W' x _ _ _ _ hk hg => gw_keeps _ (by intro p hp; simp only [List.mem_cons, List.not_mem_nil, or_false] at hp; rcases hp with rfl | rfl <;> first | exact GFr.keeps | exact GFrE.keeps | exact GNu.keeps | exact GNuE.keeps | exact GLi.keeps) hk hg, fun _ _ _ _ h => h.elim, fun ops' Q' hops hQ => ?_⟩)
  · exact ⟨belowB, keepsB, Nat.le_of_eq hN0.out, ownK, ownK, (fun h => Bool.noConfusion h), (fun h => Bool.noConfusion h), (fun h => Bool.noConfusion h)⟩
  · obtain ⟨j0, jk, jn, b_a, b_b, a_8, a_9, q_8_9⟩ := hj
    exact ⟨j0, jk, jn, b_a, b_b, fun h => by obtain ⟨g, e1, e2, e3, e4, e5⟩ := a_8 h; exact ⟨g, (hv 8 h) ▸ e1, e2, e3, e4, fun h => by obtain ⟨d, cs, e, hb⟩ := e5 h; exact ⟨d, cs, (hv 3 d) ▸ e, hb⟩⟩, fun h => by obtain ⟨g, e1, e2, e3, e4, e5⟩ := a_9 h; exact ⟨g, (hv 9 h) ▸ e1, e2, e3, e4, fun h => by obtain ⟨d, cs, e, hb⟩ := e5 h; exact ⟨d, cs, (hv 7 d) ▸ e, hb⟩⟩, fun h h' => (hv 8 h) ▸ (hv 9 h') ▸ q_8_9 h h'⟩
  have i_a : w.heap.size < N0 := by have e := hN0.out; (try simp only [World.size_alloc, World.size_setCell, World.size_drew, World.heap_drewN] at e); first | omega | (have h := oa.lt; omega)
  have i_b : w.heap.size + 1 < N0 := by have e := hN0.out; (try simp only [World.size_alloc, World.size_setCell, World.size_drew, World.heap_drewN] at e); first | omega | (have h := ob.lt; omega)
  have iw : w.heap.size ≤ N0 := by have e := hN0.out; (try simp only [World.size_alloc, World.size_setCell, World.size_drew, World.heap_drewN] at e); first | omega | (have h := B.size; omega)
  clear ca0 ca1 la cb0 cb1 lb
  clear hN0
  apply Reg.RC_pure (hc := rfl) (hst := rfl) (hw := rfl) (t := 58) (hd := rfl) (ht := Nat.le_of_ble_eq_true rfl)
  · intro D v' W' hc hj hf K hK
    obtain ⟨j0, jk, jn, b_a, b_b, a_8, a_9, q_8_9⟩ := hj
    have c0 : W'.cell? ⟨w.heap.size, 0, none⟩ = some (.int .i64 (a)) := b_a.c 0 rfl
    have c1 : W'.cell? ⟨w.heap.size, 1, none⟩ = some (.int .i64 (b)) := b_a.c 1 rfl
    go_step
    exact hK.out
  · rfl
  apply Reg.RC_pure (hc := rfl) (hst := rfl) (hw := rfl) (t := 59) (hd := rfl) (ht := Nat.le_of_ble_eq_true rfl)
  · intro D v' W' hc hj hf K hK
    go_step
    exact hK.out
  · rfl
  refine Reg.RC_call rfl (by intro t ht; cases ht; exact Nat.le_of_ble_eq_true rfl) rfl (fun D v' W' hc hj hf K hK => ?_) ?_
  · obtain ⟨j0, jk, jn, b_a, b_b, a_8, a_9, q_8_9⟩ := hj
    clear hf
    go_step
    refine (q1 W').mono ?_
    rintro e W2 ⟨rfl, hs⟩
    exact hK.out _ W2 (Keeps.steps hs) ⟨below_steps j0 (Nat.le_refl _) hs, jk.then_ hs, Nat.le_trans jn hs.size, b_a.steps hs, b_b.steps hs, fun h => by obtain ⟨g, e1, e2, e3, e4, e5⟩ := a_8 h; exact ⟨g, e1, e2, Nat.lt_of_lt_of_le e3 (hs).size, fun h => (e4 h).steps hs, fun h => by obtain ⟨d, cs, e, hb⟩ := e5 h; exact ⟨d, cs, e, hb.steps hs⟩⟩, fun h => by obtain ⟨g, e1, e2, e3, e4, e5⟩ := a_9 h; exact ⟨g, e1, e2, Nat.lt_of_lt_of_le e3 (hs).size, fun h => (e4 h).steps hs, fun h => by obtain ⟨d, cs, e, hb⟩ := e5 h; exact ⟨d, cs, e, hb.steps hs⟩⟩, q_8_9⟩ trivial rfl
  rintro _ rfl
  refine Reg.RC_at (b := ⟨#[_, _, _, _, _, _, _, _, _, _, _, _, _, _, _, _, _, _, _, _, _, _, _, _, _, _, _, _, _, _, _, _, _, _, _, _, _, _, _, _, _, _, _, _, _, _, _, _, _, _, _, _, _, _, _, _, _, _, _, _, _, _, _, _, _, _, _, _, _, _, _, _, _, _, _, _, _, _, _, _, _, _, _, _, _, _, _, _, _, _, _, _, _, _, _, _, _, _, _, _, _, _, _, _, _, _, _, _, _, _, _, _, _, _, _, _, _, _, _, _, _, _, _, _, _, _, _, _, _, _, _, _, _, _, _, _, _, _, _, _, _, _, _, _, _, _, _, _, _, _, _, _, _, _, _, _, _, _, _, _, _, _, _, _, _, _, _, _, _, _, _, _, _, _, _, _, _, _, _, _, _, _, _, _, _, _, _, _, _, _, _, _, _, _, _, _, _, _, _, _, _, _, _, _, _, _, _, _, _, _, _, _, _, _, _, _, _, _, _, _, _, _, _, _, _, _, _, _, _, _, _, _, _, _, _, _, _], _⟩) rfl ?_
  refine Reg.RC_call rfl (by intro t ht; cases ht; exact Nat.le_of_ble_eq_true rfl) rfl (fun D v' W' hc hj hf K hK => ?_) ?_
  · obtain ⟨j0, jk, jn, b_a, b_b, a_8, a_9, q_8_9⟩ := hj
    clear hf
    go_step
    refine (l1 W').mono ?_
    rintro e W2 ⟨u, rfl, hu, hs⟩
    obtain ⟨x1, x2, x3, x4, x5, x6, x7, x8, rfl⟩ := hu.shape
    exact hK.out _ W2 (Keeps.steps hs) ⟨below_steps j0 (Nat.le_refl _) hs, jk.then_ hs, Nat.le_trans jn hs.size, b_a.steps hs, b_b.steps hs, fun h => by obtain ⟨g, e1, e2, e3, e4, e5⟩ := a_8 h; exact ⟨g, e1, e2, Nat.lt_of_lt_of_le e3 (hs).size, fun h => (e4 h).steps hs, fun h => Bool.noConfusion ((hc.2 10 (by decide)).symm.trans h)⟩, fun h => by obtain ⟨g, e1, e2, e3, e4, e5⟩ := a_9 h; exact ⟨g, e1, e2, Nat.lt_of_lt_of_le e3 (hs).size, fun h => (e4 h).steps hs, fun h => by obtain ⟨d, cs, e, hb⟩ := e5 h; exact ⟨d, cs, e, hb.steps hs⟩⟩, q_8_9⟩ hu ⟨_, _, _, _, _, _, _, _, rfl⟩
  rintro _ ⟨x1, x2, x3, x4, x5, x6, x7, x8, rfl⟩
  refine Reg.RC_at (b := ⟨#[_, _, _, _, _, _, _, _, _, _, _, _, _, _, _, _, _, _, _, _, _, _, _, _, _, _, _, _, _, _, _, _, _, _, _, _, _, _, _, _, _, _, _, _, _, _, _, _, _, _, _, _, _, _, _, _, _, _, _, _, _, _, _, _, _, _, _, _, _, _, _, _, _, _, _, _, _, _, _, _, _, _, _, _, _, _, _, _, _, _, _, _, _, _, _, _, _, _, _, _, _, _, _, _, _, _, _, _, _, _, _, _, _, _, _, _, _, _, _, _, _, _, _, _, _, _, _, _, _, _, _, _, _, _, _, _, _, _, _, _, _, _, _, _, _, _, _, _, _, _, _, _, _, _, _, _, _, _, _, _, _, _, _, _, _, _, _, _, _, _, _, _, _, _, _, _, _, _, _, _, _, _, _, _, _, _, _, _, _, _, _, _, _, _, _, _, _, _, _, _, _, _, _, _, _, _, _, _, _, _, _, _, _, _, _, _, _, _, _, _, _, _, _, _, _, _, _, _, _, _, _, _, _, _, _, _, _], _⟩) rfl ?_
  apply Reg.RC_pure (hc := rfl) (hst := rfl) (hw := rfl) (t := 62) (hd := rfl) (ht := Nat.le_of_ble_eq_true rfl)
  · intro D v' W' hc hj hf K hK
    obtain ⟨j0, jk, jn, b_a, b_b, a_8, a_9, q_8_9⟩ := hj
    have c0 : W'.cell? ⟨w.heap.size + 1, 0, none⟩ = some (.int .i64 (c)) := b_b.c 0 rfl
    have c1 : W'.cell? ⟨w.heap.size + 1, 1, none⟩ = some (.int .i64 (d)) := b_b.c 1 rfl
    go_step
    exact hK.out
  · rfl
  apply Reg.RC_pure (hc := rfl) (hst := rfl) (hw := rfl) (t := 63) (hd := rfl) (ht := Nat.le_of_ble_eq_true rfl)
  · intro D v' W' hc hj hf K hK
    go_step
    exact hK.out
  · rfl
  refine Reg.RC_call rfl (by intro t ht; cases ht; exact Nat.le_of_ble_eq_true rfl) rfl (fun D v' W' hc hj hf K hK => ?_) ?_
  · obtain ⟨j0, jk, jn, b_a, b_b, a_8, a_9, q_8_9⟩ := hj
    clear hf
    go_step
    refine (q2 W').mono ?_
    rintro e W2 ⟨rfl, hs⟩
    exact hK.out _ W2 (Keeps.steps hs) ⟨below_steps j0 (Nat.le_refl _) hs, jk.then_ hs, Nat.le_trans jn hs.size, b_a.steps hs, b_b.steps hs, fun h => by obtain ⟨g, e1, e2, e3, e4, e5⟩ := a_8 h; exact ⟨g, e1, e2, Nat.lt_of_lt_of_le e3 (hs).size, fun h => (e4 h).steps hs, fun h => by obtain ⟨d, cs, e, hb⟩ := e5 h; exact ⟨d, cs, e, hb.steps hs⟩⟩, fun h => by obtain ⟨g, e1, e2, e3, e4, e5⟩ := a_9 h; exact ⟨g, e1, e2, Nat.lt_of_lt_of_le e3 (hs).size, fun h => (e4 h).steps hs, fun h => by obtain ⟨d, cs, e, hb⟩ := e5 h; exact ⟨d, cs, e, hb.steps hs⟩⟩, q_8_9⟩ trivial rfl
  rintro _ rfl
  refine Reg.RC_at (b := ⟨#[_, _, _, _, _, _, _, _, _, _, _, _, _, _, _, _, _, _, _, _, _, _, _, _, _, _, _, _, _, _, _, _, _, _, _, _, _, _, _, _, _, _, _, _, _, _, _, _, _, _, _, _, _, _, _, _, _, _, _, _, _, _, _, _, _, _, _, _, _, _, _, _, _, _, _, _, _, _, _, _, _, _, _, _, _, _, _, _, _, _, _, _, _, _, _, _, _, _, _, _, _, _, _, _, _, _, _, _, _, _, _, _, _, _, _, _, _, _, _, _, _, _, _, _, _, _, _, _, _, _, _, _, _, _, _, _, _, _, _, _, _, _, _, _, _, _, _, _, _, _, _, _, _, _, _, _, _, _, _, _, _, _, _, _, _, _, _, _, _, _, _, _, _, _, _, _, _, _, _, _, _, _, _, _, _, _, _, _, _, _, _, _, _, _, _, _, _, _, _, _, _, _, _, _, _, _, _, _, _, _, _, _, _, _, _, _, _, _, _, _, _, _, _, _, _, _, _, _, _, _, _, _, _, _, _, _, _], _⟩) rfl ?_
  refine Reg.RC_call rfl (by intro t ht; cases ht; exact Nat.le_of_ble_eq_true rfl) rfl (fun D v' W' hc hj hf K hK => ?_) ?_
  · obtain ⟨j0, jk, jn, b_a, b_b, a_8, a_9, q_8_9⟩ := hj
    clear hf
    go_step
    refine (l2 W').mono ?_
    rintro e W2 ⟨u, rfl, hu, hs⟩
    obtain ⟨y1, y2, y3, y4, y5, y6, y7, y8, rfl⟩ := hu.shape
    exact hK.out _ W2 (Keeps.steps hs) ⟨below_steps j0 (Nat.le_refl _) hs, jk.then_ hs, Nat.le_trans jn hs.size, b_a.steps hs, b_b.steps hs, fun h => by obtain ⟨g, e1, e2, e3, e4, e5⟩ := a_8 h; exact ⟨g, e1, e2, Nat.lt_of_lt_of_le e3 (hs).size, fun h => (e4 h).steps hs, fun h => by obtain ⟨d, cs, e, hb⟩ := e5 h; exact ⟨d, cs, e, hb.steps hs⟩⟩, fun h => by obtain ⟨g, e1, e2, e3, e4, e5⟩ := a_9 h; exact ⟨g, e1, e2, Nat.lt_of_lt_of_le e3 (hs).size, fun h => (e4 h).steps hs, fun h => Bool.noConfusion ((hc.2 11 (by decide)).symm.trans h)⟩, q_8_9⟩ hu ⟨_, _, _, _, _, _, _, _, rfl⟩
  rintro _ ⟨y1, y2, y3, y4, y5, y6, y7, y8, rfl⟩
  refine Reg.RC_at (b := ⟨#[_, _, _, _, _, _, _, _, _, _, _, _, _, _, _, _, _, _, _, _, _, _, _, _, _, _, _, _, _, _, _, _, _, _, _, _, _, _, _, _, _, _, _, _, _, _, _, _, _, _, _, _, _, _, _, _, _, _, _, _, _, _, _, _, _, _, _, _, _, _, _, _, _, _, _, _, _, _, _, _, _, _, _, _, _, _, _, _, _, _, _, _, _, _, _, _, _, _, _, _, _, _, _, _, _, _, _, _, _, _, _, _, _, _, _, _, _, _, _, _, _, _, _, _, _, _, _, _, _, _, _, _, _, _, _, _, _, _, _, _, _, _, _, _, _, _, _, _, _, _, _, _, _, _, _, _, _, _, _, _, _, _, _, _, _, _, _, _, _, _, _, _, _, _, _, _, _, _, _, _, _, _, _, _, _, _, _, _, _, _, _, _, _, _, _, _, _, _, _, _, _, _, _, _, _, _, _, _, _, _, _, _, _, _, _, _, _, _, _, _, _, _, _, _, _, _, _, _, _, _, _, _, _, _, _, _, _], _⟩) rfl ?_
  refine Reg.RC_call rfl (by intro t ht; cases ht; exact Nat.le_of_ble_eq_true rfl) rfl (fun D v' W' hc hj hf K hK => ?_) ?_
  · obtain ⟨j0, jk, jn, b_a, b_b, a_8, a_9, q_8_9⟩ := hj
    go_step
    have hs : ∀ o : Obj, Steps W' (W'.alloc o) := fun o => (Below.refl _ _).alloc (Nat.le_refl _) o
    exact hK.out _ _ (Keeps.steps (hs _)) ⟨below_steps j0 (Nat.le_refl _) (hs _), jk.then_ (hs _), Nat.le_trans jn (hs _).size, b_a.steps (hs _), b_b.steps (hs _), fun _ => ⟨W'.heap.size, rfl, jn, by rw [World.size_alloc]; omega, fun _ => Blk.new _ _ _, fun h => Bool.noConfusion ((hc.2 10 (by decide)).symm.trans h)⟩, fun h => by obtain ⟨g, e1, e2, e3, e4, e5⟩ := a_9 h; exact ⟨g, e1, e2, Nat.lt_of_lt_of_le e3 ((hs _)).size, fun h => (e4 h).steps (hs _), fun h => by obtain ⟨d, cs, e, hb⟩ := e5 h; exact ⟨d, cs, e, hb.steps (hs _)⟩⟩, fun _ h' => by obtain ⟨g, e1, e2, e3, e4, e5⟩ := a_9 h'; exact fun e => Reg.ptr_ne e3 (e.trans e1)⟩ trivial ⟨_, rfl⟩
  rintro _ ⟨p10, rfl⟩
  refine Reg.RC_at (b := ⟨#[_, _, _, _, _, _, _, _, _, _, _, _, _, _, _, _, _, _, _, _, _, _, _, _, _, _, _, _, _, _, _, _, _, _, _, _, _, _, _, _, _, _, _, _, _, _, _, _, _, _, _, _, _, _, _, _, _, _, _, _, _, _, _, _, _, _, _, _, _, _, _, _, _, _, _, _, _, _, _, _, _, _, _, _, _, _, _, _, _, _, _, _, _, _, _, _, _, _, _, _, _, _, _, _, _, _, _, _, _, _, _, _, _, _, _, _, _, _, _, _, _, _, _, _, _, _, _, _, _, _, _, _, _, _, _, _, _, _, _, _, _, _, _, _, _, _, _, _, _, _, _, _, _, _, _, _, _, _, _, _, _, _, _, _, _, _, _, _, _, _, _, _, _, _, _, _, _, _, _, _, _, _, _, _, _, _, _, _, _, _, _, _, _, _, _, _, _, _, _, _, _, _, _, _, _, _, _, _, _, _, _, _, _, _, _, _, _, _, _, _, _, _, _, _, _, _, _, _, _, _, _, _, _, _, _, _, _], _⟩) rfl ?_
  refine Reg.RC_call rfl (by intro t ht; cases ht; exact Nat.le_of_ble_eq_true rfl) rfl (fun D v' W' hc hj hf K hK => ?_) ?_
  · obtain ⟨j0, jk, jn, b_a, b_b, a_8, a_9, q_8_9⟩ := hj
    go_step
    have hs : ∀ o : Obj, Steps W' (W'.alloc o) := fun o => (Below.refl _ _).alloc (Nat.le_refl _) o
    exact hK.out _ _ (Keeps.steps (hs _)) ⟨below_steps j0 (Nat.le_refl _) (hs _), jk.then_ (hs _), Nat.le_trans jn (hs _).size, b_a.steps (hs _), b_b.steps (hs _), fun h => by obtain ⟨g, e1, e2, e3, e4, e5⟩ := a_8 h; exact ⟨g, e1, e2, Nat.lt_of_lt_of_le e3 ((hs _)).size, fun h => (e4 h).steps (hs _), fun h => by obtain ⟨d, cs, e, hb⟩ := e5 h; exact ⟨d, cs, e, hb.steps (hs _)⟩⟩, fun _ => ⟨W'.heap.size, rfl, jn, by rw [World.size_alloc]; omega, fun _ => Blk.new _ _ _, fun h => Bool.noConfusion ((hc.2 11 (by decide)).symm.trans h)⟩, fun h _ => by obtain ⟨g, e1, e2, e3, e4, e5⟩ := a_8 h; exact fun e => Reg.ptr_ne e3 (e.symm.trans e1)⟩ trivial ⟨_, rfl⟩
  rintro _ ⟨p11, rfl⟩
  refine Reg.RC_at (b := ⟨#[_, _, _, _, _, _, _, _, _, _, _, _, _, _, _, _, _, _, _, _, _, _, _, _, _, _, _, _, _, _, _, _, _, _, _, _, _, _, _, _, _, _, _, _, _, _, _, _, _, _, _, _, _, _, _, _, _, _, _, _, _, _, _, _, _, _, _, _, _, _, _, _, _, _, _, _, _, _, _, _, _, _, _, _, _, _, _, _, _, _, _, _, _, _, _, _, _, _, _, _, _, _, _, _, _, _, _, _, _, _, _, _, _, _, _, _, _, _, _, _, _, _, _, _, _, _, _, _, _, _, _, _, _, _, _, _, _, _, _, _, _, _, _, _, _, _, _, _, _, _, _, _, _, _, _, _, _, _, _, _, _, _, _, _, _, _, _, _, _, _, _, _, _, _, _, _, _, _, _, _, _, _, _, _, _, _, _, _, _, _, _, _, _, _, _, _, _, _, _, _, _, _, _, _, _, _, _, _, _, _, _, _, _, _, _, _, _, _, _, _, _, _, _, _, _, _, _, _, _, _, _, _, _, _, _, _, _], _⟩) rfl ?_
  refine Reg.RC_call rfl (by intro t ht; cases ht) rfl (fun D v' W' hc hj hf K hK => ?_) (fun _ _ => Reg.RC_at (b := ⟨_, _⟩) rfl ?_)
  · obtain ⟨j0, jk, jn, b_a, b_b, a_8, a_9, q_8_9⟩ := hj
    have f := hf (8, some 10) (.tail _ (.head _)) rfl
    have e6 : v' 8 = .pointer (some ⟨p10, 0, none⟩) := f.2.1
    obtain ⟨g, e1, e2, e3, e4, e5⟩ := a_8 f.1
    obtain rfl : p10 = g := Reg.ptr_eq (e6.symm.trans e1)
    have hb := e4 hc.1
    clear e4 e5
    have fc := hf (3, some 61) (.head _) rfl
    have ec : v' 3 = .agg #[.bool x1, .slice x2 x3 x4, .bool x5, .slice x6 x7 x8] := fc.2.1
    have ff := hb.fr
    have cc0 : W'.cell? ⟨p10, 0, none⟩ = some (.bool false) := hb.c 0 rfl
    have cc1 : W'.cell? ⟨p10, 1, none⟩ = some (.slice none 0 0) := hb.c 1 rfl
    have cc2 : W'.cell? ⟨p10, 2, none⟩ = some (.bool false) := hb.c 2 rfl
    have cc3 : W'.cell? ⟨p10, 3, none⟩ = some (.slice none 0 0) := hb.c 3 rfl
    go_step
    exact hK.out undef _ (Keeps.only hb rfl ((Only.refl _ _).set.set.set.set)) ⟨(Below.setCell (p := ⟨p10, 3, none⟩) (Below.setCell (p := ⟨p10, 2, none⟩) (Below.setCell (p := ⟨p10, 1, none⟩) (Below.setCell (p := ⟨p10, 0, none⟩) j0 (by show w.heap.size ≤ p10; omega) _) (by show w.heap.size ≤ p10; omega) _) (by show w.heap.size ≤ p10; omega) _) (by show w.heap.size ≤ p10; omega) _), jk.trans (Keeps.only hb rfl ((Only.refl _ _).set.set.set.set)), by simpa using jn, ((((b_a).far' (show w.heap.size ≠ p10 by omega)).far' (show w.heap.size ≠ p10 by omega)).far' (show w.heap.size ≠ p10 by omega)).far' (show w.heap.size ≠ p10 by omega), ((((b_b).far' (show w.heap.size + 1 ≠ p10 by omega)).far' (show w.heap.size + 1 ≠ p10 by omega)).far' (show w.heap.size + 1 ≠ p10 by omega)).far' (show w.heap.size + 1 ≠ p10 by omega), fun _ => ⟨p10, e1, e2, by simpa using e3, fun h => Bool.noConfusion h, fun _ => ⟨fc.1, _, ec, (Blk.set2 (cs' := #[.bool x1, .slice x2 x3 x4, .bool x5, .slice x6 x7 x8]) (Blk.set2 (cs' := #[.bool x1, .slice x2 x3 x4, .bool x5, .slice none 0 0]) (Blk.set2 (cs' := #[.bool x1, .slice x2 x3 x4, .bool false, .slice none 0 0]) (Blk.set2 (cs' := #[.bool x1, .slice none 0 0, .bool false, .slice none 0 0]) hb (i := 0) rfl) (i := 1) rfl) (i := 2) rfl) (i := 3) rfl)⟩⟩, fun h => by obtain ⟨g, k1, k2, k3, k4, k5⟩ := a_9 h; have hne : g ≠ p10 := fun e => (q_8_9 f.1 h) (by rw [e6, k1, e]); exact ⟨g, k1, k2, by simpa using k3, fun h => ((((k4 h).far' hne).far' hne).far' hne).far' hne, fun h => by obtain ⟨d, cs, e, hb2⟩ := k5 h; exact ⟨d, cs, e, ((((hb2).far' hne).far' hne).far' hne).far' hne⟩⟩, q_8_9⟩ trivial trivial
  refine Reg.RC_call rfl (by intro t ht; cases ht) rfl (fun D v' W' hc hj hf K hK => ?_) (fun _ _ => Reg.RC_at (b := ⟨_, _⟩) rfl ?_)
  · obtain ⟨j0, jk, jn, b_a, b_b, a_8, a_9, q_8_9⟩ := hj
    have f := hf (9, some 11) (.tail _ (.head _)) rfl
    have e6 : v' 9 = .pointer (some ⟨p11, 0, none⟩) := f.2.1
    obtain ⟨g, e1, e2, e3, e4, e5⟩ := a_9 f.1
    obtain rfl : p11 = g := Reg.ptr_eq (e6.symm.trans e1)
    have hb := e4 hc.1
    clear e4 e5
    have fc := hf (7, some 65) (.head _) rfl
    have ec : v' 7 = .agg #[.bool y1, .slice y2 y3 y4, .bool y5, .slice y6 y7 y8] := fc.2.1
    have ff := hb.fr
    have cc0 : W'.cell? ⟨p11, 0, none⟩ = some (.bool false) := hb.c 0 rfl
    have cc1 : W'.cell? ⟨p11, 1, none⟩ = some (.slice none 0 0) := hb.c 1 rfl
    have cc2 : W'.cell? ⟨p11, 2, none⟩ = some (.bool false) := hb.c 2 rfl
    have cc3 : W'.cell? ⟨p11, 3, none⟩ = some (.slice none 0 0) := hb.c 3 rfl
    go_step
    exact hK.out undef _ (Keeps.only hb rfl ((Only.refl _ _).set.set.set.set)) ⟨(Below.setCell (p := ⟨p11, 3, none⟩) (Below.setCell (p := ⟨p11, 2, none⟩) (Below.setCell (p := ⟨p11, 1, none⟩) (Below.setCell (p := ⟨p11, 0, none⟩) j0 (by show w.heap.size ≤ p11; omega) _) (by show w.heap.size ≤ p11; omega) _) (by show w.heap.size ≤ p11; omega) _) (by show w.heap.size ≤ p11; omega) _), jk.trans (Keeps.only hb rfl ((Only.refl _ _).set.set.set.set)), by simpa using jn, ((((b_a).far' (show w.heap.size ≠ p11 by omega)).far' (show w.heap.size ≠ p11 by omega)).far' (show w.heap.size ≠ p11 by omega)).far' (show w.heap.size ≠ p11 by omega), ((((b_b).far' (show w.heap.size + 1 ≠ p11 by omega)).far' (show w.heap.size + 1 ≠ p11 by omega)).far' (show w.heap.size + 1 ≠ p11 by omega)).far' (show w.heap.size + 1 ≠ p11 by omega), fun h => by obtain ⟨g, k1, k2, k3, k4, k5⟩ := a_8 h; have hne : g ≠ p11 := fun e => (q_8_9 h f.1) (by rw [e6, k1, e]); exact ⟨g, k1, k2, by simpa using k3, fun h => ((((k4 h).far' hne).far' hne).far' hne).far' hne, fun h => by obtain ⟨d, cs, e, hb2⟩ := k5 h; exact ⟨d, cs, e, ((((hb2).far' hne).far' hne).far' hne).far' hne⟩⟩, fun _ => ⟨p11, e1, e2, by simpa using e3, fun h => Bool.noConfusion h, fun _ => ⟨fc.1, _, ec, (Blk.set2 (cs' := #[.bool y1, .slice y2 y3 y4, .bool y5, .slice y6 y7 y8]) (Blk.set2 (cs' := #[.bool y1, .slice y2 y3 y4, .bool y5, .slice none 0 0]) (Blk.set2 (cs' := #[.bool y1, .slice y2 y3 y4, .bool false, .slice none 0 0]) (Blk.set2 (cs' := #[.bool y1, .slice none 0 0, .bool false, .slice none 0 0]) hb (i := 0) rfl) (i := 1) rfl) (i := 2) rfl) (i := 3) rfl)⟩⟩, q_8_9⟩ trivial trivial
  refine Reg.RC_end (fun Dn v' w4 hd hj hf => ?_)
  obtain ⟨j0, jk, jn, b_a, b_b, a_8, a_9, q_8_9⟩ := hj
  have B := j0
  have oa := b_a
  clear b_a
  have ob := b_b
  clear b_b
  have f := hf (8, some 10) (.tail _ (.tail _ (.tail _ (.tail _ (.head _))))) rfl
  have e6_ : v' 8 = .pointer (some ⟨p10, 0, none⟩) := f.2.1
  obtain ⟨g, e1_, zx, -, -, e5_⟩ := a_8 f.1
  obtain rfl : p10 = g := Reg.ptr_eq (e6_.symm.trans e1_)
  obtain ⟨-, cs_, ee, ox⟩ := e5_ (hd 10 (Nat.le_of_ble_eq_true rfl))
  have ef : v' 3 = .agg #[.bool x1, .slice x2 x3 x4, .bool x5, .slice x6 x7 x8] := (hf (3, some 61) (.tail _ (.head _)) rfl).2.1
  obtain rfl : #[.bool x1, .slice x2 x3 x4, .bool x5, .slice x6 x7 x8] = cs_ := by have := ef.symm.trans ee; simpa only [Value.tuple.injEq, Value.agg.injEq, Array.mk.injEq, List.cons.injEq, and_true, true_and] using this
  clear ee ef f e5_ e1_ e6_
  have f := hf (9, some 11) (.tail _ (.tail _ (.tail _ (.tail _ (.tail _ (.head _)))))) rfl
  have e6_ : v' 9 = .pointer (some ⟨p11, 0, none⟩) := f.2.1
  obtain ⟨g, e1_, zy, -, -, e5_⟩ := a_9 f.1
  obtain rfl : p11 = g := Reg.ptr_eq (e6_.symm.trans e1_)
  obtain ⟨-, cs_, ee, oy⟩ := e5_ (hd 11 (Nat.le_of_ble_eq_true rfl))
  have ef : v' 7 = .agg #[.bool y1, .slice y2 y3 y4, .bool y5, .slice y6 y7 y8] := (hf (7, some 65) (.tail _ (.tail _ (.tail _ (.head _)))) rfl).2.1
  obtain rfl : #[.bool y1, .slice y2 y3 y4, .bool y5, .slice y6 y7 y8] = cs_ := by have := ef.symm.trans ee; simpa only [Value.tuple.injEq, Value.agg.injEq, Array.mk.injEq, List.cons.injEq, and_true, true_and] using this
  clear ee ef f e5_ e1_ e6_
  have y_8_9 : p10 ≠ p11 := fun e => q_8_9 (hf (8, some 10) (.tail _ (.tail _ (.tail _ (.tail _ (.head _))))) rfl).1 (hf (9, some 11) (.tail _ (.tail _ (.tail _ (.tail _ (.tail _ (.head _)))))) rfl).1 (by have h1 := (hf (8, some 10) (.tail _ (.tail _ (.tail _ (.tail _ (.head _))))) rfl).2.1; have h2 := (hf (9, some 11) (.tail _ (.tail _ (.tail _ (.tail _ (.tail _ (.head _)))))) rfl).2.1; rw [h1, h2]; show Value.pointer _ = .pointer _; rw [e])
  have Fx : Hid (FR w4 (.agg #[.bool x1, .slice x2 x3 x4, .bool x5, .slice x6 x7 x8]) (unitQ x)) := (hf (3, some 61) (.tail _ (.head _)) rfl).2.2
  have Fy : Hid (FR w4 (.agg #[.bool y1, .slice y2 y3 y4, .bool y5, .slice y6 y7 y8]) (unitQ y)) := (hf (7, some 65) (.tail _ (.tail _ (.tail _ (.head _)))) rfl).2.2
  clear hd hf jk j0 q_8_9
  refine hQ _ _ ?_
  clear hQ hops Q' ops'
  have ca0 : World.cell? _ ⟨w.heap.size, 0, none⟩ = some (.int .i64 (a)) := oa.c 0 rfl
  have ca1 : World.cell? _ ⟨w.heap.size, 1, none⟩ = some (.int .i64 (b)) := oa.c 1 rfl
  have la := oa.lt
  have cb0 : World.cell? _ ⟨w.heap.size + 1, 0, none⟩ = some (.int .i64 (c)) := ob.c 0 rfl
  have cb1 : World.cell? _ ⟨w.heap.size + 1, 1, none⟩ = some (.int .i64 (d)) := ob.c 1 rfl
  have lb := ob.lt
  clear q1 q2 l1 l2
  go_wp2_with fail
  refine (f0 _).mono ?_
  rintro e w5 ⟨rfl, hb5⟩
  have st : Steps _ w5 := hb5
  have sk : Below w4.heap.size w4 w5 := belowA st
  replace B := below_steps B (Nat.le_refl _) sk
  replace oa := oa.steps sk
  replace ob := ob.steps sk
  replace ox := ox.steps sk
  replace oy := oy.steps sk
  replace Fx := Hid.mk_ (Fx.out.steps sk)
  replace Fy := Hid.mk_ (Fy.out.steps sk)
  clear st sk ca0 ca1 la cb0 cb1 lb
  have cx0 : World.cell? _ ⟨p10, 0, none⟩ = some (.bool x1) := ox.c 0 rfl
  have cx1 : World.cell? _ ⟨p10, 1, none⟩ = some (.slice x2 x3 x4) := ox.c 1 rfl
  have cx2 : World.cell? _ ⟨p10, 2, none⟩ = some (.bool x5) := ox.c 2 rfl
  have cx3 : World.cell? _ ⟨p10, 3, none⟩ = some (.slice x6 x7 x8) := ox.c 3 rfl
  have lx := ox.lt
  have cy0 : World.cell? _ ⟨p11, 0, none⟩ = some (.bool y1) := oy.c 0 rfl
  have cy1 : World.cell? _ ⟨p11, 1, none⟩ = some (.slice y2 y3 y4) := oy.c 1 rfl
  have cy2 : World.cell? _ ⟨p11, 2, none⟩ = some (.bool y5) := oy.c 2 rfl
  have cy3 : World.cell? _ ⟨p11, 3, none⟩ = some (.slice y6 y7 y8) := oy.c 3 rfl
  have ly := oy.lt
  clear f0
  have zy : p11 < w5.heap.size := oy.lt
  have zz5 := B.size
  go_wp2_with fail
  refine (rPlusQ _ (Fx.out.keeps keepsB) (Fy.out.keeps keepsB) sx sy (by omega)).mono ?_
  rintro e w6 ⟨vr1_, rfl, hvr1_, hb6⟩
  have st : Steps _ w6 := hb6
  have sk : Below w5.heap.size w5 w6 := belowA st
  replace B := below_steps B (Nat.le_refl _) sk
  have os : Blk w6 (w5.heap.size) 23 #[.int .i64 (s0), .int .i64 (t0)] := Blk.stepsK st
  replace oa := oa.steps sk
  replace ob := ob.steps sk
  replace ox := ox.steps sk
  replace oy := oy.steps sk
  replace Fx := Hid.mk_ (Fx.out.steps sk)
  replace Fy := Hid.mk_ (Fy.out.steps sk)
  clear st sk cx0 cx1 cx2 cx3 lx cy0 cy1 cy2 cy3 ly
  have ca0 : World.cell? _ ⟨w.heap.size, 0, none⟩ = some (.int .i64 (a)) := oa.c 0 rfl
  have ca1 : World.cell? _ ⟨w.heap.size, 1, none⟩ = some (.int .i64 (b)) := oa.c 1 rfl
  have la := oa.lt
  have cb0 : World.cell? _ ⟨w.heap.size + 1, 0, none⟩ = some (.int .i64 (c)) := ob.c 0 rfl
  have cb1 : World.cell? _ ⟨w.heap.size + 1, 1, none⟩ = some (.int .i64 (d)) := ob.c 1 rfl
  have lb := ob.lt
  obtain ⟨r1_1, r1_2, r1_3, r1_4, r1_5, r1_6, r1_7, r1_8, rfl⟩ := hvr1_.shape
  have Fr1_ := Hid.mk_ hvr1_
  clear hvr1_
  have zs : w5.heap.size < w6.heap.size := os.lt
  have zz6 := B.size
  go_wp2_with fail
  refine (f1 _).mono ?_
  rintro e w7 ⟨rfl, hb7⟩
  have st : Steps _ w7 := hb7
  have sk : Below w6.heap.size w6 w7 := belowA st
  replace B := below_steps B (Nat.le_refl _) sk
  have ot : Blk w7 (w6.heap.size) 31 #[.bool r1_1, .slice r1_2 r1_3 r1_4, .bool r1_5, .slice r1_6 r1_7 r1_8] := Blk.stepsK st
  replace oa := oa.steps sk
  replace ob := ob.steps sk
  replace ox := ox.steps sk
  replace oy := oy.steps sk
  replace os := os.steps sk
  replace Fx := Hid.mk_ (Fx.out.steps sk)
  replace Fy := Hid.mk_ (Fy.out.steps sk)
  replace Fr1_ := Hid.mk_ (Fr1_.out.steps sk)
  clear st sk ca0 ca1 la cb0 cb1 lb
  have cx0 : World.cell? _ ⟨p10, 0, none⟩ = some (.bool x1) := ox.c 0 rfl
  have cx1 : World.cell? _ ⟨p10, 1, none⟩ = some (.slice x2 x3 x4) := ox.c 1 rfl
  have cx2 : World.cell? _ ⟨p10, 2, none⟩ = some (.bool x5) := ox.c 2 rfl
  have cx3 : World.cell? _ ⟨p10, 3, none⟩ = some (.slice x6 x7 x8) := ox.c 3 rfl
  have lx := ox.lt
  have cy0 : World.cell? _ ⟨p11, 0, none⟩ = some (.bool y1) := oy.c 0 rfl
  have cy1 : World.cell? _ ⟨p11, 1, none⟩ = some (.slice y2 y3 y4) := oy.c 1 rfl
  have cy2 : World.cell? _ ⟨p11, 2, none⟩ = some (.bool y5) := oy.c 2 rfl
  have cy3 : World.cell? _ ⟨p11, 3, none⟩ = some (.slice y6 y7 y8) := oy.c 3 rfl
  have ly := oy.lt
  clear f1
  have zt : w6.heap.size < w7.heap.size := ot.lt
  have zz7 := B.size
  go_wp2_with fail
  refine (rMinusQ _ (Fx.out.keeps keepsB) (Fy.out.keeps keepsB) sx sy (by omega)).mono ?_
  rintro e w8 ⟨vr2_, rfl, hvr2_, hb8⟩
  have st : Steps _ w8 := hb8
  have sk : Below w7.heap.size w7 w8 := belowA st
  replace B := below_steps B (Nat.le_refl _) sk
  have od : Blk w8 (w7.heap.size) 23 #[.int .i64 (s1), .int .i64 (t1)] := Blk.stepsK st
  replace oa := oa.steps sk
  replace ob := ob.steps sk
  replace ox := ox.steps sk
  replace oy := oy.steps sk
  replace os := os.steps sk
  replace ot := ot.steps sk
  replace Fx := Hid.mk_ (Fx.out.steps sk)
  replace Fy := Hid.mk_ (Fy.out.steps sk)
  replace Fr1_ := Hid.mk_ (Fr1_.out.steps sk)
  clear st sk cx0 cx1 cx2 cx3 lx cy0 cy1 cy2 cy3 ly
  have ca0 : World.cell? _ ⟨w.heap.size, 0, none⟩ = some (.int .i64 (a)) := oa.c 0 rfl
  have ca1 : World.cell? _ ⟨w.heap.size, 1, none⟩ = some (.int .i64 (b)) := oa.c 1 rfl
  have la := oa.lt
  have cb0 : World.cell? _ ⟨w.heap.size + 1, 0, none⟩ = some (.int .i64 (c)) := ob.c 0 rfl
  have cb1 : World.cell? _ ⟨w.heap.size + 1, 1, none⟩ = some (.int .i64 (d)) := ob.c 1 rfl
  have lb := ob.lt
  obtain ⟨r2_1, r2_2, r2_3, r2_4, r2_5, r2_6, r2_7, r2_8, rfl⟩ := hvr2_.shape
  have Fr2_ := Hid.mk_ hvr2_
  clear hvr2_
  have zd : w7.heap.size < w8.heap.size := od.lt
  have zz8 := B.size
  go_wp2_with fail
  refine (f2 _).mono ?_
  rintro e w9 ⟨rfl, hb9⟩
  have st : Steps _ w9 := hb9
  have sk : Below w8.heap.size w8 w9 := belowA st
  replace B := below_steps B (Nat.le_refl _) sk
  have ou : Blk w9 (w8.heap.size) 31 #[.bool r2_1, .slice r2_2 r2_3 r2_4, .bool r2_5, .slice r2_6 r2_7 r2_8] := Blk.stepsK st
  replace oa := oa.steps sk
  replace ob := ob.steps sk
  replace ox := ox.steps sk
  replace oy := oy.steps sk
  replace os := os.steps sk
  replace ot := ot.steps sk
  replace od := od.steps sk
  replace Fx := Hid.mk_ (Fx.out.steps sk)
  replace Fy := Hid.mk_ (Fy.out.steps sk)
  replace Fr1_ := Hid.mk_ (Fr1_.out.steps sk)
  replace Fr2_ := Hid.mk_ (Fr2_.out.steps sk)
  clear st sk ca0 ca1 la cb0 cb1 lb
  have cx0 : World.cell? _ ⟨p10, 0, none⟩ = some (.bool x1) := ox.c 0 rfl
  have cx1 : World.cell? _ ⟨p10, 1, none⟩ = some (.slice x2 x3 x4) := ox.c 1 rfl
  have cx2 : World.cell? _ ⟨p10, 2, none⟩ = some (.bool x5) := ox.c 2 rfl
  have cx3 : World.cell? _ ⟨p10, 3, none⟩ = some (.slice x6 x7 x8) := ox.c 3 rfl
  have lx := ox.lt
  have cy0 : World.cell? _ ⟨p11, 0, none⟩ = some (.bool y1) := oy.c 0 rfl
  have cy1 : World.cell? _ ⟨p11, 1, none⟩ = some (.slice y2 y3 y4) := oy.c 1 rfl
  have cy2 : World.cell? _ ⟨p11, 2, none⟩ = some (.bool y5) := oy.c 2 rfl
  have cy3 : World.cell? _ ⟨p11, 3, none⟩ = some (.slice y6 y7 y8) := oy.c 3 rfl
  have ly := oy.lt
  clear f2
  have zu : w8.heap.size < w9.heap.size := ou.lt
  have zz9 := B.size
  go_wp2_with fail
  refine (rTimesQ _ (Fx.out.keeps keepsB) (Fy.out.keeps keepsB) sx sy (by omega)).mono ?_
  rintro e w10 ⟨vr3_, rfl, hvr3_, hb10⟩
  have st : Steps _ w10 := hb10
  have sk : Below w9.heap.size w9 w10 := belowA st
  replace B := below_steps B (Nat.le_refl _) sk
  have op : Blk w10 (w9.heap.size) 23 #[.int .i64 (s2), .int .i64 (t2)] := Blk.stepsK st
  replace oa := oa.steps sk
  replace ob := ob.steps sk
  replace ox := ox.steps sk
  replace oy := oy.steps sk
  replace os := os.steps sk
  replace ot := ot.steps sk
  replace od := od.steps sk
  replace ou := ou.steps sk
  replace Fx := Hid.mk_ (Fx.out.steps sk)
  replace Fy := Hid.mk_ (Fy.out.steps sk)
  replace Fr1_ := Hid.mk_ (Fr1_.out.steps sk)
  replace Fr2_ := Hid.mk_ (Fr2_.out.steps sk)
  clear st sk cx0 cx1 cx2 cx3 lx cy0 cy1 cy2 cy3 ly
  have ca0 : World.cell? _ ⟨w.heap.size, 0, none⟩ = some (.int .i64 (a)) := oa.c 0 rfl
  have ca1 : World.cell? _ ⟨w.heap.size, 1, none⟩ = some (.int .i64 (b)) := oa.c 1 rfl
  have la := oa.lt
  have lb := ob.lt
  obtain ⟨r3_1, r3_2, r3_3, r3_4, r3_5, r3_6, r3_7, r3_8, rfl⟩ := hvr3_.shape
  have Fr3_ := Hid.mk_ hvr3_
  clear hvr3_
  have zp : w9.heap.size < w10.heap.size := op.lt
  have zz10 := B.size
  go_wp2_with fail
  refine (f3 _).mono ?_
  rintro e w11 ⟨rfl, hb11⟩
  have st : Steps _ w11 := hb11
  have sk : Below w10.heap.size w10 w11 := belowA st
  replace B := below_steps B (Nat.le_refl _) sk
  have ov : Blk w11 (w10.heap.size) 31 #[.bool r3_1, .slice r3_2 r3_3 r3_4, .bool r3_5, .slice r3_6 r3_7 r3_8] := Blk.stepsK st
  replace oa := oa.steps sk
  replace ob := ob.steps sk
  replace ox := ox.steps sk
  replace oy := oy.steps sk
  replace os := os.steps sk
  replace ot := ot.steps sk
  replace od := od.steps sk
  replace ou := ou.steps sk
  replace op := op.steps sk
  replace Fx := Hid.mk_ (Fx.out.steps sk)
  replace Fy := Hid.mk_ (Fy.out.steps sk)
  replace Fr1_ := Hid.mk_ (Fr1_.out.steps sk)
  replace Fr2_ := Hid.mk_ (Fr2_.out.steps sk)
  replace Fr3_ := Hid.mk_ (Fr3_.out.steps sk)
  clear st sk ca0 ca1 la lb
  have cx0 : World.cell? _ ⟨p10, 0, none⟩ = some (.bool x1) := ox.c 0 rfl
  have cx1 : World.cell? _ ⟨p10, 1, none⟩ = some (.slice x2 x3 x4) := ox.c 1 rfl
  have cx2 : World.cell? _ ⟨p10, 2, none⟩ = some (.bool x5) := ox.c 2 rfl
  have cx3 : World.cell? _ ⟨p10, 3, none⟩ = some (.slice x6 x7 x8) := ox.c 3 rfl
  have lx := ox.lt
  clear f3
  have zv : w10.heap.size < w11.heap.size := ov.lt
  have zz11 := B.size
  go_wp2_with fail
  refine (rTimesQ _ (Fx.out.keeps keepsB) (Fx.out.keeps keepsB) sx sx (by omega)).mono ?_
  rintro e w12 ⟨vr4_, rfl, hvr4_, hb12⟩
  have st : Steps _ w12 := hb12
  have sk : Below w11.heap.size w11 w12 := belowA st
  replace B := below_steps B (Nat.le_refl _) sk
  have oq : Blk w12 (w11.heap.size) 23 #[.int .i64 (s3), .int .i64 (t3)] := Blk.stepsK st
  replace oa := oa.steps sk
  replace ob := ob.steps sk
  replace ox := ox.steps sk
  replace oy := oy.steps sk
  replace os := os.steps sk
  replace ot := ot.steps sk
  replace od := od.steps sk
  replace ou := ou.steps sk
  replace op := op.steps sk
  replace ov := ov.steps sk
  replace Fx := Hid.mk_ (Fx.out.steps sk)
  replace Fy := Hid.mk_ (Fy.out.steps sk)
  replace Fr1_ := Hid.mk_ (Fr1_.out.steps sk)
  replace Fr2_ := Hid.mk_ (Fr2_.out.steps sk)
  replace Fr3_ := Hid.mk_ (Fr3_.out.steps sk)
  clear st sk cx0 cx1 cx2 cx3 lx
  have cs0 : World.cell? _ ⟨w5.heap.size, 0, none⟩ = some (.int .i64 (s0)) := os.c 0 rfl
  have cs1 : World.cell? _ ⟨w5.heap.size, 1, none⟩ = some (.int .i64 (t0)) := os.c 1 rfl
  have ls := os.lt
  have ct0 : World.cell? _ ⟨w6.heap.size, 0, none⟩ = some (.bool r1_1) := ot.c 0 rfl
  have ct1 : World.cell? _ ⟨w6.heap.size, 1, none⟩ = some (.slice r1_2 r1_3 r1_4) := ot.c 1 rfl
  have ct2 : World.cell? _ ⟨w6.heap.size, 2, none⟩ = some (.bool r1_5) := ot.c 2 rfl
  have ct3 : World.cell? _ ⟨w6.heap.size, 3, none⟩ = some (.slice r1_6 r1_7 r1_8) := ot.c 3 rfl
  have lt := ot.lt
  have cd0 : World.cell? _ ⟨w7.heap.size, 0, none⟩ = some (.int .i64 (s1)) := od.c 0 rfl
  have cd1 : World.cell? _ ⟨w7.heap.size, 1, none⟩ = some (.int .i64 (t1)) := od.c 1 rfl
  have ld := od.lt
  have cu0 : World.cell? _ ⟨w8.heap.size, 0, none⟩ = some (.bool r2_1) := ou.c 0 rfl
  have cu1 : World.cell? _ ⟨w8.heap.size, 1, none⟩ = some (.slice r2_2 r2_3 r2_4) := ou.c 1 rfl
  have cu2 : World.cell? _ ⟨w8.heap.size, 2, none⟩ = some (.bool r2_5) := ou.c 2 rfl
  have cu3 : World.cell? _ ⟨w8.heap.size, 3, none⟩ = some (.slice r2_6 r2_7 r2_8) := ou.c 3 rfl
  have lu := ou.lt
  have cp0 : World.cell? _ ⟨w9.heap.size, 0, none⟩ = some (.int .i64 (s2)) := op.c 0 rfl
  have cp1 : World.cell? _ ⟨w9.heap.size, 1, none⟩ = some (.int .i64 (t2)) := op.c 1 rfl
  have lp := op.lt
  have cv0 : World.cell? _ ⟨w10.heap.size, 0, none⟩ = some (.bool r3_1) := ov.c 0 rfl
  have cv1 : World.cell? _ ⟨w10.heap.size, 1, none⟩ = some (.slice r3_2 r3_3 r3_4) := ov.c 1 rfl
  have cv2 : World.cell? _ ⟨w10.heap.size, 2, none⟩ = some (.bool r3_5) := ov.c 2 rfl
  have cv3 : World.cell? _ ⟨w10.heap.size, 3, none⟩ = some (.slice r3_6 r3_7 r3_8) := ov.c 3 rfl
  have lv := ov.lt
  have cq0 : World.cell? _ ⟨w11.heap.size, 0, none⟩ = some (.int .i64 (s3)) := oq.c 0 rfl
  have cq1 : World.cell? _ ⟨w11.heap.size, 1, none⟩ = some (.int .i64 (t3)) := oq.c 1 rfl
  have lq := oq.lt
  obtain ⟨r4_1, r4_2, r4_3, r4_4, r4_5, r4_6, r4_7, r4_8, rfl⟩ := hvr4_.shape
  have Fr4_ := Hid.mk_ hvr4_
  clear hvr4_
  have zq : w11.heap.size < w12.heap.size := oq.lt
  have zz12 := B.size
  go_upto_region 13 with fail
  go_cut [150] (fun sl0  wx => sl0 = .bool false ∧ Keeps w12 wx ∧ Blk wx (w.heap.size) 23 #[.int .i64 (a), .int .i64 (b)] ∧ Blk wx (w.heap.size + 1) 23 #[.int .i64 (c), .int .i64 (d)] ∧ Blk wx (p10) 31 #[.bool x1, .slice x2 x3 x4, .bool x5, .slice x6 x7 x8] ∧ Blk wx (p11) 31 #[.bool y1, .slice y2 y3 y4, .bool y5, .slice y6 y7 y8] ∧ Blk wx (w5.heap.size) 23 #[.int .i64 (s0), .int .i64 (t0)] ∧ Blk wx (w6.heap.size) 31 #[.bool r1_1, .slice r1_2 r1_3 r1_4, .bool r1_5, .slice r1_6 r1_7 r1_8] ∧ Blk wx (w7.heap.size) 23 #[.int .i64 (s1), .int .i64 (t1)] ∧ Blk wx (w8.heap.size) 31 #[.bool r2_1, .slice r2_2 r2_3 r2_4, .bool r2_5, .slice r2_6 r2_7 r2_8] ∧ Blk wx (w9.heap.size) 23 #[.int .i64 (s2), .int .i64 (t2)] ∧ Blk wx (w10.heap.size) 31 #[.bool r3_1, .slice r3_2 r3_3 r3_4, .bool r3_5, .slice r3_6 r3_7 r3_8] ∧ Blk wx (w11.heap.size) 23 #[.int .i64 (s3), .int .i64 (t3)] ∧ Blk wx (w12.heap.size) 31 #[.bool r4_1, .slice r4_2 r4_3 r4_4, .bool r4_5, .slice r4_6 r4_7 r4_8] ∧ Below w.heap.size w wx)
  case first => as_aux_lemma =>
    have kk := Keeps.refl w12
    cases h0 : (e0 == 0)
    case false =>
      cases h1 : (e1 == 0)
      case false =>
        cases h2 : (e2 == 0)
        case false =>
          cases h3 : (e3 == 0)
          case false =>
            go_wp2_with fail
            go_meet
            exact ⟨rfl, kk.trans keepsB, ownK, ownK, ownK, ownK, ownK, ownK, ownK, ownK, ownK, ownK, ownK, ownK, belowB⟩
          case true =>
            go_wp2_with fail
            refine (hs3 _ _ h3 (Fr4_.out.keeps keepsB)).mono ?_
            rintro e w13 ⟨rfl, hb13⟩
            have st : Steps _ w13 := hb13
            have sk : Below w12.heap.size w12 w13 := belowA st
            replace B := below_steps B (Nat.le_refl _) sk
            have ow_ : Blk w13 (w12.heap.size) 31 #[.bool r4_1, .slice r4_2 r4_3 r4_4, .bool r4_5, .slice r4_6 r4_7 r4_8] := Blk.stepsK st
            replace oa := oa.steps sk
            replace ob := ob.steps sk
            replace ox := ox.steps sk
            replace oy := oy.steps sk
            replace os := os.steps sk
            replace ot := ot.steps sk
            replace od := od.steps sk
            replace ou := ou.steps sk
            replace op := op.steps sk
            replace ov := ov.steps sk
            replace oq := oq.steps sk
            replace Fx := Hid.mk_ (Fx.out.steps sk)
            replace Fy := Hid.mk_ (Fy.out.steps sk)
            replace Fr1_ := Hid.mk_ (Fr1_.out.steps sk)
            replace Fr2_ := Hid.mk_ (Fr2_.out.steps sk)
            replace Fr3_ := Hid.mk_ (Fr3_.out.steps sk)
            replace Fr4_ := Hid.mk_ (Fr4_.out.steps sk)
            replace kk := kk.then_ sk
            clear st sk cs0 cs1 ls ct0 ct1 ct2 ct3 lt cd0 cd1 ld cu0 cu1 cu2 cu3 lu cp0 cp1 lp cv0 cv1 cv2 cv3 lv cq0 cq1 lq
            go_wp2_with fail
            go_meet
            exact ⟨rfl, kk.trans keepsB, ownK, ownK, ownK, ownK, ownK, ownK, ownK, ownK, ownK, ownK, ownK, ownK, belowB⟩
        case true =>
          go_wp2_with fail
          refine (hs2 _ _ h2 (Fr3_.out.keeps keepsB)).mono ?_
          rintro e w13 ⟨rfl, hb13⟩
          have st : Steps _ w13 := hb13
          have sk : Below w12.heap.size w12 w13 := belowA st
          replace B := below_steps B (Nat.le_refl _) sk
          have ow_ : Blk w13 (w12.heap.size) 31 #[.bool r4_1, .slice r4_2 r4_3 r4_4, .bool r4_5, .slice r4_6 r4_7 r4_8] := Blk.stepsK st
          replace oa := oa.steps sk
          replace ob := ob.steps sk
          replace ox := ox.steps sk
          replace oy := oy.steps sk
          replace os := os.steps sk
          replace ot := ot.steps sk
          replace od := od.steps sk
          replace ou := ou.steps sk
          replace op := op.steps sk
          replace ov := ov.steps sk
          replace oq := oq.steps sk
          replace Fx := Hid.mk_ (Fx.out.steps sk)
          replace Fy := Hid.mk_ (Fy.out.steps sk)
          replace Fr1_ := Hid.mk_ (Fr1_.out.steps sk)
          replace Fr2_ := Hid.mk_ (Fr2_.out.steps sk)
          replace Fr3_ := Hid.mk_ (Fr3_.out.steps sk)
          replace Fr4_ := Hid.mk_ (Fr4_.out.steps sk)
          replace kk := kk.then_ sk
          clear st sk cs0 cs1 ls ct0 ct1 ct2 ct3 lt cd0 cd1 ld cu0 cu1 cu2 cu3 lu cp0 cp1 lp cv0 cv1 cv2 cv3 lv cq0 cq1 lq
          have cq0 : World.cell? _ ⟨w11.heap.size, 0, none⟩ = some (.int .i64 (s3)) := oq.c 0 rfl
          have cq1 : World.cell? _ ⟨w11.heap.size, 1, none⟩ = some (.int .i64 (t3)) := oq.c 1 rfl
          have lq := oq.lt
          have cw_0 : World.cell? _ ⟨w12.heap.size, 0, none⟩ = some (.bool r4_1) := ow_.c 0 rfl
          have cw_1 : World.cell? _ ⟨w12.heap.size, 1, none⟩ = some (.slice r4_2 r4_3 r4_4) := ow_.c 1 rfl
          have cw_2 : World.cell? _ ⟨w12.heap.size, 2, none⟩ = some (.bool r4_5) := ow_.c 2 rfl
          have cw_3 : World.cell? _ ⟨w12.heap.size, 3, none⟩ = some (.slice r4_6 r4_7 r4_8) := ow_.c 3 rfl
          have lw_ := ow_.lt
          cases h3 : (e3 == 0)
          case false =>
            go_wp2_with fail
            go_meet
            exact ⟨rfl, kk.trans keepsB, ownK, ownK, ownK, ownK, ownK, ownK, ownK, ownK, ownK, ownK, ownK, ownK, belowB⟩
          case true =>
            go_wp2_with fail
            refine (hs3 _ _ h3 (Fr4_.out.keeps keepsB)).mono ?_
            rintro e w14 ⟨rfl, hb14⟩
            have st : Steps _ w14 := hb14
            have sk : Below w13.heap.size w13 w14 := belowA st
            replace B := below_steps B (Nat.le_refl _) sk
            replace oa := oa.steps sk
            replace ob := ob.steps sk
            replace ox := ox.steps sk
            replace oy := oy.steps sk
            replace os := os.steps sk
            replace ot := ot.steps sk
            replace od := od.steps sk
            replace ou := ou.steps sk
            replace op := op.steps sk
            replace ov := ov.steps sk
            replace oq := oq.steps sk
            replace ow_ := ow_.steps sk
            replace Fx := Hid.mk_ (Fx.out.steps sk)
            replace Fy := Hid.mk_ (Fy.out.steps sk)
            replace Fr1_ := Hid.mk_ (Fr1_.out.steps sk)
            replace Fr2_ := Hid.mk_ (Fr2_.out.steps sk)
            replace Fr3_ := Hid.mk_ (Fr3_.out.steps sk)
            replace Fr4_ := Hid.mk_ (Fr4_.out.steps sk)
            replace kk := kk.then_ sk
            clear st sk cq0 cq1 lq cw_0 cw_1 cw_2 cw_3 lw_
            go_wp2_with fail
            go_meet
            exact ⟨rfl, kk.trans keepsB, ownK, ownK, ownK, ownK, ownK, ownK, ownK, ownK, ownK, ownK, ownK, ownK, belowB⟩
      case true =>
        go_wp2_with fail
        refine (hs1 _ _ h1 (Fr2_.out.keeps keepsB)).mono ?_
        rintro e w13 ⟨rfl, hb13⟩
        have st : Steps _ w13 := hb13
        have sk : Below w12.heap.size w12 w13 := belowA st
        replace B := below_steps B (Nat.le_refl _) sk
        have ow_ : Blk w13 (w12.heap.size) 31 #[.bool r4_1, .slice r4_2 r4_3 r4_4, .bool r4_5, .slice r4_6 r4_7 r4_8] := Blk.stepsK st
        replace oa := oa.steps sk
        replace ob := ob.steps sk
        replace ox := ox.steps sk
        replace oy := oy.steps sk
        replace os := os.steps sk
        replace ot := ot.steps sk
        replace od := od.steps sk
        replace ou := ou.steps sk
        replace op := op.steps sk
        replace ov := ov.steps sk
        replace oq := oq.steps sk
        replace Fx := Hid.mk_ (Fx.out.steps sk)
        replace Fy := Hid.mk_ (Fy.out.steps sk)
        replace Fr1_ := Hid.mk_ (Fr1_.out.steps sk)
        replace Fr2_ := Hid.mk_ (Fr2_.out.steps sk)
        replace Fr3_ := Hid.mk_ (Fr3_.out.steps sk)
        replace Fr4_ := Hid.mk_ (Fr4_.out.steps sk)
        replace kk := kk.then_ sk
        clear st sk cs0 cs1 ls ct0 ct1 ct2 ct3 lt cd0 cd1 ld cu0 cu1 cu2 cu3 lu cp0 cp1 lp cv0 cv1 cv2 cv3 lv cq0 cq1 lq
        have cp0 : World.cell? _ ⟨w9.heap.size, 0, none⟩ = some (.int .i64 (s2)) := op.c 0 rfl
        have cp1 : World.cell? _ ⟨w9.heap.size, 1, none⟩ = some (.int .i64 (t2)) := op.c 1 rfl
        have lp := op.lt
        have cv0 : World.cell? _ ⟨w10.heap.size, 0, none⟩ = some (.bool r3_1) := ov.c 0 rfl
        have cv1 : World.cell? _ ⟨w10.heap.size, 1, none⟩ = some (.slice r3_2 r3_3 r3_4) := ov.c 1 rfl
        have cv2 : World.cell? _ ⟨w10.heap.size, 2, none⟩ = some (.bool r3_5) := ov.c 2 rfl
        have cv3 : World.cell? _ ⟨w10.heap.size, 3, none⟩ = some (.slice r3_6 r3_7 r3_8) := ov.c 3 rfl
        have lv := ov.lt
        have cq0 : World.cell? _ ⟨w11.heap.size, 0, none⟩ = some (.int .i64 (s3)) := oq.c 0 rfl
        have cq1 : World.cell? _ ⟨w11.heap.size, 1, none⟩ = some (.int .i64 (t3)) := oq.c 1 rfl
        have lq := oq.lt
        have cw_0 : World.cell? _ ⟨w12.heap.size, 0, none⟩ = some (.bool r4_1) := ow_.c 0 rfl
        have cw_1 : World.cell? _ ⟨w12.heap.size, 1, none⟩ = some (.slice r4_2 r4_3 r4_4) := ow_.c 1 rfl
        have cw_2 : World.cell? _ ⟨w12.heap.size, 2, none⟩ = some (.bool r4_5) := ow_.c 2 rfl
        have cw_3 : World.cell? _ ⟨w12.heap.size, 3, none⟩ = some (.slice r4_6 r4_7 r4_8) := ow_.c 3 rfl
        have lw_ := ow_.lt
        cases h2 : (e2 == 0)
        case false =>
          cases h3 : (e3 == 0)
          case false =>
            go_wp2_with fail
            go_meet
            exact ⟨rfl, kk.trans keepsB, ownK, ownK, ownK, ownK, ownK, ownK, ownK, ownK, ownK, ownK, ownK, ownK, belowB⟩
          case true =>
            go_wp2_with fail
            refine (hs3 _ _ h3 (Fr4_.out.keeps keepsB)).mono ?_
            rintro e w14 ⟨rfl, hb14⟩
            have st : Steps _ w14 := hb14
            have sk : Below w13.heap.size w13 w14 := belowA st
            replace B := below_steps B (Nat.le_refl _) sk
            replace oa := oa.steps sk
            replace ob := ob.steps sk
            replace ox := ox.steps sk
            replace oy := oy.steps sk
            replace os := os.steps sk
            replace ot := ot.steps sk
            replace od := od.steps sk
            replace ou := ou.steps sk
            replace op := op.steps sk
            replace ov := ov.steps sk
            replace oq := oq.steps sk
            replace ow_ := ow_.steps sk
            replace Fx := Hid.mk_ (Fx.out.steps sk)
            replace Fy := Hid.mk_ (Fy.out.steps sk)
            replace Fr1_ := Hid.mk_ (Fr1_.out.steps sk)
            replace Fr2_ := Hid.mk_ (Fr2_.out.steps sk)
            replace Fr3_ := Hid.mk_ (Fr3_.out.steps sk)
            replace Fr4_ := Hid.mk_ (Fr4_.out.steps sk)
            replace kk := kk.then_ sk
            clear st sk cp0 cp1 lp cv0 cv1 cv2 cv3 lv cq0 cq1 lq cw_0 cw_1 cw_2 cw_3 lw_
            go_wp2_with fail
            go_meet
            exact ⟨rfl, kk.trans keepsB, ownK, ownK, ownK, ownK, ownK, ownK, ownK, ownK, ownK, ownK, ownK, ownK, belowB⟩
        case true =>
          go_wp2_with fail
          refine (hs2 _ _ h2 (Fr3_.out.keeps keepsB)).mono ?_
          rintro e w14 ⟨rfl, hb14⟩
          have st : Steps _ w14 := hb14
          have sk : Below w13.heap.size w13 w14 := belowA st
          replace B := below_steps B (Nat.le_refl _) sk
          replace oa := oa.steps sk
          replace ob := ob.steps sk
          replace ox := ox.steps sk
          replace oy := oy.steps sk
          replace os := os.steps sk
          replace ot := ot.steps sk
          replace od := od.steps sk
          replace ou := ou.steps sk
          replace op := op.steps sk
          replace ov := ov.steps sk
          replace oq := oq.steps sk
          replace ow_ := ow_.steps sk
          replace Fx := Hid.mk_ (Fx.out.steps sk)
          replace Fy := Hid.mk_ (Fy.out.steps sk)
          replace Fr1_ := Hid.mk_ (Fr1_.out.steps sk)
          replace Fr2_ := Hid.mk_ (Fr2_.out.steps sk)
          replace Fr3_ := Hid.mk_ (Fr3_.out.steps sk)
          replace Fr4_ := Hid.mk_ (Fr4_.out.steps sk)
          replace kk := kk.then_ sk
          clear st sk cp0 cp1 lp cv0 cv1 cv2 cv3 lv cq0 cq1 lq cw_0 cw_1 cw_2 cw_3 lw_
          have cq0 : World.cell? _ ⟨w11.heap.size, 0, none⟩ = some (.int .i64 (s3)) := oq.c 0 rfl
          have cq1 : World.cell? _ ⟨w11.heap.size, 1, none⟩ = some (.int .i64 (t3)) := oq.c 1 rfl
          have lq := oq.lt
          have cw_0 : World.cell? _ ⟨w12.heap.size, 0, none⟩ = some (.bool r4_1) := ow_.c 0 rfl
          have cw_1 : World.cell? _ ⟨w12.heap.size, 1, none⟩ = some (.slice r4_2 r4_3 r4_4) := ow_.c 1 rfl
          have cw_2 : World.cell? _ ⟨w12.heap.size, 2, none⟩ = some (.bool r4_5) := ow_.c 2 rfl
          have cw_3 : World.cell? _ ⟨w12.heap.size, 3, none⟩ = some (.slice r4_6 r4_7 r4_8) := ow_.c 3 rfl
          have lw_ := ow_.lt
          cases h3 : (e3 == 0)
          case false =>
            go_wp2_with fail
            go_meet
            exact ⟨rfl, kk.trans keepsB, ownK, ownK, ownK, ownK, ownK, ownK, ownK, ownK, ownK, ownK, ownK, ownK, belowB⟩
          case true =>
            go_wp2_with fail
            refine (hs3 _ _ h3 (Fr4_.out.keeps keepsB)).mono ?_
            rintro e w15 ⟨rfl, hb15⟩
            have st : Steps _ w15 := hb15
            have sk : Below w14.heap.size w14 w15 := belowA st
            replace B := below_steps B (Nat.le_refl _) sk
            replace oa := oa.steps sk
            replace ob := ob.steps sk
            replace ox := ox.steps sk
            replace oy := oy.steps sk
            replace os := os.steps sk
            replace ot := ot.steps sk
            replace od := od.steps sk
            replace ou := ou.steps sk
            replace op := op.steps sk
            replace ov := ov.steps sk
            replace oq := oq.steps sk
            replace ow_ := ow_.steps sk
            replace Fx := Hid.mk_ (Fx.out.steps sk)
            replace Fy := Hid.mk_ (Fy.out.steps sk)
            replace Fr1_ := Hid.mk_ (Fr1_.out.steps sk)
            replace Fr2_ := Hid.mk_ (Fr2_.out.steps sk)
            replace Fr3_ := Hid.mk_ (Fr3_.out.steps sk)
            replace Fr4_ := Hid.mk_ (Fr4_.out.steps sk)
            replace kk := kk.then_ sk
            clear st sk cq0 cq1 lq cw_0 cw_1 cw_2 cw_3 lw_
            go_wp2_with fail
            go_meet
            exact ⟨rfl, kk.trans keepsB, ownK, ownK, ownK, ownK, ownK, ownK, ownK, ownK, ownK, ownK, ownK, ownK, belowB⟩
    case true =>
      go_wp2_with fail
      refine (hs0 _ _ h0 (Fr1_.out.keeps keepsB)).mono ?_
      rintro e w13 ⟨rfl, hb13⟩
      have st : Steps _ w13 := hb13
      have sk : Below w12.heap.size w12 w13 := belowA st
      replace B := below_steps B (Nat.le_refl _) sk
      have ow_ : Blk w13 (w12.heap.size) 31 #[.bool r4_1, .slice r4_2 r4_3 r4_4, .bool r4_5, .slice r4_6 r4_7 r4_8] := Blk.stepsK st
      replace oa := oa.steps sk
      replace ob := ob.steps sk
      replace ox := ox.steps sk
      replace oy := oy.steps sk
      replace os := os.steps sk
      replace ot := ot.steps sk
      replace od := od.steps sk
      replace ou := ou.steps sk
      replace op := op.steps sk
      replace ov := ov.steps sk
      replace oq := oq.steps sk
      replace Fx := Hid.mk_ (Fx.out.steps sk)
      replace Fy := Hid.mk_ (Fy.out.steps sk)
      replace Fr1_ := Hid.mk_ (Fr1_.out.steps sk)
      replace Fr2_ := Hid.mk_ (Fr2_.out.steps sk)
      replace Fr3_ := Hid.mk_ (Fr3_.out.steps sk)
      replace Fr4_ := Hid.mk_ (Fr4_.out.steps sk)
      replace kk := kk.then_ sk
      clear st sk cs0 cs1 ls ct0 ct1 ct2 ct3 lt cd0 cd1 ld cu0 cu1 cu2 cu3 lu cp0 cp1 lp cv0 cv1 cv2 cv3 lv cq0 cq1 lq
      have cd0 : World.cell? _ ⟨w7.heap.size, 0, none⟩ = some (.int .i64 (s1)) := od.c 0 rfl
      have cd1 : World.cell? _ ⟨w7.heap.size, 1, none⟩ = some (.int .i64 (t1)) := od.c 1 rfl
      have ld := od.lt
      have cu0 : World.cell? _ ⟨w8.heap.size, 0, none⟩ = some (.bool r2_1) := ou.c 0 rfl
      have cu1 : World.cell? _ ⟨w8.heap.size, 1, none⟩ = some (.slice r2_2 r2_3 r2_4) := ou.c 1 rfl
      have cu2 : World.cell? _ ⟨w8.heap.size, 2, none⟩ = some (.bool r2_5) := ou.c 2 rfl
      have cu3 : World.cell? _ ⟨w8.heap.size, 3, none⟩ = some (.slice r2_6 r2_7 r2_8) := ou.c 3 rfl
      have lu := ou.lt
      have cp0 : World.cell? _ ⟨w9.heap.size, 0, none⟩ = some (.int .i64 (s2)) := op.c 0 rfl
      have cp1 : World.cell? _ ⟨w9.heap.size, 1, none⟩ = some (.int .i64 (t2)) := op.c 1 rfl
      have lp := op.lt
      have cv0 : World.cell? _ ⟨w10.heap.size, 0, none⟩ = some (.bool r3_1) := ov.c 0 rfl
      have cv1 : World.cell? _ ⟨w10.heap.size, 1, none⟩ = some (.slice r3_2 r3_3 r3_4) := ov.c 1 rfl
      have cv2 : World.cell? _ ⟨w10.heap.size, 2, none⟩ = some (.bool r3_5) := ov.c 2 rfl
      have cv3 : World.cell? _ ⟨w10.heap.size, 3, none⟩ = some (.slice r3_6 r3_7 r3_8) := ov.c 3 rfl
      have lv := ov.lt
      have cq0 : World.cell? _ ⟨w11.heap.size, 0, none⟩ = some (.int .i64 (s3)) := oq.c 0 rfl
      have cq1 : World.cell? _ ⟨w11.heap.size, 1, none⟩ = some (.int .i64 (t3)) := oq.c 1 rfl
      have lq := oq.lt
      have cw_0 : World.cell? _ ⟨w12.heap.size, 0, none⟩ = some (.bool r4_1) := ow_.c 0 rfl
      have cw_1 : World.cell? _ ⟨w12.heap.size, 1, none⟩ = some (.slice r4_2 r4_3 r4_4) := ow_.c 1 rfl
      have cw_2 : World.cell? _ ⟨w12.heap.size, 2, none⟩ = some (.bool r4_5) := ow_.c 2 rfl
      have cw_3 : World.cell? _ ⟨w12.heap.size, 3, none⟩ = some (.slice r4_6 r4_7 r4_8) := ow_.c 3 rfl
      have lw_ := ow_.lt
      cases h1 : (e1 == 0)
      case false =>
        cases h2 : (e2 == 0)
        case false =>
          cases h3 : (e3 == 0)
          case false =>
            go_wp2_with fail
            go_meet
            exact ⟨rfl, kk.trans keepsB, ownK, ownK, ownK, ownK, ownK, ownK, ownK, ownK, ownK, ownK, ownK, ownK, belowB⟩
          case true =>
            go_wp2_with fail
            refine (hs3 _ _ h3 (Fr4_.out.keeps keepsB)).mono ?_
            rintro e w14 ⟨rfl, hb14⟩
            have st : Steps _ w14 := hb14
            have sk : Below w13.heap.size w13 w14 := belowA st
            replace B := below_steps B (Nat.le_refl _) sk
            replace oa := oa.steps sk
            replace ob := ob.steps sk
            replace ox := ox.steps sk
            replace oy := oy.steps sk
            replace os := os.steps sk
            replace ot := ot.steps sk
            replace od := od.steps sk
            replace ou := ou.steps sk
            replace op := op.steps sk
            replace ov := ov.steps sk
            replace oq := oq.steps sk
            replace ow_ := ow_.steps sk
            replace Fx := Hid.mk_ (Fx.out.steps sk)
            replace Fy := Hid.mk_ (Fy.out.steps sk)
            replace Fr1_ := Hid.mk_ (Fr1_.out.steps sk)
            replace Fr2_ := Hid.mk_ (Fr2_.out.steps sk)
            replace Fr3_ := Hid.mk_ (Fr3_.out.steps sk)
            replace Fr4_ := Hid.mk_ (Fr4_.out.steps sk)
            replace kk := kk.then_ sk
            clear st sk cd0 cd1 ld cu0 cu1 cu2 cu3 lu cp0 cp1 lp cv0 cv1 cv2 cv3 lv cq0 cq1 lq cw_0 cw_1 cw_2 cw_3 lw_
            go_wp2_with fail
            go_meet
            exact ⟨rfl, kk.trans keepsB, ownK, ownK, ownK, ownK, ownK, ownK, ownK, ownK, ownK, ownK, ownK, ownK, belowB⟩
        case true =>
          go_wp2_with fail
          refine (hs2 _ _ h2 (Fr3_.out.keeps keepsB)).mono ?_
          rintro e w14 ⟨rfl, hb14⟩
          have st : Steps _ w14 := hb14
          have sk : Below w13.heap.size w13 w14 := belowA st
          replace B := below_steps B (Nat.le_refl _) sk
          replace oa := oa.steps sk
          replace ob := ob.steps sk
          replace ox := ox.steps sk
          replace oy := oy.steps sk
          replace os := os.steps sk
          replace ot := ot.steps sk
          replace od := od.steps sk
          replace ou := ou.steps sk
          replace op := op.steps sk
          replace ov := ov.steps sk
          replace oq := oq.steps sk
          replace ow_ := ow_.steps sk
          replace Fx := Hid.mk_ (Fx.out.steps sk)
          replace Fy := Hid.mk_ (Fy.out.steps sk)
          replace Fr1_ := Hid.mk_ (Fr1_.out.steps sk)
          replace Fr2_ := Hid.mk_ (Fr2_.out.steps sk)
          replace Fr3_ := Hid.mk_ (Fr3_.out.steps sk)
          replace Fr4_ := Hid.mk_ (Fr4_.out.steps sk)
          replace kk := kk.then_ sk
          clear st sk cd0 cd1 ld cu0 cu1 cu2 cu3 lu cp0 cp1 lp cv0 cv1 cv2 cv3 lv cq0 cq1 lq cw_0 cw_1 cw_2 cw_3 lw_
          have cq0 : World.cell? _ ⟨w11.heap.size, 0, none⟩ = some (.int .i64 (s3)) := oq.c 0 rfl
          have cq1 : World.cell? _ ⟨w11.heap.size, 1, none⟩ = some (.int .i64 (t3)) := oq.c 1 rfl
          have lq := oq.lt
          have cw_0 : World.cell? _ ⟨w12.heap.size, 0, none⟩ = some (.bool r4_1) := ow_.c 0 rfl
          have cw_1 : World.cell? _ ⟨w12.heap.size, 1, none⟩ = some (.slice r4_2 r4_3 r4_4) := ow_.c 1 rfl
          have cw_2 : World.cell? _ ⟨w12.heap.size, 2, none⟩ = some (.bool r4_5) := ow_.c 2 rfl
          have cw_3 : World.cell? _ ⟨w12.heap.size, 3, none⟩ = some (.slice r4_6 r4_7 r4_8) := ow_.c 3 rfl
          have lw_ := ow_.lt
          cases h3 : (e3 == 0)
          case false =>
            go_wp2_with fail
            go_meet
            exact ⟨rfl, kk.trans keepsB, ownK, ownK, ownK, ownK, ownK, ownK, ownK, ownK, ownK, ownK, ownK, ownK, belowB⟩
          case true =>
            go_wp2_with fail
            refine (hs3 _ _ h3 (Fr4_.out.keeps keepsB)).mono ?_
            rintro e w15 ⟨rfl, hb15⟩
            have st : Steps _ w15 := hb15
            have sk : Below w14.heap.size w14 w15 := belowA st
            replace B := below_steps B (Nat.le_refl _) sk
            replace oa := oa.steps sk
            replace ob := ob.steps sk
            replace ox := ox.steps sk
            replace oy := oy.steps sk
            replace os := os.steps sk
            replace ot := ot.steps sk
            replace od := od.steps sk
            replace ou := ou.steps sk
            replace op := op.steps sk
            replace ov := ov.steps sk
            replace oq := oq.steps sk
            replace ow_ := ow_.steps sk
            replace Fx := Hid.mk_ (Fx.out.steps sk)
            replace Fy := Hid.mk_ (Fy.out.steps sk)
            replace Fr1_ := Hid.mk_ (Fr1_.out.steps sk)
            replace Fr2_ := Hid.mk_ (Fr2_.out.steps sk)
            replace Fr3_ := Hid.mk_ (Fr3_.out.steps sk)
            replace Fr4_ := Hid.mk_ (Fr4_.out.steps sk)
            replace kk := kk.then_ sk
            clear st sk cq0 cq1 lq cw_0 cw_1 cw_2 cw_3 lw_
            go_wp2_with fail
            go_meet
            exact ⟨rfl, kk.trans keepsB, ownK, ownK, ownK, ownK, ownK, ownK, ownK, ownK, ownK, ownK, ownK, ownK, belowB⟩
      case true =>
        go_wp2_with fail
        refine (hs1 _ _ h1 (Fr2_.out.keeps keepsB)).mono ?_
        rintro e w14 ⟨rfl, hb14⟩
        have st : Steps _ w14 := hb14
        have sk : Below w13.heap.size w13 w14 := belowA st
        replace B := below_steps B (Nat.le_refl _) sk
        replace oa := oa.steps sk
        replace ob := ob.steps sk
        replace ox := ox.steps sk
        replace oy := oy.steps sk
        replace os := os.steps sk
        replace ot := ot.steps sk
        replace od := od.steps sk
        replace ou := ou.steps sk
        replace op := op.steps sk
        replace ov := ov.steps sk
        replace oq := oq.steps sk
        replace ow_ := ow_.steps sk
        replace Fx := Hid.mk_ (Fx.out.steps sk)
        replace Fy := Hid.mk_ (Fy.out.steps sk)
        replace Fr1_ := Hid.mk_ (Fr1_.out.steps sk)
        replace Fr2_ := Hid.mk_ (Fr2_.out.steps sk)
        replace Fr3_ := Hid.mk_ (Fr3_.out.steps sk)
        replace Fr4_ := Hid.mk_ (Fr4_.out.steps sk)
        replace kk := kk.then_ sk
        clear st sk cd0 cd1 ld cu0 cu1 cu2 cu3 lu cp0 cp1 lp cv0 cv1 cv2 cv3 lv cq0 cq1 lq cw_0 cw_1 cw_2 cw_3 lw_
        have cp0 : World.cell? _ ⟨w9.heap.size, 0, none⟩ = some (.int .i64 (s2)) := op.c 0 rfl
        have cp1 : World.cell? _ ⟨w9.heap.size, 1, none⟩ = some (.int .i64 (t2)) := op.c 1 rfl
        have lp := op.lt
        have cv0 : World.cell? _ ⟨w10.heap.size, 0, none⟩ = some (.bool r3_1) := ov.c 0 rfl
        have cv1 : World.cell? _ ⟨w10.heap.size, 1, none⟩ = some (.slice r3_2 r3_3 r3_4) := ov.c 1 rfl
        have cv2 : World.cell? _ ⟨w10.heap.size, 2, none⟩ = some (.bool r3_5) := ov.c 2 rfl
        have cv3 : World.cell? _ ⟨w10.heap.size, 3, none⟩ = some (.slice r3_6 r3_7 r3_8) := ov.c 3 rfl
        have lv := ov.lt
        have cq0 : World.cell? _ ⟨w11.heap.size, 0, none⟩ = some (.int .i64 (s3)) := oq.c 0 rfl
        have cq1 : World.cell? _ ⟨w11.heap.size, 1, none⟩ = some (.int .i64 (t3)) := oq.c 1 rfl
        have lq := oq.lt
        have cw_0 : World.cell? _ ⟨w12.heap.size, 0, none⟩ = some (.bool r4_1) := ow_.c 0 rfl
        have cw_1 : World.cell? _ ⟨w12.heap.size, 1, none⟩ = some (.slice r4_2 r4_3 r4_4) := ow_.c 1 rfl
        have cw_2 : World.cell? _ ⟨w12.heap.size, 2, none⟩ = some (.bool r4_5) := ow_.c 2 rfl
        have cw_3 : World.cell? _ ⟨w12.heap.size, 3, none⟩ = some (.slice r4_6 r4_7 r4_8) := ow_.c 3 rfl
        have lw_ := ow_.lt
        cases h2 : (e2 == 0)
        case false =>
          cases h3 : (e3 == 0)
          case false =>
            go_wp2_with fail
            go_meet
            exact ⟨rfl, kk.trans keepsB, ownK, ownK, ownK, ownK, ownK, ownK, ownK, ownK, ownK, ownK, ownK, ownK, belowB⟩
          case true =>
            go_wp2_with fail
            refine (hs3 _ _ h3 (Fr4_.out.keeps keepsB)).mono ?_
            rintro e w15 ⟨rfl, hb15⟩
            have st : Steps _ w15 := hb15
            have sk : Below w14.heap.size w14 w15 := belowA st
            replace B := below_steps B (Nat.le_refl _) sk
            replace oa := oa.steps sk
            replace ob := ob.steps sk
            replace ox := ox.steps sk
            replace oy := oy.steps sk
            replace os := os.steps sk
            replace ot := ot.steps sk
            replace od := od.steps sk
            replace ou := ou.steps sk
            replace op := op.steps sk
            replace ov := ov.steps sk
            replace oq := oq.steps sk
            replace ow_ := ow_.steps sk
            replace Fx := Hid.mk_ (Fx.out.steps sk)
            replace Fy := Hid.mk_ (Fy.out.steps sk)
            replace Fr1_ := Hid.mk_ (Fr1_.out.steps sk)
            replace Fr2_ := Hid.mk_ (Fr2_.out.steps sk)
            replace Fr3_ := Hid.mk_ (Fr3_.out.steps sk)
            replace Fr4_ := Hid.mk_ (Fr4_.out.steps sk)
            replace kk := kk.then_ sk
            clear st sk cp0 cp1 lp cv0 cv1 cv2 cv3 lv cq0 cq1 lq cw_0 cw_1 cw_2 cw_3 lw_
            go_wp2_with fail
            go_meet
            exact ⟨rfl, kk.trans keepsB, ownK, ownK, ownK, ownK, ownK, ownK, ownK, ownK, ownK, ownK, ownK, ownK, belowB⟩
        case true =>
          go_wp2_with fail
          refine (hs2 _ _ h2 (Fr3_.out.keeps keepsB)).mono ?_
          rintro e w15 ⟨rfl, hb15⟩
          have st : Steps _ w15 := hb15
          have sk : Below w14.heap.size w14 w15 := belowA st
          replace B := below_steps B (Nat.le_refl _) sk
          replace oa := oa.steps sk
          replace ob := ob.steps sk
          replace ox := ox.steps sk
          replace oy := oy.steps sk
          replace os := os.steps sk
          replace ot := ot.steps sk
          replace od := od.steps sk
          replace ou := ou.steps sk
          replace op := op.steps sk
          replace ov := ov.steps sk
          replace oq := oq.steps sk
          replace ow_ := ow_.steps sk
          replace Fx := Hid.mk_ (Fx.out.steps sk)
          replace Fy := Hid.mk_ (Fy.out.steps sk)
          replace Fr1_ := Hid.mk_ (Fr1_.out.steps sk)
          replace Fr2_ := Hid.mk_ (Fr2_.out.steps sk)
          replace Fr3_ := Hid.mk_ (Fr3_.out.steps sk)
          replace Fr4_ := Hid.mk_ (Fr4_.out.steps sk)
          replace kk := kk.then_ sk
          clear st sk cp0 cp1 lp cv0 cv1 cv2 cv3 lv cq0 cq1 lq cw_0 cw_1 cw_2 cw_3 lw_
          have cq0 : World.cell? _ ⟨w11.heap.size, 0, none⟩ = some (.int .i64 (s3)) := oq.c 0 rfl
          have cq1 : World.cell? _ ⟨w11.heap.size, 1, none⟩ = some (.int .i64 (t3)) := oq.c 1 rfl
          have lq := oq.lt
          have cw_0 : World.cell? _ ⟨w12.heap.size, 0, none⟩ = some (.bool r4_1) := ow_.c 0 rfl
          have cw_1 : World.cell? _ ⟨w12.heap.size, 1, none⟩ = some (.slice r4_2 r4_3 r4_4) := ow_.c 1 rfl
          have cw_2 : World.cell? _ ⟨w12.heap.size, 2, none⟩ = some (.bool r4_5) := ow_.c 2 rfl
          have cw_3 : World.cell? _ ⟨w12.heap.size, 3, none⟩ = some (.slice r4_6 r4_7 r4_8) := ow_.c 3 rfl
          have lw_ := ow_.lt
          cases h3 : (e3 == 0)
          case false =>
            go_wp2_with fail
            go_meet
            exact ⟨rfl, kk.trans keepsB, ownK, ownK, ownK, ownK, ownK, ownK, ownK, ownK, ownK, ownK, ownK, ownK, belowB⟩
          case true =>
            go_wp2_with fail
            refine (hs3 _ _ h3 (Fr4_.out.keeps keepsB)).mono ?_
            rintro e w16 ⟨rfl, hb16⟩
            have st : Steps _ w16 := hb16
            have sk : Below w15.heap.size w15 w16 := belowA st
            replace B := below_steps B (Nat.le_refl _) sk
            replace oa := oa.steps sk
            replace ob := ob.steps sk
            replace ox := ox.steps sk
            replace oy := oy.steps sk
            replace os := os.steps sk
            replace ot := ot.steps sk
            replace od := od.steps sk
            replace ou := ou.steps sk
            replace op := op.steps sk
            replace ov := ov.steps sk
            replace oq := oq.steps sk
            replace ow_ := ow_.steps sk
            replace Fx := Hid.mk_ (Fx.out.steps sk)
            replace Fy := Hid.mk_ (Fy.out.steps sk)
            replace Fr1_ := Hid.mk_ (Fr1_.out.steps sk)
            replace Fr2_ := Hid.mk_ (Fr2_.out.steps sk)
            replace Fr3_ := Hid.mk_ (Fr3_.out.steps sk)
            replace Fr4_ := Hid.mk_ (Fr4_.out.steps sk)
            replace kk := kk.then_ sk
            clear st sk cq0 cq1 lq cw_0 cw_1 cw_2 cw_3 lw_
            go_wp2_with fail
            go_meet
            exact ⟨rfl, kk.trans keepsB, ownK, ownK, ownK, ownK, ownK, ownK, ownK, ownK, ownK, ownK, ownK, ownK, belowB⟩
  case rest => as_aux_lemma =>
    clear cs0 cs1 ls ct0 ct1 ct2 ct3 lt cd0 cd1 ld cu0 cu1 cu2 cu3 lu cp0 cp1 lp cv0 cv1 cv2 cv3 lv cq0 cq1 lq
    obtain ⟨rfl, kp, oa, ob, ox, oy, os, ot, od, ou, op, ov, oq, ow_, B⟩ := hcut
    obtain ⟨w13, hw_⟩ : ∃ x, x = wc := ⟨_, rfl⟩
    subst hw_
    have Fx' := Hid.mk_ (Fx.out.keeps kp)
    clear Fx
    have Fx := Fx'
    clear Fx'
    have Fy' := Hid.mk_ (Fy.out.keeps kp)
    clear Fy
    have Fy := Fy'
    clear Fy'
    have Fr1_' := Hid.mk_ (Fr1_.out.keeps kp)
    clear Fr1_
    have Fr1_ := Fr1_'
    clear Fr1_'
    have Fr2_' := Hid.mk_ (Fr2_.out.keeps kp)
    clear Fr2_
    have Fr2_ := Fr2_'
    clear Fr2_'
    have Fr3_' := Hid.mk_ (Fr3_.out.keeps kp)
    clear Fr3_
    have Fr3_ := Fr3_'
    clear Fr3_'
    have Fr4_' := Hid.mk_ (Fr4_.out.keeps kp)
    clear Fr4_
    have Fr4_ := Fr4_'
    clear Fr4_'
    clear kp hs0 hs1 hs2 hs3
    have ca0 : World.cell? _ ⟨w.heap.size, 0, none⟩ = some (.int .i64 (a)) := oa.c 0 rfl
    have ca1 : World.cell? _ ⟨w.heap.size, 1, none⟩ = some (.int .i64 (b)) := oa.c 1 rfl
    have la := oa.lt
    have cb0 : World.cell? _ ⟨w.heap.size + 1, 0, none⟩ = some (.int .i64 (c)) := ob.c 0 rfl
    have cb1 : World.cell? _ ⟨w.heap.size + 1, 1, none⟩ = some (.int .i64 (d)) := ob.c 1 rfl
    have lb := ob.lt
    go_wp2_with fail
    refine (f4 _).mono ?_
    rintro e w14 ⟨rfl, hb14⟩
    have st : Steps _ w14 := hb14
    have sk : Below w13.heap.size w13 w14 := belowA st
    replace B := below_steps B (Nat.le_refl _) sk
    replace oa := oa.steps sk
    replace ob := ob.steps sk
    replace ox := ox.steps sk
    replace oy := oy.steps sk
    replace os := os.steps sk
    replace ot := ot.steps sk
    replace od := od.steps sk
    replace ou := ou.steps sk
    replace op := op.steps sk
    replace ov := ov.steps sk
    replace oq := oq.steps sk
    replace ow_ := ow_.steps sk
    replace Fx := Hid.mk_ (Fx.out.steps sk)
    replace Fy := Hid.mk_ (Fy.out.steps sk)
    replace Fr1_ := Hid.mk_ (Fr1_.out.steps sk)
    replace Fr2_ := Hid.mk_ (Fr2_.out.steps sk)
    replace Fr3_ := Hid.mk_ (Fr3_.out.steps sk)
    replace Fr4_ := Hid.mk_ (Fr4_.out.steps sk)
    clear st sk ca0 ca1 la cb0 cb1 lb
    have cy0 : World.cell? _ ⟨p11, 0, none⟩ = some (.bool y1) := oy.c 0 rfl
    have cy1 : World.cell? _ ⟨p11, 1, none⟩ = some (.slice y2 y3 y4) := oy.c 1 rfl
    have cy2 : World.cell? _ ⟨p11, 2, none⟩ = some (.bool y5) := oy.c 2 rfl
    have cy3 : World.cell? _ ⟨p11, 3, none⟩ = some (.slice y6 y7 y8) := oy.c 3 rfl
    have ly := oy.lt
    clear f4
    have zw_ : w12.heap.size < w14.heap.size := ow_.lt
    have zz14 := B.size
    have hlen := Fy.out.len
    have HL := Hid.mk_ hlen
    clear hlen
    go_upto_region 16 with fail
    go_cut [165] (fun sl0  wx => sl0 = .bool ((e4 == 0) && decide (0 < y3)) ∧ Keeps w14 wx ∧ Blk wx (w.heap.size) 23 #[.int .i64 (a), .int .i64 (b)] ∧ Blk wx (w.heap.size + 1) 23 #[.int .i64 (c), .int .i64 (d)] ∧ Blk wx (p10) 31 #[.bool x1, .slice x2 x3 x4, .bool x5, .slice x6 x7 x8] ∧ Blk wx (p11) 31 #[.bool y1, .slice y2 y3 y4, .bool y5, .slice y6 y7 y8] ∧ Blk wx (w5.heap.size) 23 #[.int .i64 (s0), .int .i64 (t0)] ∧ Blk wx (w6.heap.size) 31 #[.bool r1_1, .slice r1_2 r1_3 r1_4, .bool r1_5, .slice r1_6 r1_7 r1_8] ∧ Blk wx (w7.heap.size) 23 #[.int .i64 (s1), .int .i64 (t1)] ∧ Blk wx (w8.heap.size) 31 #[.bool r2_1, .slice r2_2 r2_3 r2_4, .bool r2_5, .slice r2_6 r2_7 r2_8] ∧ Blk wx (w9.heap.size) 23 #[.int .i64 (s2), .int .i64 (t2)] ∧ Blk wx (w10.heap.size) 31 #[.bool r3_1, .slice r3_2 r3_3 r3_4, .bool r3_5, .slice r3_6 r3_7 r3_8] ∧ Blk wx (w11.heap.size) 23 #[.int .i64 (s3), .int .i64 (t3)] ∧ Blk wx (w12.heap.size) 31 #[.bool r4_1, .slice r4_2 r4_3 r4_4, .bool r4_5, .slice r4_6 r4_7 r4_8] ∧ Blk wx (w14.heap.size) 23 #[.int .i64 (s4), .int .i64 (t4)] ∧ Below w.heap.size w wx)
    case first => as_aux_lemma =>
      have kk := Keeps.refl w14
      by_cases h : 0 < y3
      · cases h4 : (e4 == 0)
        · go_wp2_with fail
          go_meet
          exact ⟨by rw [h4]; simp [h], kk.trans keepsB, ownK, ownK, ownK, ownK, ownK, ownK, ownK, ownK, ownK, ownK, ownK, ownK, ownK, belowB⟩
        · go_wp2_with fail
          go_meet
          exact ⟨by rw [h4]; simp [h], kk.trans keepsB, ownK, ownK, ownK, ownK, ownK, ownK, ownK, ownK, ownK, ownK, ownK, ownK, ownK, belowB⟩
      · cases h4 : (e4 == 0)
        · go_wp2_with fail
          go_meet
          exact ⟨by rw [h4]; simp [h], kk.trans keepsB, ownK, ownK, ownK, ownK, ownK, ownK, ownK, ownK, ownK, ownK, ownK, ownK, ownK, belowB⟩
        · go_wp2_with fail
          go_meet
          exact ⟨by rw [h4]; simp [h], kk.trans keepsB, ownK, ownK, ownK, ownK, ownK, ownK, ownK, ownK, ownK, ownK, ownK, ownK, ownK, belowB⟩
    case rest => as_aux_lemma =>
      clear cy0 cy1 cy2 cy3 ly
      obtain ⟨rfl, kp, oa, ob, ox, oy, os, ot, od, ou, op, ov, oq, ow_, or, B⟩ := hcut
      obtain ⟨w15, hw_⟩ : ∃ x, x = wc := ⟨_, rfl⟩
      subst hw_
      have Fx' := Hid.mk_ (Fx.out.keeps kp)
      clear Fx
      have Fx := Fx'
      clear Fx'
      have Fy' := Hid.mk_ (Fy.out.keeps kp)
      clear Fy
      have Fy := Fy'
      clear Fy'
      have Fr1_' := Hid.mk_ (Fr1_.out.keeps kp)
      clear Fr1_
      have Fr1_ := Fr1_'
      clear Fr1_'
      have Fr2_' := Hid.mk_ (Fr2_.out.keeps kp)
      clear Fr2_
      have Fr2_ := Fr2_'
      clear Fr2_'
      have Fr3_' := Hid.mk_ (Fr3_.out.keeps kp)
      clear Fr3_
      have Fr3_ := Fr3_'
      clear Fr3_'
      have Fr4_' := Hid.mk_ (Fr4_.out.keeps kp)
      clear Fr4_
      have Fr4_ := Fr4_'
      clear Fr4_'
      clear kp
      have cx0 : World.cell? _ ⟨p10, 0, none⟩ = some (.bool x1) := ox.c 0 rfl
      have cx1 : World.cell? _ ⟨p10, 1, none⟩ = some (.slice x2 x3 x4) := ox.c 1 rfl
      have cx2 : World.cell? _ ⟨p10, 2, none⟩ = some (.bool x5) := ox.c 2 rfl
      have cx3 : World.cell? _ ⟨p10, 3, none⟩ = some (.slice x6 x7 x8) := ox.c 3 rfl
      have lx := ox.lt
      have cy0 : World.cell? _ ⟨p11, 0, none⟩ = some (.bool y1) := oy.c 0 rfl
      have cy1 : World.cell? _ ⟨p11, 1, none⟩ = some (.slice y2 y3 y4) := oy.c 1 rfl
      have cy2 : World.cell? _ ⟨p11, 2, none⟩ = some (.bool y5) := oy.c 2 rfl
      have cy3 : World.cell? _ ⟨p11, 3, none⟩ = some (.slice y6 y7 y8) := oy.c 3 rfl
      have ly := oy.lt
      go_upto_if 165 with fail
      go_cut [] (fun  wx => Keeps w15 wx ∧ Blk wx (w.heap.size) 23 #[.int .i64 (a), .int .i64 (b)] ∧ Blk wx (w.heap.size + 1) 23 #[.int .i64 (c), .int .i64 (d)] ∧ Blk wx (p10) 31 #[.bool x1, .slice x2 x3 x4, .bool x5, .slice x6 x7 x8] ∧ Blk wx (p11) 31 #[.bool y1, .slice y2 y3 y4, .bool y5, .slice y6 y7 y8] ∧ Blk wx (w5.heap.size) 23 #[.int .i64 (s0), .int .i64 (t0)] ∧ Blk wx (w6.heap.size) 31 #[.bool r1_1, .slice r1_2 r1_3 r1_4, .bool r1_5, .slice r1_6 r1_7 r1_8] ∧ Blk wx (w7.heap.size) 23 #[.int .i64 (s1), .int .i64 (t1)] ∧ Blk wx (w8.heap.size) 31 #[.bool r2_1, .slice r2_2 r2_3 r2_4, .bool r2_5, .slice r2_6 r2_7 r2_8] ∧ Blk wx (w9.heap.size) 23 #[.int .i64 (s2), .int .i64 (t2)] ∧ Blk wx (w10.heap.size) 31 #[.bool r3_1, .slice r3_2 r3_3 r3_4, .bool r3_5, .slice r3_6 r3_7 r3_8] ∧ Blk wx (w11.heap.size) 23 #[.int .i64 (s3), .int .i64 (t3)] ∧ Blk wx (w12.heap.size) 31 #[.bool r4_1, .slice r4_2 r4_3 r4_4, .bool r4_5, .slice r4_6 r4_7 r4_8] ∧ Blk wx (w14.heap.size) 23 #[.int .i64 (s4), .int .i64 (t4)] ∧ Below w.heap.size w wx)
      case first => as_aux_lemma =>
        have kk := Keeps.refl w15
        by_cases hc : ((e4 == 0) && decide (0 < y3)) = true
        · have hc2 := hc
          rw [Bool.and_eq_true, decide_eq_true_eq] at hc2
          obtain ⟨h4, hp⟩ := hc2
          have hy0 : y ≠ 0 := fun e => by have := HL.out.2 (by rw [e]; exact unit_zero); omega
          rw [hc]
          go_wp2_with fail
          refine (ovr _ _ _ hy0 (Fx.out.keeps keepsB) (Fy.out.keeps keepsB)).mono ?_
          rintro e w16 ⟨vz, rfl, hvz, hb16⟩
          have st : Steps _ w16 := hb16
          have sk : Below w15.heap.size w15 w16 := belowA st
          replace B := below_steps B (Nat.le_refl _) sk
          replace oa := oa.steps sk
          replace ob := ob.steps sk
          replace ox := ox.steps sk
          replace oy := oy.steps sk
          replace os := os.steps sk
          replace ot := ot.steps sk
          replace od := od.steps sk
          replace ou := ou.steps sk
          replace op := op.steps sk
          replace ov := ov.steps sk
          replace oq := oq.steps sk
          replace ow_ := ow_.steps sk
          replace or := or.steps sk
          replace Fx := Hid.mk_ (Fx.out.steps sk)
          replace Fy := Hid.mk_ (Fy.out.steps sk)
          replace Fr1_ := Hid.mk_ (Fr1_.out.steps sk)
          replace Fr2_ := Hid.mk_ (Fr2_.out.steps sk)
          replace Fr3_ := Hid.mk_ (Fr3_.out.steps sk)
          replace Fr4_ := Hid.mk_ (Fr4_.out.steps sk)
          replace kk := kk.then_ sk
          clear st sk cx0 cx1 cx2 cx3 lx cy0 cy1 cy2 cy3 ly
          have cr0 : World.cell? _ ⟨w14.heap.size, 0, none⟩ = some (.int .i64 (s4)) := or.c 0 rfl
          have cr1 : World.cell? _ ⟨w14.heap.size, 1, none⟩ = some (.int .i64 (t4)) := or.c 1 rfl
          have lr := or.lt
          obtain ⟨z1, z2, z3, z4, z5, z6, z7, z8, rfl⟩ := hvz.shape
          have Fz := Hid.mk_ hvz
          clear hvz
          have zr : w14.heap.size < w16.heap.size := or.lt
          have zz16 := B.size
          go_wp2_with fail
          refine (hs4 hy0 _ _ h4 (Fz.out.keeps keepsB)).mono ?_
          rintro e w17 ⟨rfl, hb17⟩
          have st : Steps _ w17 := hb17
          have sk : Below w16.heap.size w16 w17 := belowA st
          replace B := below_steps B (Nat.le_refl _) sk
          have oz : Blk w17 (w16.heap.size) 31 #[.bool z1, .slice z2 z3 z4, .bool z5, .slice z6 z7 z8] := Blk.stepsK st
          replace oa := oa.steps sk
          replace ob := ob.steps sk
          replace ox := ox.steps sk
          replace oy := oy.steps sk
          replace os := os.steps sk
          replace ot := ot.steps sk
          replace od := od.steps sk
          replace ou := ou.steps sk
          replace op := op.steps sk
          replace ov := ov.steps sk
          replace oq := oq.steps sk
          replace ow_ := ow_.steps sk
          replace or := or.steps sk
          replace Fx := Hid.mk_ (Fx.out.steps sk)
          replace Fy := Hid.mk_ (Fy.out.steps sk)
          replace Fr1_ := Hid.mk_ (Fr1_.out.steps sk)
          replace Fr2_ := Hid.mk_ (Fr2_.out.steps sk)
          replace Fr3_ := Hid.mk_ (Fr3_.out.steps sk)
          replace Fr4_ := Hid.mk_ (Fr4_.out.steps sk)
          replace Fz := Hid.mk_ (Fz.out.steps sk)
          replace kk := kk.then_ sk
          clear st sk cr0 cr1 lr
          go_wp2_with fail
          go_meet
          exact ⟨kk.trans keepsB, ownK, ownK, ownK, ownK, ownK, ownK, ownK, ownK, ownK, ownK, ownK, ownK, ownK, belowB⟩
        · rw [Bool.not_eq_true] at hc
          rw [hc]
          go_wp2_with fail
          go_meet
          exact ⟨kk.trans keepsB, ownK, ownK, ownK, ownK, ownK, ownK, ownK, ownK, ownK, ownK, ownK, ownK, ownK, belowB⟩
      case rest => as_aux_lemma =>
        clear cx0 cx1 cx2 cx3 lx cy0 cy1 cy2 cy3 ly
        obtain ⟨kp, oa, ob, ox, oy, os, ot, od, ou, op, ov, oq, ow_, or, B⟩ := hcut
        obtain ⟨w16, hw_⟩ : ∃ x, x = wc := ⟨_, rfl⟩
        subst hw_
        have Fx' := Hid.mk_ (Fx.out.keeps kp)
        clear Fx
        have Fx := Fx'
        clear Fx'
        have Fy' := Hid.mk_ (Fy.out.keeps kp)
        clear Fy
        have Fy := Fy'
        clear Fy'
        have Fr1_' := Hid.mk_ (Fr1_.out.keeps kp)
        clear Fr1_
        have Fr1_ := Fr1_'
        clear Fr1_'
        have Fr2_' := Hid.mk_ (Fr2_.out.keeps kp)
        clear Fr2_
        have Fr2_ := Fr2_'
        clear Fr2_'
        have Fr3_' := Hid.mk_ (Fr3_.out.keeps kp)
        clear Fr3_
        have Fr3_ := Fr3_'
        clear Fr3_'
        have Fr4_' := Hid.mk_ (Fr4_.out.keeps kp)
        clear Fr4_
        have Fr4_ := Fr4_'
        clear Fr4_'
        clear kp hs4 ovr HL
        have ca0 : World.cell? _ ⟨w.heap.size, 0, none⟩ = some (.int .i64 (a)) := oa.c 0 rfl
        have ca1 : World.cell? _ ⟨w.heap.size, 1, none⟩ = some (.int .i64 (b)) := oa.c 1 rfl
        have la := oa.lt
        have lb := ob.lt
        rcases SQ.out with ⟨ha, hm⟩ | ⟨ha, hm3, p1, p2, p3, p4, p5, p6⟩
        · obtain ⟨rfl, rfl, rfl⟩ : m1 = 0 ∧ m2 = 0 ∧ m3 = 2 := by simpa using hm
          clear SQ Fx Fy
          go_wp2_with fail
          refine (f5 _).mono ?_
          rintro e w17 ⟨rfl, hb17⟩
          have st : Steps _ w17 := hb17
          have sk : Below w16.heap.size w16 w17 := belowA st
          replace B := below_steps B (Nat.le_refl _) sk
          replace oa := oa.steps sk
          replace ob := ob.steps sk
          replace ox := ox.steps sk
          replace oy := oy.steps sk
          replace os := os.steps sk
          replace ot := ot.steps sk
          replace od := od.steps sk
          replace ou := ou.steps sk
          replace op := op.steps sk
          replace ov := ov.steps sk
          replace oq := oq.steps sk
          replace ow_ := ow_.steps sk
          replace or := or.steps sk
          replace Fr1_ := Hid.mk_ (Fr1_.out.steps sk)
          replace Fr2_ := Hid.mk_ (Fr2_.out.steps sk)
          replace Fr3_ := Hid.mk_ (Fr3_.out.steps sk)
          replace Fr4_ := Hid.mk_ (Fr4_.out.steps sk)
          clear st sk ca0 ca1 la lb
          have ca0 : World.cell? _ ⟨w.heap.size, 0, none⟩ = some (.int .i64 (a)) := oa.c 0 rfl
          have ca1 : World.cell? _ ⟨w.heap.size, 1, none⟩ = some (.int .i64 (b)) := oa.c 1 rfl
          have la := oa.lt
          have lb := ob.lt
          clear f5
          have zr : w14.heap.size < w17.heap.size := or.lt
          have zz17 := B.size
          go_wp2
          go_returns
          exact ⟨retBool (by simp [ha]), belowB⟩
        · try dsimp only at hm3 p1 p2 p3 p4 p5 p6
          subst hm3
          have l3 := fun w' => lnumber m1 w' (by omega) (by omega)
          have l4 := fun w' => lnumber m2 w' (by omega) (by omega)
          have sm1 := sz_unit (n := m1) (by omega) (by omega)
          have sm2 := sz_unit (n := m2) (by omega) (by omega)
          have H1 := cmpQ_le.2 p5
          have H2 := cmpQ_le.2 p6
          have cx : ∀ w' u v, FR w' u (unitQ m1 * unitQ m1) → FR w' v (unitQ x) → Calls Tryz.prog 20 #[u, v] w' fun e w2 => e = .returned (.tuple #[.int .i64 (cmpQ (unitQ m1 * unitQ m1) (unitQ x)), .int .i64 0]) ∧ Steps w' w2 := fun w' u v h1 h2 => rCmpQ w' h1 h2 (sm1.mul sm1) sx (by omega)
          have cy : ∀ w' u v, FR w' u (unitQ x) → FR w' v (unitQ m2 * unitQ m2) → Calls Tryz.prog 20 #[u, v] w' fun e w2 => e = .returned (.tuple #[.int .i64 (cmpQ (unitQ x) (unitQ m2 * unitQ m2)), .int .i64 0]) ∧ Steps w' w2 := fun w' u v h1 h2 => rCmpQ w' h1 h2 sx (sm2.mul sm2) (by omega)
          obtain ⟨c1, hc1⟩ : ∃ c, cmpQ (unitQ m1 * unitQ m1) (unitQ x) = c := ⟨_, rfl⟩
          obtain ⟨c2, hc2⟩ : ∃ c, cmpQ (unitQ x) (unitQ m2 * unitQ m2) = c := ⟨_, rfl⟩
          rw [hc1] at H1 cx
          rw [hc2] at H2 cy
          clear SQ Fy p5 p6 hc1 hc2
          go_wp2_with fail
          refine (f5 _).mono ?_
          rintro e w17 ⟨rfl, hb17⟩
          have st : Steps _ w17 := hb17
          have sk : Below w16.heap.size w16 w17 := belowA st
          replace B := below_steps B (Nat.le_refl _) sk
          replace oa := oa.steps sk
          replace ob := ob.steps sk
          replace ox := ox.steps sk
          replace oy := oy.steps sk
          replace os := os.steps sk
          replace ot := ot.steps sk
          replace od := od.steps sk
          replace ou := ou.steps sk
          replace op := op.steps sk
          replace ov := ov.steps sk
          replace oq := oq.steps sk
          replace ow_ := ow_.steps sk
          replace or := or.steps sk
          replace Fx := Hid.mk_ (Fx.out.steps sk)
          replace Fr1_ := Hid.mk_ (Fr1_.out.steps sk)
          replace Fr2_ := Hid.mk_ (Fr2_.out.steps sk)
          replace Fr3_ := Hid.mk_ (Fr3_.out.steps sk)
          replace Fr4_ := Hid.mk_ (Fr4_.out.steps sk)
          clear st sk ca0 ca1 la lb
          clear f5
          have zr : w14.heap.size < w17.heap.size := or.lt
          have zz17 := B.size
          go_upto_region 23 with fail
          refine Reg.wp_chain_n (fun N0 D v W => Below w.heap.size w W ∧ Keeps w17 W ∧ N0 ≤ W.heap.size ∧ Blk W (w.heap.size) 23 #[.int .i64 (a), .int .i64 (b)] ∧ Blk W (w.heap.size + 1) 23 #[.int .i64 (c), .int .i64 (d)] ∧ Blk W (p10) 31 #[.bool x1, .slice x2 x3 x4, .bool x5, .slice x6 x7 x8] ∧ Blk W (p11) 31 #[.bool y1, .slice y2 y3 y4, .bool y5, .slice y6 y7 y8] ∧ Blk W (w5.heap.size) 23 #[.int .i64 (s0), .int .i64 (t0)] ∧ Blk W (w6.heap.size) 31 #[.bool r1_1, .slice r1_2 r1_3 r1_4, .bool r1_5, .slice r1_6 r1_7 r1_8] ∧ Blk W (w7.heap.size) 23 #[.int .i64 (s1), .int .i64 (t1)] ∧ Blk W (w8.heap.size) 31 #[.bool r2_1, .slice r2_2 r2_3 r2_4, .bool r2_5, .slice r2_6 r2_7 r2_8] ∧ Blk W (w9.heap.size) 23 #[.int .i64 (s2), .int .i64 (t2)] ∧ Blk W (w10.heap.size) 31 #[.bool r3_1, .slice r3_2 r3_3 r3_4, .bool r3_5, .slice r3_6 r3_7 r3_8] ∧ Blk W (w11.heap.size) 23 #[.int .i64 (s3), .int .i64 (t3)] ∧ Blk W (w12.heap.size) 31 #[.bool r4_1, .slice r4_2 r4_3 r4_4, .bool r4_5, .slice r4_6 r4_7 r4_8] ∧ Blk W (w14.heap.size) 23 #[.int .i64 (s4), .int .i64 (t4)] ∧ Blk W (w17.heap.size) 23 #[.int .i64 (m1), .int .i64 (m2)] ∧ (D 6 = true → ∃ g : Nat, v 6 = .pointer (some ⟨g, 0, none⟩) ∧ N0 ≤ g ∧ g < W.heap.size ∧ (D 8 = false → Blk W g 31 #[.bool false, .slice none 0 0, .bool false, .slice none 0 0]) ∧ (D 8 = true → D 2 = true ∧ ∃ cs, v 2 = .agg cs ∧ Blk W g 31 cs)) ∧ (D 7 = true → ∃ g : Nat, v 7 = .pointer (some ⟨g, 0, none⟩) ∧ N0 ≤ g ∧ g < W.heap.size ∧ (D 9 = false → Blk W g 31 #[.bool false, .slice none 0 0, .bool false, .slice none 0 0]) ∧ (D 9 = true → D 5 = true ∧ ∃ cs, v 5 = .agg cs ∧ Blk W g 31 cs)) ∧ (D 6 = true → D 7 = true → v 6 ≠ v 7))
            (Reg.inl [2, 5, 6, 7, 8, 9]) (Reg.gv [(2, IsFr), (5, IsFr), (6, IsPtr), (7, IsPtr)]) (gw [(2, GFr (unitQ m1)), (5, GFr (unitQ m2))]) (fun _ => Keeps) (fun _ _ => False) (Reg.pl [(8, [(2, some 195), (6, some 34)]), (9, [(5, some 198), (7, some 35)]), (10, [(2, some 195), (5, some 198), (6, some 34), (7, some 35)])]) (Reg.pl [(6, [8]), (2, [8]), (7, [9]), (5, [9])])
            (by kernel_rfl) (by kernel_rfl) (by kernel_rfl) (Reg.gv_some _ (by intro p hp; simp only [List.mem_cons, List.not_mem_nil, or_false] at hp; rcases hp with rfl | rfl | rfl | rfl <;> first | exact ⟨_, rfl⟩ | exact ⟨_, 0, rfl⟩ | exact ⟨_, none, 0, 0, rfl⟩ | exact ⟨_, false, none, 0, 0, rfl⟩ | exact ⟨_, false, none, 0, 0, false, none, 0, 0, rfl⟩)) (fun N0 hN0 => ⟨fun v => ?_, fun D v v' W hv hj => ?_, fun D v k j W W' x _ _ _ _ hk hg => gw_keeps _ (by intro p hp; simp only [List.mem_cons, List.not_mem_nil, or_false] at hp; rcases hp with rfl | rfl <;> first | exact GFr.keeps | exact GFrE.keeps | exact GNu.keeps | exact GNuE.keeps | exact GLi.keeps) hk hg, fun _ _ _ _ h => h.elim, fun ops' Q' hops hQ => ?_⟩)
          · exact ⟨belowB, keepsB, Nat.le_of_eq hN0.out, ownK, ownK, ownK, ownK, ownK, ownK, ownK, ownK, ownK, ownK, ownK, ownK, ownK, ownK, (fun h => Bool.noConfusion h), (fun h => Bool.noConfusion h), (fun h => Bool.noConfusion h)⟩
          · obtain ⟨j0, jk, jn, b_a, b_b, b_x, b_y, b_s, b_t, b_d, b_u, b_p, b_v, b_q, b_w_, b_r, b_m, a_6, a_7, q_6_7⟩ := hj
            exact ⟨j0, jk, jn, b_a, b_b, b_x, b_y, b_s, b_t, b_d, b_u, b_p, b_v, b_q, b_w_, b_r, b_m, fun h => by obtain ⟨g, e1, e2, e3, e4, e5⟩ := a_6 h; exact ⟨g, (hv 6 h) ▸ e1, e2, e3, e4, fun h => by obtain ⟨d, cs, e, hb⟩ := e5 h; exact ⟨d, cs, (hv 2 d) ▸ e, hb⟩⟩, fun h => by obtain ⟨g, e1, e2, e3, e4, e5⟩ := a_7 h; exact ⟨g, (hv 7 h) ▸ e1, e2, e3, e4, fun h => by obtain ⟨d, cs, e, hb⟩ := e5 h; exact ⟨d, cs, (hv 5 d) ▸ e, hb⟩⟩, fun h h' => (hv 6 h) ▸ (hv 7 h') ▸ q_6_7 h h'⟩
          have i_a : w.heap.size < N0 := by have e := hN0.out; (try simp only [World.size_alloc, World.size_setCell, World.size_drew, World.heap_drewN] at e); first | omega | (have h := oa.lt; omega)
          have i_b : w.heap.size + 1 < N0 := by have e := hN0.out; (try simp only [World.size_alloc, World.size_setCell, World.size_drew, World.heap_drewN] at e); first | omega | (have h := ob.lt; omega)
          have i_x : p10 < N0 := by have e := hN0.out; (try simp only [World.size_alloc, World.size_setCell, World.size_drew, World.heap_drewN] at e); first | omega | (have h := ox.lt; omega)
          have i_y : p11 < N0 := by have e := hN0.out; (try simp only [World.size_alloc, World.size_setCell, World.size_drew, World.heap_drewN] at e); first | omega | (have h := oy.lt; omega)
          have i_s : w5.heap.size < N0 := by have e := hN0.out; (try simp only [World.size_alloc, World.size_setCell, World.size_drew, World.heap_drewN] at e); first | omega | (have h := os.lt; omega)
          have i_t : w6.heap.size < N0 := by have e := hN0.out; (try simp only [World.size_alloc, World.size_setCell, World.size_drew, World.heap_drewN] at e); first | omega | (have h := ot.lt; omega)
          have i_d : w7.heap.size < N0 := by have e := hN0.out; (try simp only [World.size_alloc, World.size_setCell, World.size_drew, World.heap_drewN] at e); first | omega | (have h := od.lt; omega)
          have i_u : w8.heap.size < N0 := by have e := hN0.out; (try simp only [World.size_alloc, World.size_setCell, World.size_drew, World.heap_drewN] at e); first | omega | (have h := ou.lt; omega)
          have i_p : w9.heap.size < N0 := by have e := hN0.out; (try simp only [World.size_alloc, World.size_setCell, World.size_drew, World.heap_drewN] at e); first | omega | (have h := op.lt; omega)
          have i_v : w10.heap.size < N0 := by have e := hN0.out; (try simp only [World.size_alloc, World.size_setCell, World.size_drew, World.heap_drewN] at e); first | omega | (have h := ov.lt; omega)
          have i_q : w11.heap.size < N0 := by have e := hN0.out; (try simp only [World.size_alloc, World.size_setCell, World.size_drew, World.heap_drewN] at e); first | omega | (have h := oq.lt; omega)
          have i_w_ : w12.heap.size < N0 := by have e := hN0.out; (try simp only [World.size_alloc, World.size_setCell, World.size_drew, World.heap_drewN] at e); first | omega | (have h := ow_.lt; omega)
          have i_r : w14.heap.size < N0 := by have e := hN0.out; (try simp only [World.size_alloc, World.size_setCell, World.size_drew, World.heap_drewN] at e); first | omega | (have h := or.lt; omega)
          have i_m : w17.heap.size < N0 := by have e := hN0.out; (try simp only [World.size_alloc, World.size_setCell, World.size_drew, World.heap_drewN] at e); first | omega | (have h := om.lt; omega)
          have iw : w.heap.size ≤ N0 := by have e := hN0.out; (try simp only [World.size_alloc, World.size_setCell, World.size_drew, World.heap_drewN] at e); first | omega | (have h := B.size; omega)
          clear hN0
          apply Reg.RC_pure (hc := rfl) (hst := rfl) (hw := rfl) (t := 193) (hd := rfl) (ht := Nat.le_of_ble_eq_true rfl)
          · intro D v' W' hc hj hf K hK
            go_step
            exact hK.out
          · rfl
          apply Reg.RC_pure (hc := rfl) (hst := rfl) (hw := rfl) (t := 194) (hd := rfl) (ht := Nat.le_of_ble_eq_true rfl)
          · intro D v' W' hc hj hf K hK
            obtain ⟨j0, jk, jn, b_a, b_b, b_x, b_y, b_s, b_t, b_d, b_u, b_p, b_v, b_q, b_w_, b_r, b_m, a_6, a_7, q_6_7⟩ := hj
            have c0 : W'.cell? ⟨w17.heap.size, 0, none⟩ = some (.int .i64 (m1)) := b_m.c 0 rfl
            have c1 : W'.cell? ⟨w17.heap.size, 1, none⟩ = some (.int .i64 (m2)) := b_m.c 1 rfl
            go_step
            exact hK.out
          · rfl
          refine Reg.RC_call rfl (by intro t ht; cases ht; exact Nat.le_of_ble_eq_true rfl) rfl (fun D v' W' hc hj hf K hK => ?_) ?_
          · obtain ⟨j0, jk, jn, b_a, b_b, b_x, b_y, b_s, b_t, b_d, b_u, b_p, b_v, b_q, b_w_, b_r, b_m, a_6, a_7, q_6_7⟩ := hj
            clear hf
            go_step
            refine (l3 W').mono ?_
            rintro e W2 ⟨u, rfl, hu, hs⟩
            obtain ⟨lo1, lo2, lo3, lo4, lo5, lo6, lo7, lo8, rfl⟩ := hu.shape
            exact hK.out _ W2 (Keeps.steps hs) ⟨below_steps j0 (Nat.le_refl _) hs, jk.then_ hs, Nat.le_trans jn hs.size, b_a.steps hs, b_b.steps hs, b_x.steps hs, b_y.steps hs, b_s.steps hs, b_t.steps hs, b_d.steps hs, b_u.steps hs, b_p.steps hs, b_v.steps hs, b_q.steps hs, b_w_.steps hs, b_r.steps hs, b_m.steps hs, fun h => by obtain ⟨g, e1, e2, e3, e4, e5⟩ := a_6 h; exact ⟨g, e1, e2, Nat.lt_of_lt_of_le e3 (hs).size, fun h => (e4 h).steps hs, fun h => Bool.noConfusion ((hc.2 8 (by decide)).symm.trans h)⟩, fun h => by obtain ⟨g, e1, e2, e3, e4, e5⟩ := a_7 h; exact ⟨g, e1, e2, Nat.lt_of_lt_of_le e3 (hs).size, fun h => (e4 h).steps hs, fun h => by obtain ⟨d, cs, e, hb⟩ := e5 h; exact ⟨d, cs, e, hb.steps hs⟩⟩, q_6_7⟩ hu ⟨_, _, _, _, _, _, _, _, rfl⟩
          rintro _ ⟨lo1, lo2, lo3, lo4, lo5, lo6, lo7, lo8, rfl⟩
          refine Reg.RC_at (b := ⟨#[_, _, _, _, _, _, _, _, _, _, _, _, _, _, _, _, _, _, _, _, _, _, _, _, _, _, _, _, _, _, _, _, _, _, _, _, _, _, _, _, _, _, _, _, _, _, _, _, _, _, _, _, _, _, _, _, _, _, _, _, _, _, _, _, _, _, _, _, _, _, _, _, _, _, _, _, _, _, _, _, _, _, _, _, _, _, _, _, _, _, _, _, _, _, _, _, _, _, _, _, _, _, _, _, _, _, _, _, _, _, _, _, _, _, _, _, _, _, _, _, _, _, _, _, _, _, _, _, _, _, _, _, _, _, _, _, _, _, _, _, _, _, _, _, _, _, _, _, _, _, _, _, _, _, _, _, _, _, _, _, _, _, _, _, _, _, _, _, _, _, _, _, _, _, _, _, _, _, _, _, _, _, _, _, _, _, _, _, _, _, _, _, _, _, _, _, _, _, _, _, _, _, _, _, _, _, _, _, _, _, _, _, _, _, _, _, _, _, _, _, _, _, _, _, _, _, _, _, _, _, _, _, _, _, _, _, _], _⟩) rfl ?_
          apply Reg.RC_pure (hc := rfl) (hst := rfl) (hw := rfl) (t := 196) (hd := rfl) (ht := Nat.le_of_ble_eq_true rfl)
          · intro D v' W' hc hj hf K hK
            go_step
            exact hK.out
          · rfl
          apply Reg.RC_pure (hc := rfl) (hst := rfl) (hw := rfl) (t := 197) (hd := rfl) (ht := Nat.le_of_ble_eq_true rfl)
          · intro D v' W' hc hj hf K hK
            obtain ⟨j0, jk, jn, b_a, b_b, b_x, b_y, b_s, b_t, b_d, b_u, b_p, b_v, b_q, b_w_, b_r, b_m, a_6, a_7, q_6_7⟩ := hj
            have c0 : W'.cell? ⟨w17.heap.size, 0, none⟩ = some (.int .i64 (m1)) := b_m.c 0 rfl
            have c1 : W'.cell? ⟨w17.heap.size, 1, none⟩ = some (.int .i64 (m2)) := b_m.c 1 rfl
            go_step
            exact hK.out
          · rfl
          refine Reg.RC_call rfl (by intro t ht; cases ht; exact Nat.le_of_ble_eq_true rfl) rfl (fun D v' W' hc hj hf K hK => ?_) ?_
          · obtain ⟨j0, jk, jn, b_a, b_b, b_x, b_y, b_s, b_t, b_d, b_u, b_p, b_v, b_q, b_w_, b_r, b_m, a_6, a_7, q_6_7⟩ := hj
            clear hf
            go_step
            refine (l4 W').mono ?_
            rintro e W2 ⟨u, rfl, hu, hs⟩
            obtain ⟨hi1, hi2, hi3, hi4, hi5, hi6, hi7, hi8, rfl⟩ := hu.shape
            exact hK.out _ W2 (Keeps.steps hs) ⟨below_steps j0 (Nat.le_refl _) hs, jk.then_ hs, Nat.le_trans jn hs.size, b_a.steps hs, b_b.steps hs, b_x.steps hs, b_y.steps hs, b_s.steps hs, b_t.steps hs, b_d.steps hs, b_u.steps hs, b_p.steps hs, b_v.steps hs, b_q.steps hs, b_w_.steps hs, b_r.steps hs, b_m.steps hs, fun h => by obtain ⟨g, e1, e2, e3, e4, e5⟩ := a_6 h; exact ⟨g, e1, e2, Nat.lt_of_lt_of_le e3 (hs).size, fun h => (e4 h).steps hs, fun h => by obtain ⟨d, cs, e, hb⟩ := e5 h; exact ⟨d, cs, e, hb.steps hs⟩⟩, fun h => by obtain ⟨g, e1, e2, e3, e4, e5⟩ := a_7 h; exact ⟨g, e1, e2, Nat.lt_of_lt_of_le e3 (hs).size, fun h => (e4 h).steps hs, fun h => Bool.noConfusion ((hc.2 9 (by decide)).symm.trans h)⟩, q_6_7⟩ hu ⟨_, _, _, _, _, _, _, _, rfl⟩
          rintro _ ⟨hi1, hi2, hi3, hi4, hi5, hi6, hi7, hi8, rfl⟩
          refine Reg.RC_at (b := ⟨#[_, _, _, _, _, _, _, _, _, _, _, _, _, _, _, _, _, _, _, _, _, _, _, _, _, _, _, _, _, _, _, _, _, _, _, _, _, _, _, _, _, _, _, _, _, _, _, _, _, _, _, _, _, _, _, _, _, _, _, _, _, _, _, _, _, _, _, _, _, _, _, _, _, _, _, _, _, _, _, _, _, _, _, _, _, _, _, _, _, _, _, _, _, _, _, _, _, _, _, _, _, _, _, _, _, _, _, _, _, _, _, _, _, _, _, _, _, _, _, _, _, _, _, _, _, _, _, _, _, _, _, _, _, _, _, _, _, _, _, _, _, _, _, _, _, _, _, _, _, _, _, _, _, _, _, _, _, _, _, _, _, _, _, _, _, _, _, _, _, _, _, _, _, _, _, _, _, _, _, _, _, _, _, _, _, _, _, _, _, _, _, _, _, _, _, _, _, _, _, _, _, _, _, _, _, _, _, _, _, _, _, _, _, _, _, _, _, _, _, _, _, _, _, _, _, _, _, _, _, _, _, _, _, _, _, _, _], _⟩) rfl ?_
          refine Reg.RC_call rfl (by intro t ht; cases ht; exact Nat.le_of_ble_eq_true rfl) rfl (fun D v' W' hc hj hf K hK => ?_) ?_
          · obtain ⟨j0, jk, jn, b_a, b_b, b_x, b_y, b_s, b_t, b_d, b_u, b_p, b_v, b_q, b_w_, b_r, b_m, a_6, a_7, q_6_7⟩ := hj
            go_step
            have hs : ∀ o : Obj, Steps W' (W'.alloc o) := fun o => (Below.refl _ _).alloc (Nat.le_refl _) o
            exact hK.out _ _ (Keeps.steps (hs _)) ⟨below_steps j0 (Nat.le_refl _) (hs _), jk.then_ (hs _), Nat.le_trans jn (hs _).size, b_a.steps (hs _), b_b.steps (hs _), b_x.steps (hs _), b_y.steps (hs _), b_s.steps (hs _), b_t.steps (hs _), b_d.steps (hs _), b_u.steps (hs _), b_p.steps (hs _), b_v.steps (hs _), b_q.steps (hs _), b_w_.steps (hs _), b_r.steps (hs _), b_m.steps (hs _), fun _ => ⟨W'.heap.size, rfl, jn, by rw [World.size_alloc]; omega, fun _ => Blk.new _ _ _, fun h => Bool.noConfusion ((hc.2 8 (by decide)).symm.trans h)⟩, fun h => by obtain ⟨g, e1, e2, e3, e4, e5⟩ := a_7 h; exact ⟨g, e1, e2, Nat.lt_of_lt_of_le e3 ((hs _)).size, fun h => (e4 h).steps (hs _), fun h => by obtain ⟨d, cs, e, hb⟩ := e5 h; exact ⟨d, cs, e, hb.steps (hs _)⟩⟩, fun _ h' => by obtain ⟨g, e1, e2, e3, e4, e5⟩ := a_7 h'; exact fun e => Reg.ptr_ne e3 (e.trans e1)⟩ trivial ⟨_, rfl⟩
          rintro _ ⟨p34, rfl⟩
          refine Reg.RC_at (b := ⟨#[_, _, _, _, _, _, _, _, _, _, _, _, _, _, _, _, _, _, _, _, _, _, _, _, _, _, _, _, _, _, _, _, _, _, _, _, _, _, _, _, _, _, _, _, _, _, _, _, _, _, _, _, _, _, _, _, _, _, _, _, _, _, _, _, _, _, _, _, _, _, _, _, _, _, _, _, _, _, _, _, _, _, _, _, _, _, _, _, _, _, _, _, _, _, _, _, _, _, _, _, _, _, _, _, _, _, _, _, _, _, _, _, _, _, _, _, _, _, _, _, _, _, _, _, _, _, _, _, _, _, _, _, _, _, _, _, _, _, _, _, _, _, _, _, _, _, _, _, _, _, _, _, _, _, _, _, _, _, _, _, _, _, _, _, _, _, _, _, _, _, _, _, _, _, _, _, _, _, _, _, _, _, _, _, _, _, _, _, _, _, _, _, _, _, _, _, _, _, _, _, _, _, _, _, _, _, _, _, _, _, _, _, _, _, _, _, _, _, _, _, _, _, _, _, _, _, _, _, _, _, _, _, _, _, _, _, _], _⟩) rfl ?_
          refine Reg.RC_call rfl (by intro t ht; cases ht; exact Nat.le_of_ble_eq_true rfl) rfl (fun D v' W' hc hj hf K hK => ?_) ?_
          · obtain ⟨j0, jk, jn, b_a, b_b, b_x, b_y, b_s, b_t, b_d, b_u, b_p, b_v, b_q, b_w_, b_r, b_m, a_6, a_7, q_6_7⟩ := hj
            go_step
            have hs : ∀ o : Obj, Steps W' (W'.alloc o) := fun o => (Below.refl _ _).alloc (Nat.le_refl _) o
            exact hK.out _ _ (Keeps.steps (hs _)) ⟨below_steps j0 (Nat.le_refl _) (hs _), jk.then_ (hs _), Nat.le_trans jn (hs _).size, b_a.steps (hs _), b_b.steps (hs _), b_x.steps (hs _), b_y.steps (hs _), b_s.steps (hs _), b_t.steps (hs _), b_d.steps (hs _), b_u.steps (hs _), b_p.steps (hs _), b_v.steps (hs _), b_q.steps (hs _), b_w_.steps (hs _), b_r.steps (hs _), b_m.steps (hs _), fun h => by obtain ⟨g, e1, e2, e3, e4, e5⟩ := a_6 h; exact ⟨g, e1, e2, Nat.lt_of_lt_of_le e3 ((hs _)).size, fun h => (e4 h).steps (hs _), fun h => by obtain ⟨d, cs, e, hb⟩ := e5 h; exact ⟨d, cs, e, hb.steps (hs _)⟩⟩, fun _ => ⟨W'.heap.size, rfl, jn, by rw [World.size_alloc]; omega, fun _ => Blk.new _ _ _, fun h => Bool.noConfusion ((hc.2 9 (by decide)).symm.trans h)⟩, fun h _ => by obtain ⟨g, e1, e2, e3, e4, e5⟩ := a_6 h; exact fun e => Reg.ptr_ne e3 (e.symm.trans e1)⟩ trivial ⟨_, rfl⟩
          rintro _ ⟨p35, rfl⟩
          refine Reg.RC_at (b := ⟨#[_, _, _, _, _, _, _, _, _, _, _, _, _, _, _, _, _, _, _, _, _, _, _, _, _, _, _, _, _, _, _, _, _, _, _, _, _, _, _, _, _, _, _, _, _, _, _, _, _, _, _, _, _, _, _, _, _, _, _, _, _, _, _, _, _, _, _, _, _, _, _, _, _, _, _, _, _, _, _, _, _, _, _, _, _, _, _, _, _, _, _, _, _, _, _, _, _, _, _, _, _, _, _, _, _, _, _, _, _, _, _, _, _, _, _, _, _, _, _, _, _, _, _, _, _, _, _, _, _, _, _, _, _, _, _, _, _, _, _, _, _, _, _, _, _, _, _, _, _, _, _, _, _, _, _, _, _, _, _, _, _, _, _, _, _, _, _, _, _, _, _, _, _, _, _, _, _, _, _, _, _, _, _, _, _, _, _, _, _, _, _, _, _, _, _, _, _, _, _, _, _, _, _, _, _, _, _, _, _, _, _, _, _, _, _, _, _, _, _, _, _, _, _, _, _, _, _, _, _, _, _, _, _, _, _, _, _], _⟩) rfl ?_
          refine Reg.RC_call rfl (by intro t ht; cases ht) rfl (fun D v' W' hc hj hf K hK => ?_) (fun _ _ => Reg.RC_at (b := ⟨_, _⟩) rfl ?_)
          · obtain ⟨j0, jk, jn, b_a, b_b, b_x, b_y, b_s, b_t, b_d, b_u, b_p, b_v, b_q, b_w_, b_r, b_m, a_6, a_7, q_6_7⟩ := hj
            have f := hf (6, some 34) (.tail _ (.head _)) rfl
            have e6 : v' 6 = .pointer (some ⟨p34, 0, none⟩) := f.2.1
            obtain ⟨g, e1, e2, e3, e4, e5⟩ := a_6 f.1
            obtain rfl : p34 = g := Reg.ptr_eq (e6.symm.trans e1)
            have hb := e4 hc.1
            clear e4 e5
            have fc := hf (2, some 195) (.head _) rfl
            have ec : v' 2 = .agg #[.bool lo1, .slice lo2 lo3 lo4, .bool lo5, .slice lo6 lo7 lo8] := fc.2.1
            have ff := hb.fr
            have cc0 : W'.cell? ⟨p34, 0, none⟩ = some (.bool false) := hb.c 0 rfl
            have cc1 : W'.cell? ⟨p34, 1, none⟩ = some (.slice none 0 0) := hb.c 1 rfl
            have cc2 : W'.cell? ⟨p34, 2, none⟩ = some (.bool false) := hb.c 2 rfl
            have cc3 : W'.cell? ⟨p34, 3, none⟩ = some (.slice none 0 0) := hb.c 3 rfl
            go_step
            exact hK.out undef _ (Keeps.only hb rfl ((Only.refl _ _).set.set.set.set)) ⟨(Below.setCell (p := ⟨p34, 3, none⟩) (Below.setCell (p := ⟨p34, 2, none⟩) (Below.setCell (p := ⟨p34, 1, none⟩) (Below.setCell (p := ⟨p34, 0, none⟩) j0 (by show w.heap.size ≤ p34; omega) _) (by show w.heap.size ≤ p34; omega) _) (by show w.heap.size ≤ p34; omega) _) (by show w.heap.size ≤ p34; omega) _), jk.trans (Keeps.only hb rfl ((Only.refl _ _).set.set.set.set)), by simpa using jn, ((((b_a).far' (show w.heap.size ≠ p34 by omega)).far' (show w.heap.size ≠ p34 by omega)).far' (show w.heap.size ≠ p34 by omega)).far' (show w.heap.size ≠ p34 by omega), ((((b_b).far' (show w.heap.size + 1 ≠ p34 by omega)).far' (show w.heap.size + 1 ≠ p34 by omega)).far' (show w.heap.size + 1 ≠ p34 by omega)).far' (show w.heap.size + 1 ≠ p34 by omega), ((((b_x).far' (show p10 ≠ p34 by omega)).far' (show p10 ≠ p34 by omega)).far' (show p10 ≠ p34 by omega)).far' (show p10 ≠ p34 by omega), ((((b_y).far' (show p11 ≠ p34 by omega)).far' (show p11 ≠ p34 by omega)).far' (show p11 ≠ p34 by omega)).far' (show p11 ≠ p34 by omega), ((((b_s).far' (show w5.heap.size ≠ p34 by omega)).far' (show w5.heap.size ≠ p34 by omega)).far' (show w5.heap.size ≠ p34 by omega)).far' (show w5.heap.size ≠ p34 by omega), ((((b_t).far' (show w6.heap.size ≠ p34 by omega)).far' (show w6.heap.size ≠ p34 by omega)).far' (show w6.heap.size ≠ p34 by omega)).far' (show w6.heap.size ≠ p34 by omega), ((((b_d).far' (show w7.heap.size ≠ p34 by omega)).far' (show w7.heap.size ≠ p34 by omega)).far' (show w7.heap.size ≠ p34 by omega)).far' (show w7.heap.size ≠ p34 by omega), ((((b_u).far' (show w8.heap.size ≠ p34 by omega)).far' (show w8.heap.size ≠ p34 by omega)).far' (show w8.heap.size ≠ p34 by omega)).far' (show w8.heap.size ≠ p34 by omega), ((((b_p).far' (show w9.heap.size ≠ p34 by omega)).far' (show w9.heap.size ≠ p34 by omega)).far' (show w9.heap.size ≠ p34 by omega)).far' (show w9.heap.size ≠ p34 by omega), ((((b_v).far' (show w10.heap.size ≠ p34 by omega)).far' (show w10.heap.size ≠ p34 by omega)).far' (show w10.heap.size ≠ p34 by omega)).far' (show w10.heap.size ≠ p34 by omega), ((((b_q).far' (show w11.heap.size ≠ p34 by omega)).far' (show w11.heap.size ≠ p34 by omega)).far' (show w11.heap.size ≠ p34 by omega)).far' (show w11.heap.size ≠ p34 by omega), ((((b_w_).far' (show w12.heap.size ≠ p34 by omega)).far' (show w12.heap.size ≠ p34 by omega)).far' (show w12.heap.size ≠ p34 by omega)).far' (show w12.heap.size ≠ p34 by omega), ((((b_r).far' (show w14.heap.size ≠ p34 by omega)).far' (show w14.heap.size ≠ p34 by omega)).far' (show w14.heap.size ≠ p34 by omega)).far' (show w14.heap.size ≠ p34 by omega), ((((b_m).far' (show w17.heap.size ≠ p34 by omega)).far' (show w17.heap.size ≠ p34 by omega)).far' (show w17.heap.size ≠ p34 by omega)).far' (show w17.heap.size ≠ p34 by omega), fun _ => ⟨p34, e1, e2, by simpa using e3, fun h => Bool.noConfusion h, fun _ => ⟨fc.1, _, ec, (Blk.set2 (cs' := #[.bool lo1, .slice lo2 lo3 lo4, .bool lo5, .slice lo6 lo7 lo8]) (Blk.set2 (cs' := #[.bool lo1, .slice lo2 lo3 lo4, .bool lo5, .slice none 0 0]) (Blk.set2 (cs' := #[.bool lo1, .slice lo2 lo3 lo4, .bool false, .slice none 0 0]) (Blk.set2 (cs' := #[.bool lo1, .slice none 0 0, .bool false, .slice none 0 0]) hb (i := 0) rfl) (i := 1) rfl) (i := 2) rfl) (i := 3) rfl)⟩⟩, fun h => by obtain ⟨g, k1, k2, k3, k4, k5⟩ := a_7 h; have hne : g ≠ p34 := fun e => (q_6_7 f.1 h) (by rw [e6, k1, e]); exact ⟨g, k1, k2, by simpa using k3, fun h => ((((k4 h).far' hne).far' hne).far' hne).far' hne, fun h => by obtain ⟨d, cs, e, hb2⟩ := k5 h; exact ⟨d, cs, e, ((((hb2).far' hne).far' hne).far' hne).far' hne⟩⟩, q_6_7⟩ trivial trivial
          refine Reg.RC_call rfl (by intro t ht; cases ht) rfl (fun D v' W' hc hj hf K hK => ?_) (fun _ _ => Reg.RC_at (b := ⟨_, _⟩) rfl ?_)
          · obtain ⟨j0, jk, jn, b_a, b_b, b_x, b_y, b_s, b_t, b_d, b_u, b_p, b_v, b_q, b_w_, b_r, b_m, a_6, a_7, q_6_7⟩ := hj
            have f := hf (7, some 35) (.tail _ (.head _)) rfl
            have e6 : v' 7 = .pointer (some ⟨p35, 0, none⟩) := f.2.1
            obtain ⟨g, e1, e2, e3, e4, e5⟩ := a_7 f.1
            obtain rfl : p35 = g := Reg.ptr_eq (e6.symm.trans e1)
            have hb := e4 hc.1
            clear e4 e5
            have fc := hf (5, some 198) (.head _) rfl
            have ec : v' 5 = .agg #[.bool hi1, .slice hi2 hi3 hi4, .bool hi5, .slice hi6 hi7 hi8] := fc.2.1
            have ff := hb.fr
            have cc0 : W'.cell? ⟨p35, 0, none⟩ = some (.bool false) := hb.c 0 rfl
            have cc1 : W'.cell? ⟨p35, 1, none⟩ = some (.slice none 0 0) := hb.c 1 rfl
            have cc2 : W'.cell? ⟨p35, 2, none⟩ = some (.bool false) := hb.c 2 rfl
            have cc3 : W'.cell? ⟨p35, 3, none⟩ = some (.slice none 0 0) := hb.c 3 rfl
            go_step
            exact hK.out undef _ (Keeps.only hb rfl ((Only.refl _ _).set.set.set.set)) ⟨(Below.setCell (p := ⟨p35, 3, none⟩) (Below.setCell (p := ⟨p35, 2, none⟩) (Below.setCell (p := ⟨p35, 1, none⟩) (Below.setCell (p := ⟨p35, 0, none⟩) j0 (by show w.heap.size ≤ p35; omega) _) (by show w.heap.size ≤ p35; omega) _) (by show w.heap.size ≤ p35; omega) _) (by show w.heap.size ≤ p35; omega) _), jk.trans (Keeps.only hb rfl ((Only.refl _ _).set.set.set.set)), by simpa using jn, ((((b_a).far' (show w.heap.size ≠ p35 by omega)).far' (show w.heap.size ≠ p35 by omega)).far' (show w.heap.size ≠ p35 by omega)).far' (show w.heap.size ≠ p35 by omega), ((((b_b).far' (show w.heap.size + 1 ≠ p35 by omega)).far' (show w.heap.size + 1 ≠ p35 by omega)).far' (show w.heap.size + 1 ≠ p35 by omega)).far' (show w.heap.size + 1 ≠ p35 by omega), ((((b_x).far' (show p10 ≠ p35 by omega)).far' (show p10 ≠ p35 by omega)).far' (show p10 ≠ p35 by omega)).far' (show p10 ≠ p35 by omega), ((((b_y).far' (show p11 ≠ p35 by omega)).far' (show p11 ≠ p35 by omega)).far' (show p11 ≠ p35 by omega)).far' (show p11 ≠ p35 by omega), ((((b_s).far' (show w5.heap.size ≠ p35 by omega)).far' (show w5.heap.size ≠ p35 by omega)).far' (show w5.heap.size ≠ p35 by omega)).far' (show w5.heap.size ≠ p35 by omega), ((((b_t).far' (show w6.heap.size ≠ p35 by omega)).far' (show w6.heap.size ≠ p35 by omega)).far' (show w6.heap.size ≠ p35 by omega)).far' (show w6.heap.size ≠ p35 by omega), ((((b_d).far' (show w7.heap.size ≠ p35 by omega)).far' (show w7.heap.size ≠ p35 by omega)).far' (show w7.heap.size ≠ p35 by omega)).far' (show w7.heap.size ≠ p35 by omega), ((((b_u).far' (show w8.heap.size ≠ p35 by omega)).far' (show w8.heap.size ≠ p35 by omega)).far' (show w8.heap.size ≠ p35 by omega)).far' (show w8.heap.size ≠ p35 by omega), ((((b_p).far' (show w9.heap.size ≠ p35 by omega)).far' (show w9.heap.size ≠ p35 by omega)).far' (show w9.heap.size ≠ p35 by omega)).far' (show w9.heap.size ≠ p35 by omega), ((((b_v).far' (show w10.heap.size ≠ p35 by omega)).far' (show w10.heap.size ≠ p35 by omega)).far' (show w10.heap.size ≠ p35 by omega)).far' (show w10.heap.size ≠ p35 by omega), ((((b_q).far' (show w11.heap.size ≠ p35 by omega)).far' (show w11.heap.size ≠ p35 by omega)).far' (show w11.heap.size ≠ p35 by omega)).far' (show w11.heap.size ≠ p35 by omega), ((((b_w_).far' (show w12.heap.size ≠ p35 by omega)).far' (show w12.heap.size ≠ p35 by omega)).far' (show w12.heap.size ≠ p35 by omega)).far' (show w12.heap.size ≠ p35 by omega), ((((b_r).far' (show w14.heap.size ≠ p35 by omega)).far' (show w14.heap.size ≠ p35 by omega)).far' (show w14.heap.size ≠ p35 by omega)).far' (show w14.heap.size ≠ p35 by omega), ((((b_m).far' (show w17.heap.size ≠ p35 by omega)).far' (show w17.heap.size ≠ p35 by omega)).far' (show w17.heap.size ≠ p35 by omega)).far' (show w17.heap.size ≠ p35 by omega), fun h => by obtain ⟨g, k1, k2, k3, k4, k5⟩ := a_6 h; have hne : g ≠ p35 := fun e => (q_6_7 h f.1) (by rw [e6, k1, e]); exact ⟨g, k1, k2, by simpa using k3, fun h => ((((k4 h).far' hne).far' hne).far' hne).far' hne, fun h => by obtain ⟨d, cs, e, hb2⟩ := k5 h; exact ⟨d, cs, e, ((((hb2).far' hne).far' hne).far' hne).far' hne⟩⟩, fun _ => ⟨p35, e1, e2, by simpa using e3, fun h => Bool.noConfusion h, fun _ => ⟨fc.1, _, ec, (Blk.set2 (cs' := #[.bool hi1, .slice hi2 hi3 hi4, .bool hi5, .slice hi6 hi7 hi8]) (Blk.set2 (cs' := #[.bool hi1, .slice hi2 hi3 hi4, .bool hi5, .slice none 0 0]) (Blk.set2 (cs' := #[.bool hi1, .slice hi2 hi3 hi4, .bool false, .slice none 0 0]) (Blk.set2 (cs' := #[.bool hi1, .slice none 0 0, .bool false, .slice none 0 0]) hb (i := 0) rfl) (i := 1) rfl) (i := 2) rfl) (i := 3) rfl)⟩⟩, q_6_7⟩ trivial trivial
          refine Reg.RC_end (fun Dn v' w18 hd hj hf => ?_)
          obtain ⟨j0, jk, jn, b_a, b_b, b_x, b_y, b_s, b_t, b_d, b_u, b_p, b_v, b_q, b_w_, b_r, b_m, a_6, a_7, q_6_7⟩ := hj
          have B := j0
          have oa := b_a
          clear b_a
          have ob := b_b
          clear b_b
          have ox := b_x
          clear b_x
          have oy := b_y
          clear b_y
          have os := b_s
          clear b_s
          have ot := b_t
          clear b_t
          have od := b_d
          clear b_d
          have ou := b_u
          clear b_u
          have op := b_p
          clear b_p
          have ov := b_v
          clear b_v
          have oq := b_q
          clear b_q
          have ow_ := b_w_
          clear b_w_
          have or := b_r
          clear b_r
          have om := b_m
          clear b_m
          have f := hf (6, some 34) (.tail _ (.tail _ (.head _))) rfl
          have e6_ : v' 6 = .pointer (some ⟨p34, 0, none⟩) := f.2.1
          obtain ⟨g, e1_, zlow, -, -, e5_⟩ := a_6 f.1
          obtain rfl : p34 = g := Reg.ptr_eq (e6_.symm.trans e1_)
          obtain ⟨-, cs_, ee, olow⟩ := e5_ (hd 8 (Nat.le_of_ble_eq_true rfl))
          have ef : v' 2 = .agg #[.bool lo1, .slice lo2 lo3 lo4, .bool lo5, .slice lo6 lo7 lo8] := (hf (2, some 195) (.head _) rfl).2.1
          obtain rfl : #[.bool lo1, .slice lo2 lo3 lo4, .bool lo5, .slice lo6 lo7 lo8] = cs_ := by have := ef.symm.trans ee; simpa only [Value.tuple.injEq, Value.agg.injEq, Array.mk.injEq, List.cons.injEq, and_true, true_and] using this
          clear ee ef f e5_ e1_ e6_
          have f := hf (7, some 35) (.tail _ (.tail _ (.tail _ (.head _)))) rfl
          have e6_ : v' 7 = .pointer (some ⟨p35, 0, none⟩) := f.2.1
          obtain ⟨g, e1_, zhigh, -, -, e5_⟩ := a_7 f.1
          obtain rfl : p35 = g := Reg.ptr_eq (e6_.symm.trans e1_)
          obtain ⟨-, cs_, ee, ohigh⟩ := e5_ (hd 9 (Nat.le_of_ble_eq_true rfl))
          have ef : v' 5 = .agg #[.bool hi1, .slice hi2 hi3 hi4, .bool hi5, .slice hi6 hi7 hi8] := (hf (5, some 198) (.tail _ (.head _)) rfl).2.1
          obtain rfl : #[.bool hi1, .slice hi2 hi3 hi4, .bool hi5, .slice hi6 hi7 hi8] = cs_ := by have := ef.symm.trans ee; simpa only [Value.tuple.injEq, Value.agg.injEq, Array.mk.injEq, List.cons.injEq, and_true, true_and] using this
          clear ee ef f e5_ e1_ e6_
          have y_6_7 : p34 ≠ p35 := fun e => q_6_7 (hf (6, some 34) (.tail _ (.tail _ (.head _))) rfl).1 (hf (7, some 35) (.tail _ (.tail _ (.tail _ (.head _)))) rfl).1 (by have h1 := (hf (6, some 34) (.tail _ (.tail _ (.head _))) rfl).2.1; have h2 := (hf (7, some 35) (.tail _ (.tail _ (.tail _ (.head _)))) rfl).2.1; rw [h1, h2]; show Value.pointer _ = .pointer _; rw [e])
          have Flo : Hid (FR w18 (.agg #[.bool lo1, .slice lo2 lo3 lo4, .bool lo5, .slice lo6 lo7 lo8]) (unitQ m1)) := (hf (2, some 195) (.head _) rfl).2.2
          have Fhi : Hid (FR w18 (.agg #[.bool hi1, .slice hi2 hi3 hi4, .bool hi5, .slice hi6 hi7 hi8]) (unitQ m2)) := (hf (5, some 198) (.tail _ (.head _)) rfl).2.2
          have Fx' := Hid.mk_ (Fx.out.keeps jk)
          clear Fx
          have Fx := Fx'
          clear Fx'
          have Fr1_' := Hid.mk_ (Fr1_.out.keeps jk)
          clear Fr1_
          have Fr1_ := Fr1_'
          clear Fr1_'
          have Fr2_' := Hid.mk_ (Fr2_.out.keeps jk)
          clear Fr2_
          have Fr2_ := Fr2_'
          clear Fr2_'
          have Fr3_' := Hid.mk_ (Fr3_.out.keeps jk)
          clear Fr3_
          have Fr3_ := Fr3_'
          clear Fr3_'
          have Fr4_' := Hid.mk_ (Fr4_.out.keeps jk)
          clear Fr4_
          have Fr4_ := Fr4_'
          clear Fr4_'
          clear hd hf jk j0 q_6_7
          refine hQ _ _ ?_
          clear hQ hops Q' ops'
          have clow0 : World.cell? _ ⟨p34, 0, none⟩ = some (.bool lo1) := olow.c 0 rfl
          have clow1 : World.cell? _ ⟨p34, 1, none⟩ = some (.slice lo2 lo3 lo4) := olow.c 1 rfl
          have clow2 : World.cell? _ ⟨p34, 2, none⟩ = some (.bool lo5) := olow.c 2 rfl
          have clow3 : World.cell? _ ⟨p34, 3, none⟩ = some (.slice lo6 lo7 lo8) := olow.c 3 rfl
          have llow := olow.lt
          clear l3 l4
          go_wp2_with fail
          refine (rTimesQ _ (Flo.out.keeps keepsB) (Flo.out.keeps keepsB) sm1 sm1 (by omega)).mono ?_
          rintro e w19 ⟨vr5_, rfl, hvr5_, hb19⟩
          have st : Steps _ w19 := hb19
          have sk : Below w18.heap.size w18 w19 := belowA st
          replace B := below_steps B (Nat.le_refl _) sk
          replace oa := oa.steps sk
          replace ob := ob.steps sk
          replace ox := ox.steps sk
          replace oy := oy.steps sk
          replace os := os.steps sk
          replace ot := ot.steps sk
          replace od := od.steps sk
          replace ou := ou.steps sk
          replace op := op.steps sk
          replace ov := ov.steps sk
          replace oq := oq.steps sk
          replace ow_ := ow_.steps sk
          replace or := or.steps sk
          replace om := om.steps sk
          replace olow := olow.steps sk
          replace ohigh := ohigh.steps sk
          replace Fx := Hid.mk_ (Fx.out.steps sk)
          replace Fr1_ := Hid.mk_ (Fr1_.out.steps sk)
          replace Fr2_ := Hid.mk_ (Fr2_.out.steps sk)
          replace Fr3_ := Hid.mk_ (Fr3_.out.steps sk)
          replace Fr4_ := Hid.mk_ (Fr4_.out.steps sk)
          replace Flo := Hid.mk_ (Flo.out.steps sk)
          replace Fhi := Hid.mk_ (Fhi.out.steps sk)
          clear st sk clow0 clow1 clow2 clow3 llow
          have chigh0 : World.cell? _ ⟨p35, 0, none⟩ = some (.bool hi1) := ohigh.c 0 rfl
          have chigh1 : World.cell? _ ⟨p35, 1, none⟩ = some (.slice hi2 hi3 hi4) := ohigh.c 1 rfl
          have chigh2 : World.cell? _ ⟨p35, 2, none⟩ = some (.bool hi5) := ohigh.c 2 rfl
          have chigh3 : World.cell? _ ⟨p35, 3, none⟩ = some (.slice hi6 hi7 hi8) := ohigh.c 3 rfl
          have lhigh := ohigh.lt
          obtain ⟨r5_1, r5_2, r5_3, r5_4, r5_5, r5_6, r5_7, r5_8, rfl⟩ := hvr5_.shape
          have Fr5_ := Hid.mk_ hvr5_
          clear hvr5_
          have zhigh : p35 < w19.heap.size := ohigh.lt
          have zz19 := B.size
          go_wp2_with fail
          refine (rTimesQ _ (Fhi.out.keeps keepsB) (Fhi.out.keeps keepsB) sm2 sm2 (by omega)).mono ?_
          rintro e w20 ⟨vr6_, rfl, hvr6_, hb20⟩
          have st : Steps _ w20 := hb20
          have sk : Below w19.heap.size w19 w20 := belowA st
          replace B := below_steps B (Nat.le_refl _) sk
          have oc : Blk w20 (w19.heap.size) 31 #[.bool r5_1, .slice r5_2 r5_3 r5_4, .bool r5_5, .slice r5_6 r5_7 r5_8] := Blk.stepsK st
          replace oa := oa.steps sk
          replace ob := ob.steps sk
          replace ox := ox.steps sk
          replace oy := oy.steps sk
          replace os := os.steps sk
          replace ot := ot.steps sk
          replace od := od.steps sk
          replace ou := ou.steps sk
          replace op := op.steps sk
          replace ov := ov.steps sk
          replace oq := oq.steps sk
          replace ow_ := ow_.steps sk
          replace or := or.steps sk
          replace om := om.steps sk
          replace olow := olow.steps sk
          replace ohigh := ohigh.steps sk
          replace Fx := Hid.mk_ (Fx.out.steps sk)
          replace Fr1_ := Hid.mk_ (Fr1_.out.steps sk)
          replace Fr2_ := Hid.mk_ (Fr2_.out.steps sk)
          replace Fr3_ := Hid.mk_ (Fr3_.out.steps sk)
          replace Fr4_ := Hid.mk_ (Fr4_.out.steps sk)
          replace Flo := Hid.mk_ (Flo.out.steps sk)
          replace Fhi := Hid.mk_ (Fhi.out.steps sk)
          replace Fr5_ := Hid.mk_ (Fr5_.out.steps sk)
          clear st sk chigh0 chigh1 chigh2 chigh3 lhigh
          have cx0 : World.cell? _ ⟨p10, 0, none⟩ = some (.bool x1) := ox.c 0 rfl
          have cx1 : World.cell? _ ⟨p10, 1, none⟩ = some (.slice x2 x3 x4) := ox.c 1 rfl
          have cx2 : World.cell? _ ⟨p10, 2, none⟩ = some (.bool x5) := ox.c 2 rfl
          have cx3 : World.cell? _ ⟨p10, 3, none⟩ = some (.slice x6 x7 x8) := ox.c 3 rfl
          have lx := ox.lt
          have cc0 : World.cell? _ ⟨w19.heap.size, 0, none⟩ = some (.bool r5_1) := oc.c 0 rfl
          have cc1 : World.cell? _ ⟨w19.heap.size, 1, none⟩ = some (.slice r5_2 r5_3 r5_4) := oc.c 1 rfl
          have cc2 : World.cell? _ ⟨w19.heap.size, 2, none⟩ = some (.bool r5_5) := oc.c 2 rfl
          have cc3 : World.cell? _ ⟨w19.heap.size, 3, none⟩ = some (.slice r5_6 r5_7 r5_8) := oc.c 3 rfl
          have lc := oc.lt
          obtain ⟨r6_1, r6_2, r6_3, r6_4, r6_5, r6_6, r6_7, r6_8, rfl⟩ := hvr6_.shape
          have Fr6_ := Hid.mk_ hvr6_
          clear hvr6_
          have zc : w19.heap.size < w20.heap.size := oc.lt
          have zz20 := B.size
          go_wp2_with fail
          refine (cx _ _ _ (Fr5_.out.keeps keepsB) (Fx.out.keeps keepsB)).mono ?_
          rintro e w21 ⟨rfl, hb21⟩
          have st : Steps _ w21 := hb21
          have sk : Below w20.heap.size w20 w21 := belowA st
          replace B := below_steps B (Nat.le_refl _) sk
          have oo : Blk w21 (w20.heap.size) 31 #[.bool r6_1, .slice r6_2 r6_3 r6_4, .bool r6_5, .slice r6_6 r6_7 r6_8] := Blk.stepsK st
          replace oa := oa.steps sk
          replace ob := ob.steps sk
          replace ox := ox.steps sk
          replace oy := oy.steps sk
          replace os := os.steps sk
          replace ot := ot.steps sk
          replace od := od.steps sk
          replace ou := ou.steps sk
          replace op := op.steps sk
          replace ov := ov.steps sk
          replace oq := oq.steps sk
          replace ow_ := ow_.steps sk
          replace or := or.steps sk
          replace om := om.steps sk
          replace olow := olow.steps sk
          replace ohigh := ohigh.steps sk
          replace oc := oc.steps sk
          replace Fx := Hid.mk_ (Fx.out.steps sk)
          replace Fr1_ := Hid.mk_ (Fr1_.out.steps sk)
          replace Fr2_ := Hid.mk_ (Fr2_.out.steps sk)
          replace Fr3_ := Hid.mk_ (Fr3_.out.steps sk)
          replace Fr4_ := Hid.mk_ (Fr4_.out.steps sk)
          replace Flo := Hid.mk_ (Flo.out.steps sk)
          replace Fhi := Hid.mk_ (Fhi.out.steps sk)
          replace Fr5_ := Hid.mk_ (Fr5_.out.steps sk)
          replace Fr6_ := Hid.mk_ (Fr6_.out.steps sk)
          clear st sk cx0 cx1 cx2 cx3 lx cc0 cc1 cc2 cc3 lc
          have cx0 : World.cell? _ ⟨p10, 0, none⟩ = some (.bool x1) := ox.c 0 rfl
          have cx1 : World.cell? _ ⟨p10, 1, none⟩ = some (.slice x2 x3 x4) := ox.c 1 rfl
          have cx2 : World.cell? _ ⟨p10, 2, none⟩ = some (.bool x5) := ox.c 2 rfl
          have cx3 : World.cell? _ ⟨p10, 3, none⟩ = some (.slice x6 x7 x8) := ox.c 3 rfl
          have lx := ox.lt
          have co0 : World.cell? _ ⟨w20.heap.size, 0, none⟩ = some (.bool r6_1) := oo.c 0 rfl
          have co1 : World.cell? _ ⟨w20.heap.size, 1, none⟩ = some (.slice r6_2 r6_3 r6_4) := oo.c 1 rfl
          have co2 : World.cell? _ ⟨w20.heap.size, 2, none⟩ = some (.bool r6_5) := oo.c 2 rfl
          have co3 : World.cell? _ ⟨w20.heap.size, 3, none⟩ = some (.slice r6_6 r6_7 r6_8) := oo.c 3 rfl
          have lo := oo.lt
          go_wp2_with fail
          refine (cy _ _ _ (Fx.out.keeps keepsB) (Fr6_.out.keeps keepsB)).mono ?_
          rintro e w22 ⟨rfl, hb22⟩
          have st : Steps _ w22 := hb22
          have sk : Below w21.heap.size w21 w22 := belowA st
          replace B := below_steps B (Nat.le_refl _) sk
          replace oa := oa.steps sk
          replace ob := ob.steps sk
          replace ox := ox.steps sk
          replace oy := oy.steps sk
          replace os := os.steps sk
          replace ot := ot.steps sk
          replace od := od.steps sk
          replace ou := ou.steps sk
          replace op := op.steps sk
          replace ov := ov.steps sk
          replace oq := oq.steps sk
          replace ow_ := ow_.steps sk
          replace or := or.steps sk
          replace om := om.steps sk
          replace olow := olow.steps sk
          replace ohigh := ohigh.steps sk
          replace oc := oc.steps sk
          replace oo := oo.steps sk
          replace Fx := Hid.mk_ (Fx.out.steps sk)
          replace Fr1_ := Hid.mk_ (Fr1_.out.steps sk)
          replace Fr2_ := Hid.mk_ (Fr2_.out.steps sk)
          replace Fr3_ := Hid.mk_ (Fr3_.out.steps sk)
          replace Fr4_ := Hid.mk_ (Fr4_.out.steps sk)
          replace Flo := Hid.mk_ (Flo.out.steps sk)
          replace Fhi := Hid.mk_ (Fhi.out.steps sk)
          replace Fr5_ := Hid.mk_ (Fr5_.out.steps sk)
          replace Fr6_ := Hid.mk_ (Fr6_.out.steps sk)
          clear st sk cx0 cx1 cx2 cx3 lx co0 co1 co2 co3 lo
          have cm0 : World.cell? _ ⟨w17.heap.size, 0, none⟩ = some (.int .i64 (m1)) := om.c 0 rfl
          have cm1 : World.cell? _ ⟨w17.heap.size, 1, none⟩ = some (.int .i64 (m2)) := om.c 1 rfl
          have lm := om.lt
          go_wp2
          go_returns
          exact ⟨retBool (by simp [H1, H2, p1]), belowB⟩
end Go.Proofs.YtalnlnpnacfdfaaGreat
