import Derived.Test.YtalnlnpnacfdfaaGreatCSa
import Derived.Test.YtalnlnpnacfdfaaGreatCNm
import Derived.Test.YtalnlnpnacfdfaaGreatCSpanP
namespace Go.Proofs.YtalnlnpnacfdfaaGreat
open Go.RowKit
theorem liv (lo hi : Int) (w : World) : Calls Tryz.prog 27 #[.int .i64 lo, .int .i64 hi] w fun e w' => e = .returned (.agg #[.int .i64 lo, .int .i64 hi]) ∧ Steps w w' := by
  go_enter Tryz.func27, Tryz.ntmps27
  go_wp2
  go_returns
  exact ⟨rfl, (Below.refl _ _).alloc (Nat.le_refl _) _⟩
theorem lones (lo hi : Int) (w : World) (l0 : -1048576 ≤ lo) (l1 : lo ≤ 1048576) (h0 : -1048576 ≤ hi) (h1 : hi ≤ 1048576) : Calls Tryz.prog 26 #[.int .i64 lo, .int .i64 hi] w fun e w' => e = .returned (.agg #[.int .i64 (lo * 1099511627776), .int .i64 (hi * 1099511627776)]) ∧ Steps w w' := by
  have e1 : wrap64 (lo * 1099511627776) = lo * 1099511627776 := by unfold wrap64; omega
  have e2 : wrap64 (hi * 1099511627776) = hi * 1099511627776 := by unfold wrap64; omega
  go_enter Tryz.func26, Tryz.ntmps26
  go_wp2
  go_returns
  exact ⟨rfl, (Below.refl _ _).alloc (Nat.le_refl _) _⟩
set_option maxHeartbeats 3200000 in
set_option maxRecDepth 1000000 in
theorem lpart (x y : Int) (w : World) (x0 : -9223372036854775808 ≤ x) (x1 : x ≤ 9223372036854775807) (y0 : -9223372036854775808 ≤ y) (y1 : y ≤ 9223372036854775807) (hy : y ≠ 0) :
    Calls Tryz.prog 25 #[.int .i64 x, .int .i64 y] w fun e w' => ∃ v, e = .returned v ∧ Frc w' v (rdP x y) (rdQ x y) ∧ Steps w w' := by
  go_enter Tryz.func25, Tryz.ntmps25
  go_wp2_with fail
  refine (rof x y _ x0 x1 y0 y1 hy).mono ?_
  rintro e w1 ⟨v1, rfl, hf, hb1⟩
  have st : Steps _ w1 := hb1
  have Bn : Below w.heap.size w w1 := belowA st
  have nr : Blk w1 (w.heap.size) 31 #[.bool false, .slice none 0 0, .bool false, .slice none 0 0] := Blk.stepsA st
  clear st
  have B := Bn
  clear Bn
  have or := nr
  clear nr
  have cr0 := or.q0
  have cr1 := or.q1
  have cr2 := or.q2
  have cr3 := or.q3
  have fr := or.fr
  have lr := or.lt
  obtain ⟨k1, k2, k3, k4, k5, k6, k7, k8, rfl⟩ := hf.shape
  have HF := Hid.mk_ hf
  clear hf hy
  go_wp2
  refine bodyPost_ret (by simp [results, Tryz.results25, go_sem, cr0, cr1, cr2, cr3, fr, lr]; rfl) rfl ?_
  exact ⟨_, rfl, (HF.out.only or rfl ((Only.refl _ _).set.set.set.set)).alloc_ _, belowB⟩
theorem lones_lit (lo hi a b : Int) (w : World) (ha : lo * 1099511627776 = a) (hb : hi * 1099511627776 = b) (l0 : -1048576 ≤ lo) (l1 : lo ≤ 1048576) (h0 : -1048576 ≤ hi) (h1 : hi ≤ 1048576) : Calls Tryz.prog 26 #[.int .i64 lo, .int .i64 hi] w fun e w' => e = .returned (.agg #[.int .i64 a, .int .i64 b]) ∧ Steps w w' := by
  subst ha; subst hb
  exact lones lo hi w l0 l1 h0 h1
theorem lones_any (lo hi : Int) (w : World) (l0 : -1048576 ≤ lo) (l1 : lo ≤ 1048576) (h0 : -1048576 ≤ hi) (h1 : hi ≤ 1048576) : Calls Tryz.prog 26 #[.int .i64 lo, .int .i64 hi] w fun e w' => e = .returned (.agg #[.int .i64 (lo * 1099511627776), .int .i64 (hi * 1099511627776)]) ∧ Steps w w' := lones lo hi w l0 l1 h0 h1
theorem rd13 : rdP 1 3 = 1 ∧ rdQ 1 3 = 3 := by decide
theorem of13 : ofI 1 3 = (366503875925, 366503875926, 0) := by decide
theorem isq2 : isqrt (2199023255552 * 1099511627776) = 1554944255987 := isqrt_of (by decide) (by decide) (by decide)
set_option maxHeartbeats 6400000 in
set_option maxRecDepth 1000000 in
theorem lalive (w : World) : Calls Tryz.prog 5 #[] w fun e w' => e = .returned (.bool true) ∧ Steps w w' := by
  have c1 : ∀ w' v, Frc w' v (rdP 1 3) (rdQ 1 3) → Calls Tryz.prog 24 #[v] w' (G3 w' (366503875925, 366503875926, 0)) := fun w' v h => by
    rw [rd13.1, rd13.2] at h
    have := sOf w' h
    rw [of13] at this
    exact this
  have c2 := fun w' => mul_p (-1099511627776) 2199023255552 3298534883328 4398046511104 w'
  rw [show mulS (-1099511627776) 2199023255552 3298534883328 4398046511104 = (-4398046511104, 8796093022208, 0) by decide] at c2
  have c3 := fun w' => sq_p (-1099511627776) 2199023255552 w'
  rw [show sqS (-1099511627776) 2199023255552 = (0, 4398046511104, 0) by decide] at c3
  have c4 := fun w' => div_p 1099511627776 1099511627776 0 1099511627776 w'
  rw [show divS 1099511627776 1099511627776 0 1099511627776 = (0, 0, 18) by decide] at c4
  have c5 := fun w' => sqrt_p 2199023255552 2199023255552 w'
  rw [show sqrtS 2199023255552 2199023255552 = (1554944255987, 1554944255988, 0) by unfold sqrtS ifV sqrtV; rw [isq2]; decide] at c5
  go_enter Tryz.func5, Tryz.ntmps5
  go_wp2_with fail
  refine (lpart 1 3 _ (by decide) (by decide) (by decide) (by decide) (by decide)).mono ?_
  rintro e w1 ⟨v1, rfl, hf, hb1⟩
  have st : Steps _ w1 := hb1
  have Bn : Below w.heap.size w w1 := belowA st
  clear st
  have B := Bn
  clear Bn
  have zz1 := B.size
  go_wp2_with fail
  refine (c1 _ _ hf).mono ?_
  rintro e w2 ⟨rfl, hb2⟩
  have st : Steps _ w2 := hb2
  have Bn : Below w.heap.size w w2 := belowA st
  clear B
  clear st
  have B := Bn
  clear Bn
  have zz2 := B.size
  clear c1 hf
  go_wp2_with fail
  refine (lones_lit (-1) (2) (-1099511627776) (2199023255552) _ rfl rfl (by decide) (by decide) (by decide) (by decide)).mono ?_
  rintro e w3 ⟨rfl, hb3⟩
  have st : Steps _ w3 := hb3
  have Bn : Below w.heap.size w w3 := belowA st
  have na : Blk w3 (w2.heap.size) 23 #[.int .i64 366503875925, .int .i64 366503875926] := Blk.stepsA st
  clear B
  clear st
  have B := Bn
  clear Bn
  have oa := na
  clear na
  have ca0 := oa.q0
  have ca1 := oa.q1
  have fa := oa.fr
  have la := oa.lt
  have zz3 := B.size
  go_wp2_with fail
  refine (lones_lit (3) (4) (3298534883328) (4398046511104) _ rfl rfl (by decide) (by decide) (by decide) (by decide)).mono ?_
  rintro e w4 ⟨rfl, hb4⟩
  have st : Steps _ w4 := hb4
  have Bn : Below w.heap.size w w4 := belowA st
  have na := oa.stq st
  clear B oa ca0 ca1 fa la
  clear st
  have B := Bn
  clear Bn
  have oa := na
  clear na
  have ca0 := oa.q0
  have ca1 := oa.q1
  have fa := oa.fr
  have la := oa.lt
  have zz4 := B.size
  go_wp2_with fail
  refine (c2 _).mono ?_
  rintro e w5 ⟨rfl, hb5⟩
  have st : Steps _ w5 := hb5
  have Bn : Below w.heap.size w w5 := belowA st
  have na := oa.stq st
  clear B oa ca0 ca1 fa la
  clear st
  have B := Bn
  clear Bn
  have oa := na
  clear na
  have ca0 := oa.q0
  have ca1 := oa.q1
  have fa := oa.fr
  have la := oa.lt
  have zz5 := B.size
  clear c2
  go_wp2_with fail
  refine (lones_lit (-1) (2) (-1099511627776) (2199023255552) _ rfl rfl (by decide) (by decide) (by decide) (by decide)).mono ?_
  rintro e w6 ⟨rfl, hb6⟩
  have st : Steps _ w6 := hb6
  have Bn : Below w.heap.size w w6 := belowA st
  have na := oa.stq st
  have nb : Blk w6 (w5.heap.size) 23 #[.int .i64 (-4398046511104), .int .i64 8796093022208] := Blk.stepsA st
  clear B oa ca0 ca1 fa la
  clear st
  have B := Bn
  clear Bn
  have oa := na
  clear na
  have ca0 := oa.q0
  have ca1 := oa.q1
  have fa := oa.fr
  have la := oa.lt
  have ob := nb
  clear nb
  have cb0 := ob.q0
  have cb1 := ob.q1
  have fb := ob.fr
  have lb := ob.lt
  have zz6 := B.size
  go_wp2_with fail
  refine (c3 _).mono ?_
  rintro e w7 ⟨rfl, hb7⟩
  have st : Steps _ w7 := hb7
  have Bn : Below w.heap.size w w7 := belowA st
  have na := oa.stq st
  have nb := ob.stq st
  clear B oa ob ca0 ca1 fa la cb0 cb1 fb lb
  clear st
  have B := Bn
  clear Bn
  have oa := na
  clear na
  have ca0 := oa.q0
  have ca1 := oa.q1
  have fa := oa.fr
  have la := oa.lt
  have ob := nb
  clear nb
  have cb0 := ob.q0
  have cb1 := ob.q1
  have fb := ob.fr
  have lb := ob.lt
  have zz7 := B.size
  clear c3
  go_wp2_with fail
  refine (lones_lit (1) (1) (1099511627776) (1099511627776) _ rfl rfl (by decide) (by decide) (by decide) (by decide)).mono ?_
  rintro e w8 ⟨rfl, hb8⟩
  have st : Steps _ w8 := hb8
  have Bn : Below w.heap.size w w8 := belowA st
  have na := oa.stq st
  have nb := ob.stq st
  have nc : Blk w8 (w7.heap.size) 23 #[.int .i64 0, .int .i64 4398046511104] := Blk.stepsA st
  clear B oa ob ca0 ca1 fa la cb0 cb1 fb lb
  clear st
  have B := Bn
  clear Bn
  have oa := na
  clear na
  have ca0 := oa.q0
  have ca1 := oa.q1
  have fa := oa.fr
  have la := oa.lt
  have ob := nb
  clear nb
  have cb0 := ob.q0
  have cb1 := ob.q1
  have fb := ob.fr
  have lb := ob.lt
  have oc := nc
  clear nc
  have cc0 := oc.q0
  have cc1 := oc.q1
  have fc := oc.fr
  have lc := oc.lt
  have zz8 := B.size
  go_wp2_with fail
  refine (lones_lit (0) (1) (0) (1099511627776) _ rfl rfl (by decide) (by decide) (by decide) (by decide)).mono ?_
  rintro e w9 ⟨rfl, hb9⟩
  have st : Steps _ w9 := hb9
  have Bn : Below w.heap.size w w9 := belowA st
  have na := oa.stq st
  have nb := ob.stq st
  have nc := oc.stq st
  clear B oa ob oc ca0 ca1 fa la cb0 cb1 fb lb cc0 cc1 fc lc
  clear st
  have B := Bn
  clear Bn
  have oa := na
  clear na
  have ca0 := oa.q0
  have ca1 := oa.q1
  have fa := oa.fr
  have la := oa.lt
  have ob := nb
  clear nb
  have cb0 := ob.q0
  have cb1 := ob.q1
  have fb := ob.fr
  have lb := ob.lt
  have oc := nc
  clear nc
  have cc0 := oc.q0
  have cc1 := oc.q1
  have fc := oc.fr
  have lc := oc.lt
  have zz9 := B.size
  go_wp2_with fail
  refine (c4 _).mono ?_
  rintro e w10 ⟨rfl, hb10⟩
  have st : Steps _ w10 := hb10
  have Bn : Below w.heap.size w w10 := belowA st
  have na := oa.stq st
  have nb := ob.stq st
  have nc := oc.stq st
  clear B oa ob oc ca0 ca1 fa la cb0 cb1 fb lb cc0 cc1 fc lc
  clear st
  have B := Bn
  clear Bn
  have oa := na
  clear na
  have ca0 := oa.q0
  have ca1 := oa.q1
  have fa := oa.fr
  have la := oa.lt
  have ob := nb
  clear nb
  have cb0 := ob.q0
  have cb1 := ob.q1
  have fb := ob.fr
  have lb := ob.lt
  have oc := nc
  clear nc
  have cc0 := oc.q0
  have cc1 := oc.q1
  have fc := oc.fr
  have lc := oc.lt
  have zz10 := B.size
  clear c4
  go_wp2_with fail
  refine (lones_lit (2) (2) (2199023255552) (2199023255552) _ rfl rfl (by decide) (by decide) (by decide) (by decide)).mono ?_
  rintro e w11 ⟨rfl, hb11⟩
  have st : Steps _ w11 := hb11
  have Bn : Below w.heap.size w w11 := belowA st
  have na := oa.stq st
  have nb := ob.stq st
  have nc := oc.stq st
  have nd : Blk w11 (w10.heap.size) 23 #[.int .i64 0, .int .i64 0] := Blk.stepsA st
  clear B oa ob oc ca0 ca1 fa la cb0 cb1 fb lb cc0 cc1 fc lc
  clear st
  have B := Bn
  clear Bn
  have oa := na
  clear na
  have ca0 := oa.q0
  have ca1 := oa.q1
  have fa := oa.fr
  have la := oa.lt
  have ob := nb
  clear nb
  have cb0 := ob.q0
  have cb1 := ob.q1
  have fb := ob.fr
  have lb := ob.lt
  have oc := nc
  clear nc
  have cc0 := oc.q0
  have cc1 := oc.q1
  have fc := oc.fr
  have lc := oc.lt
  have od := nd
  clear nd
  have cd0 := od.q0
  have cd1 := od.q1
  have fd := od.fr
  have ld := od.lt
  have zz11 := B.size
  go_wp2_with fail
  refine (c5 _).mono ?_
  rintro e w12 ⟨rfl, hb12⟩
  have st : Steps _ w12 := hb12
  have Bn : Below w.heap.size w w12 := belowA st
  have na := oa.stq st
  have nb := ob.stq st
  have nc := oc.stq st
  have nd := od.stq st
  clear B oa ob oc od ca0 ca1 fa la cb0 cb1 fb lb cc0 cc1 fc lc cd0 cd1 fd ld
  clear st
  have B := Bn
  clear Bn
  have oa := na
  clear na
  have ca0 := oa.q0
  have ca1 := oa.q1
  have fa := oa.fr
  have la := oa.lt
  have ob := nb
  clear nb
  have cb0 := ob.q0
  have cb1 := ob.q1
  have fb := ob.fr
  have lb := ob.lt
  have oc := nc
  clear nc
  have cc0 := oc.q0
  have cc1 := oc.q1
  have fc := oc.fr
  have lc := oc.lt
  have od := nd
  clear nd
  have cd0 := od.q0
  have cd1 := od.q1
  have fd := od.fr
  have ld := od.lt
  have zz12 := B.size
  clear c5
  go_wp2_with fail
  go_region_held3 (fun w' => w'.cell? ⟨w2.heap.size, 0, none⟩ = some (.int .i64 366503875925) ∧ w'.cell? ⟨w2.heap.size, 1, none⟩ = some (.int .i64 366503875926) ∧ w'.cell? ⟨w5.heap.size, 0, none⟩ = some (.int .i64 (-4398046511104)) ∧ w'.cell? ⟨w5.heap.size, 1, none⟩ = some (.int .i64 8796093022208) ∧ w'.cell? ⟨w7.heap.size, 0, none⟩ = some (.int .i64 0) ∧ w'.cell? ⟨w7.heap.size, 1, none⟩ = some (.int .i64 4398046511104) ∧ w'.cell? ⟨w12.heap.size, 0, none⟩ = some (.int .i64 1554944255987) ∧ w'.cell? ⟨w12.heap.size, 1, none⟩ = some (.int .i64 1554944255988))
    ((refine ⟨Blk.c (t := 23) (cs := #[.int .i64 366503875925, .int .i64 366503875926]) ?_ 0 rfl, Blk.c (t := 23) (cs := #[.int .i64 366503875925, .int .i64 366503875926]) ?_ 1 rfl, Blk.c (t := 23) (cs := #[.int .i64 (-4398046511104), .int .i64 8796093022208]) ?_ 0 rfl, Blk.c (t := 23) (cs := #[.int .i64 (-4398046511104), .int .i64 8796093022208]) ?_ 1 rfl, Blk.c (t := 23) (cs := #[.int .i64 0, .int .i64 4398046511104]) ?_ 0 rfl, Blk.c (t := 23) (cs := #[.int .i64 0, .int .i64 4398046511104]) ?_ 1 rfl, Blk.c (t := 23) (cs := #[.int .i64 1554944255987, .int .i64 1554944255988]) ?_ 0 rfl, Blk.c (t := 23) (cs := #[.int .i64 1554944255987, .int .i64 1554944255988]) ?_ 1 rfl⟩ <;> (repeat' first | with_reducible assumption | (with_reducible refine Blk.new' ?_; first | with_reducible rfl | (simp only [World.size_alloc, World.size_setCell, World.size_drew]; done)) | with_reducible refine Blk.alloc ?_ _ | with_reducible refine Blk.drew ?_ | with_reducible refine Blk.drewN ?_ _ | with_reducible apply Blk.both | with_reducible refine Blk.far' ?_ ?_ | (show _ ≠ _; omega))))
    (first
      | ((go_at_call 27; refine (liv _ _ _).mono ?_; rintro e wv ⟨rfl, hbv⟩; go_must (have st : Steps _ wv := hbv; have Bn : Below w.heap.size w wv := belowA st; have na : Blk wv (w2.heap.size) 23 #[.int .i64 366503875925, .int .i64 366503875926] := Blk.stepsA st; have nb : Blk wv (w5.heap.size) 23 #[.int .i64 (-4398046511104), .int .i64 8796093022208] := Blk.stepsA st; have nc : Blk wv (w7.heap.size) 23 #[.int .i64 0, .int .i64 4398046511104] := Blk.stepsA st; have nd : Blk wv (w10.heap.size) 23 #[.int .i64 0, .int .i64 0] := Blk.stepsA st; have ne : Blk wv (w12.heap.size) 23 #[.int .i64 1554944255987, .int .i64 1554944255988] := Blk.stepsA st; clear B oa ob oc od ca0 ca1 fa la cb0 cb1 fb lb cc0 cc1 fc lc cd0 cd1 fd ld; clear st; have B := Bn; clear Bn; have oa := na; clear na; have ca0 : World.cell? wv ⟨w2.heap.size, 0, none⟩ = some (.int .i64 366503875925) := oa.c 0 rfl; have ca1 : World.cell? wv ⟨w2.heap.size, 1, none⟩ = some (.int .i64 366503875926) := oa.c 1 rfl; have fa := oa.fr; have la := oa.lt; have ob := nb; clear nb; have cb0 : World.cell? wv ⟨w5.heap.size, 0, none⟩ = some (.int .i64 (-4398046511104)) := ob.c 0 rfl; have cb1 : World.cell? wv ⟨w5.heap.size, 1, none⟩ = some (.int .i64 8796093022208) := ob.c 1 rfl; have fb := ob.fr; have lb := ob.lt; have oc := nc; clear nc; have cc0 : World.cell? wv ⟨w7.heap.size, 0, none⟩ = some (.int .i64 0) := oc.c 0 rfl; have cc1 : World.cell? wv ⟨w7.heap.size, 1, none⟩ = some (.int .i64 4398046511104) := oc.c 1 rfl; have fc := oc.fr; have lc := oc.lt; have od := nd; clear nd; have cd0 : World.cell? wv ⟨w10.heap.size, 0, none⟩ = some (.int .i64 0) := od.c 0 rfl; have cd1 : World.cell? wv ⟨w10.heap.size, 1, none⟩ = some (.int .i64 0) := od.c 1 rfl; have fd := od.fr; have ld := od.lt; have oe := ne; clear ne; have ce0 : World.cell? wv ⟨w12.heap.size, 0, none⟩ = some (.int .i64 1554944255987) := oe.c 0 rfl; have ce1 : World.cell? wv ⟨w12.heap.size, 1, none⟩ = some (.int .i64 1554944255988) := oe.c 1 rfl; have fe := oe.fr; have le := oe.lt)))
      | ((go_at_call 26; refine (lones_any _ _ _ (by decide) (by decide) (by decide) (by decide)).mono ?_; rintro e wv ⟨rfl, hbv⟩; go_must (have st : Steps _ wv := hbv; have Bn : Below w.heap.size w wv := belowA st; have na : Blk wv (w2.heap.size) 23 #[.int .i64 366503875925, .int .i64 366503875926] := Blk.stepsA st; have nb : Blk wv (w5.heap.size) 23 #[.int .i64 (-4398046511104), .int .i64 8796093022208] := Blk.stepsA st; have nc : Blk wv (w7.heap.size) 23 #[.int .i64 0, .int .i64 4398046511104] := Blk.stepsA st; have nd : Blk wv (w10.heap.size) 23 #[.int .i64 0, .int .i64 0] := Blk.stepsA st; have ne : Blk wv (w12.heap.size) 23 #[.int .i64 1554944255987, .int .i64 1554944255988] := Blk.stepsA st; clear B oa ob oc od ca0 ca1 fa la cb0 cb1 fb lb cc0 cc1 fc lc cd0 cd1 fd ld; clear st; have B := Bn; clear Bn; have oa := na; clear na; have ca0 : World.cell? wv ⟨w2.heap.size, 0, none⟩ = some (.int .i64 366503875925) := oa.c 0 rfl; have ca1 : World.cell? wv ⟨w2.heap.size, 1, none⟩ = some (.int .i64 366503875926) := oa.c 1 rfl; have fa := oa.fr; have la := oa.lt; have ob := nb; clear nb; have cb0 : World.cell? wv ⟨w5.heap.size, 0, none⟩ = some (.int .i64 (-4398046511104)) := ob.c 0 rfl; have cb1 : World.cell? wv ⟨w5.heap.size, 1, none⟩ = some (.int .i64 8796093022208) := ob.c 1 rfl; have fb := ob.fr; have lb := ob.lt; have oc := nc; clear nc; have cc0 : World.cell? wv ⟨w7.heap.size, 0, none⟩ = some (.int .i64 0) := oc.c 0 rfl; have cc1 : World.cell? wv ⟨w7.heap.size, 1, none⟩ = some (.int .i64 4398046511104) := oc.c 1 rfl; have fc := oc.fr; have lc := oc.lt; have od := nd; clear nd; have cd0 : World.cell? wv ⟨w10.heap.size, 0, none⟩ = some (.int .i64 0) := od.c 0 rfl; have cd1 : World.cell? wv ⟨w10.heap.size, 1, none⟩ = some (.int .i64 0) := od.c 1 rfl; have fd := od.fr; have ld := od.lt; have oe := ne; clear ne; have ce0 : World.cell? wv ⟨w12.heap.size, 0, none⟩ = some (.int .i64 1554944255987) := oe.c 0 rfl; have ce1 : World.cell? wv ⟨w12.heap.size, 1, none⟩ = some (.int .i64 1554944255988) := oe.c 1 rfl; have fe := oe.fr; have le := oe.lt))))
  go_wp2
  go_returns
  exact ⟨rfl, belowB⟩
end Go.Proofs.YtalnlnpnacfdfaaGreat
