import Derived.Test.YtalnlnpnacfdfaaCAlive
import Derived.Test.YtalnlnpnacfdfaaCLawC
import Derived.Deep.DeepCutAuto
import Derived.Deep.RegionWith
namespace Go.Proofs.Ytalnlnpnacfdfaa
open Go.RowKit
set_option maxHeartbeats 12800000 in
set_option maxRecDepth 1000000 in
theorem names_walk (w : World) : Calls Try.prog 7 #[] w fun e w' => e = .returned (.bool true) ∧ Below w.heap.size w w' := by
  have k1 := fun w' => check_p 1 0 w'
  rw [show errV (V 1 0) = 8 by decide] at k1
  have k2 := fun w' => check_p 0 2305843009213693953 w'
  rw [show errV (V 0 2305843009213693953) = 8 by decide] at k2
  have k3 := fun w' => check_p (-2305843009213693952) 2305843009213693952 w'
  rw [show errV (V (-2305843009213693952) 2305843009213693952) = 0 by decide] at k3
  have c3 := fun w' => add_p 2305843009213693952 2305843009213693952 0 1 w'
  rw [show addS 2305843009213693952 2305843009213693952 0 1 = (0, 0, 16) by decide] at c3
  have c4 := fun w' => mul_p 2305843009213693952 2305843009213693952 2305843009213693952 2305843009213693952 w'
  rw [show mulS 2305843009213693952 2305843009213693952 2305843009213693952 2305843009213693952 = (0, 0, 16) by decide] at c4
  have c5 := fun w' => sqrt_p (-1) 5 w'
  rw [show sqrtS (-1) 5 = (0, 0, 2) by decide] at c5
  have c6 := fun w' => meet_p 0 1 2 3 w'
  rw [show meetS 0 1 2 3 = (0, 0, 6) by decide] at c6
  have c7 := fun w' => scale_p 2305843009213693952 2305843009213693952 1 0 w' (by decide) (by decide) (by decide) (by decide)
  rw [show scaleS 2305843009213693952 2305843009213693952 1 0 = (0, 0, 18) by decide] at c7
  have c8 := fun w' => scale_p (-7) 7 1 (-2) w' (by decide) (by decide) (by decide) (by decide)
  rw [show scaleS (-7) 7 1 (-2) = (-4, 4, 0) by decide] at c8
  have c9 := fun w' => div_p 1 1 (-3) 3 w'
  rw [show divS 1 1 (-3) 3 = (0, 0, 18) by decide] at c9
  have c10 := fun w' => div_p 1 1 3 3 w'
  rw [show divS 1 1 3 3 = (366503875925, 366503875926, 0) by decide] at c10
  have c11 := fun w' => sWhole 2097153 w'
  rw [show whI 2097153 = (0, 0, 16) by decide] at c11
  have c12 := fun w' => sWhole (-2097152) w'
  rw [show whI (-2097152) = ((-2305843009213693952), (-2305843009213693952), 0) by decide] at c12
  have c13 := fun w' => mid_p (-3) 0 w'
  rw [show midV (-3) 0 = -2 by decide, show errV (V (-3) 0) = 0 by decide] at c13
  have c14 := fun w' => div_p 2305843009213693952 2305843009213693952 1 1 w'
  rw [show divS 2305843009213693952 2305843009213693952 1 1 = (0, 0, 16) by decide] at c14
  have c15 := fun w' => sOf_bad false false w' (Lim.nil w') (Lim.nil w') (fun h => h.2.2.2.1 rfl)
  have c16 := fun w' => in_p 1 2 1 2 w'
  rw [show inV 1 2 1 2 = true by decide, show errV (V 1 2 ∧ V 1 2) = 0 by decide] at c16
  have c17 := fun w' => neg_p 1 0 w'
  rw [show negS 1 0 = (0, 0, 8) by decide] at c17
  have ivc := fun a b w' => liv a b w'
  have alc := fun w' => lalive w'
  go_enter Try.func7, Try.ntmps7
  go_wp2_with fail
  refine (ivc 2305843009213693952 2305843009213693952 _).mono ?_
  rintro e w1 ⟨rfl, hb1⟩
  have st : Steps _ w1 := hb1
  have Bn : Below w.heap.size w w1 := belowA st
  clear st
  have B := Bn
  clear Bn
  have zz1 := B.size
  go_wp2_with fail
  refine (ivc 1 0 _).mono ?_
  rintro e w2 ⟨rfl, hb2⟩
  have st : Steps _ w2 := hb2
  have Bn : Below w.heap.size w w2 := belowA st
  have nt : Blk w2 (w1.heap.size) 23 #[.int .i64 2305843009213693952, .int .i64 2305843009213693952] := Blk.stepsA st
  clear B
  clear st
  have B := Bn
  clear Bn
  have ot := nt
  clear nt
  have ct0 : World.cell? w2 ⟨w1.heap.size, 0, none⟩ = some (.int .i64 2305843009213693952) := ot.c 0 rfl
  have ct1 : World.cell? w2 ⟨w1.heap.size, 1, none⟩ = some (.int .i64 2305843009213693952) := ot.c 1 rfl
  have ft := ot.fr
  have lt := ot.lt
  have zz2 := B.size
  go_wp2_with fail
  refine (k1 _).mono ?_
  rintro e w3 ⟨rfl, hb3⟩
  have st : Steps _ w3 := hb3
  have Bn : Below w.heap.size w w3 := belowA st
  have nt : Blk w3 (w1.heap.size) 23 #[.int .i64 2305843009213693952, .int .i64 2305843009213693952] := Blk.stepsA st
  clear B ot ct0 ct1 ft lt
  clear st
  have B := Bn
  clear Bn
  have ot := nt
  clear nt
  have ct0 : World.cell? w3 ⟨w1.heap.size, 0, none⟩ = some (.int .i64 2305843009213693952) := ot.c 0 rfl
  have ct1 : World.cell? w3 ⟨w1.heap.size, 1, none⟩ = some (.int .i64 2305843009213693952) := ot.c 1 rfl
  have ft := ot.fr
  have lt := ot.lt
  have zz3 := B.size
  go_wp2_with fail
  refine (ivc 0 2305843009213693953 _).mono ?_
  rintro e w4 ⟨rfl, hb4⟩
  have st : Steps _ w4 := hb4
  have Bn : Below w.heap.size w w4 := belowA st
  have nt : Blk w4 (w1.heap.size) 23 #[.int .i64 2305843009213693952, .int .i64 2305843009213693952] := Blk.stepsA st
  clear B ot ct0 ct1 ft lt
  clear st
  have B := Bn
  clear Bn
  have ot := nt
  clear nt
  have ct0 : World.cell? w4 ⟨w1.heap.size, 0, none⟩ = some (.int .i64 2305843009213693952) := ot.c 0 rfl
  have ct1 : World.cell? w4 ⟨w1.heap.size, 1, none⟩ = some (.int .i64 2305843009213693952) := ot.c 1 rfl
  have ft := ot.fr
  have lt := ot.lt
  have zz4 := B.size
  go_wp2_with fail
  refine (k2 _).mono ?_
  rintro e w5 ⟨rfl, hb5⟩
  have st : Steps _ w5 := hb5
  have Bn : Below w.heap.size w w5 := belowA st
  have nt : Blk w5 (w1.heap.size) 23 #[.int .i64 2305843009213693952, .int .i64 2305843009213693952] := Blk.stepsA st
  clear B ot ct0 ct1 ft lt
  clear st
  have B := Bn
  clear Bn
  have ot := nt
  clear nt
  have ct0 : World.cell? w5 ⟨w1.heap.size, 0, none⟩ = some (.int .i64 2305843009213693952) := ot.c 0 rfl
  have ct1 : World.cell? w5 ⟨w1.heap.size, 1, none⟩ = some (.int .i64 2305843009213693952) := ot.c 1 rfl
  have ft := ot.fr
  have lt := ot.lt
  have zz5 := B.size
  go_wp2_with fail
  refine (ivc (-2305843009213693952) 2305843009213693952 _).mono ?_
  rintro e w6 ⟨rfl, hb6⟩
  have st : Steps _ w6 := hb6
  have Bn : Below w.heap.size w w6 := belowA st
  have nt : Blk w6 (w1.heap.size) 23 #[.int .i64 2305843009213693952, .int .i64 2305843009213693952] := Blk.stepsA st
  clear B ot ct0 ct1 ft lt
  clear st
  have B := Bn
  clear Bn
  have ot := nt
  clear nt
  have ct0 : World.cell? w6 ⟨w1.heap.size, 0, none⟩ = some (.int .i64 2305843009213693952) := ot.c 0 rfl
  have ct1 : World.cell? w6 ⟨w1.heap.size, 1, none⟩ = some (.int .i64 2305843009213693952) := ot.c 1 rfl
  have ft := ot.fr
  have lt := ot.lt
  have zz6 := B.size
  go_wp2_with fail
  refine (k3 _).mono ?_
  rintro e w7 ⟨rfl, hb7⟩
  have st : Steps _ w7 := hb7
  have Bn : Below w.heap.size w w7 := belowA st
  have nt : Blk w7 (w1.heap.size) 23 #[.int .i64 2305843009213693952, .int .i64 2305843009213693952] := Blk.stepsA st
  clear B ot ct0 ct1 ft lt
  clear st
  have B := Bn
  clear Bn
  have ot := nt
  clear nt
  have ct0 : World.cell? w7 ⟨w1.heap.size, 0, none⟩ = some (.int .i64 2305843009213693952) := ot.c 0 rfl
  have ct1 : World.cell? w7 ⟨w1.heap.size, 1, none⟩ = some (.int .i64 2305843009213693952) := ot.c 1 rfl
  have ft := ot.fr
  have lt := ot.lt
  have zz7 := B.size
  clear k1 k2 k3
  go_wp2_with fail
  refine Reg.wp_chain (fun D v W => Below w.heap.size w W ∧ w7.heap.size ≤ W.heap.size ∧ Blk W (w1.heap.size) 23 #[.int .i64 2305843009213693952, .int .i64 2305843009213693952] ∧ (D 6 = true → ∃ g : Nat, ∃ y z : Value, v 6 = .pointer (some ⟨g, 0, none⟩) ∧ w7.heap.size ≤ g ∧ Blk W g 23 #[y, z]))
    (Reg.inl [1, 2, 6, 7]) (Reg.gv [(1, fun x => x = .agg #[.int .i64 0, .int .i64 1]), (2, fun x => x = .tuple #[.agg #[.int .i64 0, .int .i64 0], .int .i64 16]), (6, fun x => ∃ g : Nat, x = .pointer (some ⟨g, 0, none⟩))]) Reg.None_ (fun _ => Reg.Any) (fun _ _ => False) (Reg.pl [(7, [(6, some 3)])]) (Reg.pl [])
    (by kernel_rfl) (by kernel_rfl) (by kernel_rfl) (Reg.gv_some _ (by intro p hp; simp only [List.mem_cons, List.not_mem_nil, or_false] at hp; rcases hp with rfl | rfl | rfl <;> first | exact ⟨_, rfl⟩ | exact ⟨_, 0, rfl⟩)) (fun v => ?_) (fun D v v' W hv hj => ?_) (fun _ _ _ _ _ _ _ _ _ _ _ _ _ => Reg.none_) (fun _ _ _ _ h => h.elim) (fun ops' Q' hops hQ => ?_)
  · exact ⟨belowB, Nat.le_refl _, ownB, fun h => Bool.noConfusion h⟩
  · obtain ⟨j0, j1, j2, jl⟩ := hj; exact ⟨j0, j1, j2, fun h => by rw [← hv 6 h]; exact jl h⟩
  apply Reg.RC_pure (hc := rfl) (hst := rfl) (hw := rfl) (t := 49) (hd := rfl) (ht := Nat.le_of_ble_eq_true rfl)
  · intro D v' W' hc hj hf K hK
    obtain ⟨j0, j1, j2, jl⟩ := hj
    have c0 : W'.cell? ⟨w1.heap.size, 0, none⟩ = some (.int .i64 2305843009213693952) := j2.c 0 rfl
    have c1 : W'.cell? ⟨w1.heap.size, 1, none⟩ = some (.int .i64 2305843009213693952) := j2.c 1 rfl
    go_step
    exact hK.out
  · rfl
  refine Reg.RC_call rfl (by intro t ht; cases ht; exact Nat.le_of_ble_eq_true rfl) rfl (fun D v' W' hc hj hf K hK => ?_) ?_
  · obtain ⟨j0, j1, j2, jl⟩ := hj
    go_step
    refine (ivc 0 1 W').mono ?_
    rintro e W2 ⟨rfl, hs⟩
    refine hK.out _ W2 Reg.any ⟨below_steps j0 (Nat.le_refl _) hs, Nat.le_trans j1 hs.size, j2.steps hs, fun h => ?_⟩ Reg.none_ rfl
    obtain ⟨g, y, z, e1, e2, e3⟩ := jl h
    exact ⟨g, y, z, e1, e2, e3.steps hs⟩
  rintro _ rfl
  refine Reg.RC_at (b := ⟨#[_, _, _, _, _, _, _, _, _, _, _, _, _, _, _, _, _, _, _, _, _, _, _, _, _, _, _, _, _, _, _, _, _, _, _, _, _, _, _, _, _, _, _, _, _, _, _, _, _, _, _, _, _, _, _, _, _, _, _, _, _, _, _, _, _, _, _, _, _, _, _, _, _, _, _, _, _, _, _, _, _, _, _, _, _, _, _, _, _, _, _, _, _, _, _, _, _, _, _, _, _, _, _, _, _, _, _, _, _, _, _, _, _, _, _, _, _, _, _, _, _, _, _, _, _, _, _, _, _, _, _, _, _, _, _, _, _, _, _, _, _, _, _, _, _, _, _, _, _, _, _, _, _, _, _, _, _, _, _, _, _, _, _, _, _, _, _, _, _, _, _, _, _, _, _, _, _, _, _, _, _, _, _, _, _, _, _, _, _, _, _, _, _, _, _, _, _, _, _, _, _, _, _, _, _, _, _, _, _, _, _, _, _, _, _, _, _, _], []⟩) rfl ?_
  refine Reg.RC_call rfl (by intro t ht; cases ht; exact Nat.le_of_ble_eq_true rfl) rfl (fun D v' W' hc hj hf K hK => ?_) ?_
  · obtain ⟨j0, j1, j2, jl⟩ := hj
    go_step
    refine (c3 W').mono ?_
    rintro e W2 ⟨rfl, hs⟩
    refine hK.out _ W2 Reg.any ⟨below_steps j0 (Nat.le_refl _) hs, Nat.le_trans j1 hs.size, j2.steps hs, fun h => ?_⟩ Reg.none_ rfl
    obtain ⟨g, y, z, e1, e2, e3⟩ := jl h
    exact ⟨g, y, z, e1, e2, e3.steps hs⟩
  rintro _ rfl
  refine Reg.RC_at (b := ⟨#[_, _, _, _, _, _, _, _, _, _, _, _, _, _, _, _, _, _, _, _, _, _, _, _, _, _, _, _, _, _, _, _, _, _, _, _, _, _, _, _, _, _, _, _, _, _, _, _, _, _, _, _, _, _, _, _, _, _, _, _, _, _, _, _, _, _, _, _, _, _, _, _, _, _, _, _, _, _, _, _, _, _, _, _, _, _, _, _, _, _, _, _, _, _, _, _, _, _, _, _, _, _, _, _, _, _, _, _, _, _, _, _, _, _, _, _, _, _, _, _, _, _, _, _, _, _, _, _, _, _, _, _, _, _, _, _, _, _, _, _, _, _, _, _, _, _, _, _, _, _, _, _, _, _, _, _, _, _, _, _, _, _, _, _, _, _, _, _, _, _, _, _, _, _, _, _, _, _, _, _, _, _, _, _, _, _, _, _, _, _, _, _, _, _, _, _, _, _, _, _, _, _, _, _, _, _, _, _, _, _, _, _, _, _, _, _, _, _], []⟩) rfl ?_
  apply Reg.RC_pure (hc := rfl) (hst := rfl) (hw := rfl) (t := 48) (hd := rfl) (ht := Nat.le_of_ble_eq_true rfl)
  · intro D v' W' hc hj hf K hK
    go_step
    exact hK.out
  · rfl
  apply Reg.RC_pure (hc := rfl) (hst := rfl) (hw := rfl) (t := 52) (hd := rfl) (ht := Nat.le_of_ble_eq_true rfl)
  · intro D v' W' hc hj hf K hK
    go_step
    exact hK.out
  · rfl
  apply Reg.RC_pure (hc := rfl) (hst := rfl) (hw := rfl) (t := 53) (hd := rfl) (ht := Nat.le_of_ble_eq_true rfl)
  · intro D v' W' hc hj hf K hK
    go_step
    exact hK.out
  · rfl
  refine Reg.RC_call rfl (by intro t ht; cases ht; exact Nat.le_of_ble_eq_true rfl) rfl (fun D v' W' hc hj hf K hK => ?_) ?_
  · obtain ⟨j0, j1, j2, jl⟩ := hj
    go_step
    exact hK.out _ _ Reg.any ⟨j0.alloc j0.size _, by rw [World.size_alloc]; omega, j2.alloc _, fun _ => ⟨W'.heap.size, _, _, rfl, j1, Blk.new _ _ _⟩⟩ Reg.none_ ⟨_, rfl⟩
  rintro _ ⟨g6, rfl⟩
  refine Reg.RC_at (b := ⟨#[_, _, _, _, _, _, _, _, _, _, _, _, _, _, _, _, _, _, _, _, _, _, _, _, _, _, _, _, _, _, _, _, _, _, _, _, _, _, _, _, _, _, _, _, _, _, _, _, _, _, _, _, _, _, _, _, _, _, _, _, _, _, _, _, _, _, _, _, _, _, _, _, _, _, _, _, _, _, _, _, _, _, _, _, _, _, _, _, _, _, _, _, _, _, _, _, _, _, _, _, _, _, _, _, _, _, _, _, _, _, _, _, _, _, _, _, _, _, _, _, _, _, _, _, _, _, _, _, _, _, _, _, _, _, _, _, _, _, _, _, _, _, _, _, _, _, _, _, _, _, _, _, _, _, _, _, _, _, _, _, _, _, _, _, _, _, _, _, _, _, _, _, _, _, _, _, _, _, _, _, _, _, _, _, _, _, _, _, _, _, _, _, _, _, _, _, _, _, _, _, _, _, _, _, _, _, _, _, _, _, _, _, _, _, _, _, _, _], []⟩) rfl ?_
  refine Reg.RC_call rfl (by intro t ht; cases ht) rfl (fun D v' W' hc hj hf K hK => ?_) (fun _ _ => Reg.RC_at (b := ⟨_, []⟩) rfl ?_)
  · obtain ⟨j0, j1, j2, jl⟩ := hj
    have f6 := hf (6, some 3) (by show (6, some 3) ∈ [(6, some 3)]; simp) rfl
    have e6 : v' 6 = .pointer (some ⟨g6, 0, none⟩) := f6.2.1
    obtain ⟨g, y, z, e1, e2, e3⟩ := jl f6.1
    rw [e6] at e1
    obtain rfl : g6 = g := by simp only [Value.pointer.injEq, Option.some.injEq, Addr.mk.injEq] at e1; exact e1.1
    have c0 : W'.cell? ⟨g6, 0, none⟩ = some y := e3.c 0 rfl
    have c1 : W'.cell? ⟨g6, 1, none⟩ = some z := e3.c 1 rfl
    have ff := e3.fr
    have lt0 : w1.heap.size < w7.heap.size := lt
    have zb := j0.size
    go_step
    exact hK.out undef _ Reg.any ⟨Below.setCell (p := ⟨g6, 1, none⟩) (Below.setCell (p := ⟨g6, 0, none⟩) j0 (show w.heap.size ≤ g6 by omega) _) (show w.heap.size ≤ g6 by omega) _, by simpa using j1, (j2.far' (by omega)).far' (by omega), fun h => ⟨g6, _, _, e6, e2, e3.both⟩⟩ Reg.none_ trivial
  apply Reg.RC_pure (hc := rfl) (hst := rfl) (hw := rfl) (t := 4) (hd := rfl) (ht := Nat.le_of_ble_eq_true rfl)
  · intro D v' W' hc hj hf K hK
    go_step
    exact hK.out
  · rfl
  refine Reg.RC_end (fun Dn v' w8 hd hj hf => ?_)
  obtain ⟨Bn, j1, j2, jl⟩ := hj
  clear B ot ct0 ct1 ft lt
  have B := Bn
  clear Bn hd hf jl
  have ot := j2
  clear j2
  refine hQ _ _ ?_
  clear hQ hops Q' ops'
  have ct0 : World.cell? _ ⟨w1.heap.size, 0, none⟩ = some (.int .i64 2305843009213693952) := ot.c 0 rfl
  have ct1 : World.cell? _ ⟨w1.heap.size, 1, none⟩ = some (.int .i64 2305843009213693952) := ot.c 1 rfl
  have ft := ot.fr
  have lt := ot.lt
  have zz8 := B.size
  clear c3
  go_wp2_with fail
  refine (c4 _).mono ?_
  rintro e w9 ⟨rfl, hb9⟩
  have st : Steps _ w9 := hb9
  have Bn : Below w.heap.size w w9 := belowA st
  have nt : Blk w9 (w1.heap.size) 23 #[.int .i64 2305843009213693952, .int .i64 2305843009213693952] := Blk.stepsA st
  clear B ot ct0 ct1 ft lt
  clear st
  have B := Bn
  clear Bn
  have ot := nt
  clear nt
  have ct0 : World.cell? w9 ⟨w1.heap.size, 0, none⟩ = some (.int .i64 2305843009213693952) := ot.c 0 rfl
  have ct1 : World.cell? w9 ⟨w1.heap.size, 1, none⟩ = some (.int .i64 2305843009213693952) := ot.c 1 rfl
  have ft := ot.fr
  have lt := ot.lt
  have zz9 := B.size
  clear c4
  go_wp2_with fail
  refine (ivc (-1) 5 _).mono ?_
  rintro e w10 ⟨rfl, hb10⟩
  have st : Steps _ w10 := hb10
  have Bn : Below w.heap.size w w10 := belowA st
  have nt : Blk w10 (w1.heap.size) 23 #[.int .i64 2305843009213693952, .int .i64 2305843009213693952] := Blk.stepsA st
  clear B ot ct0 ct1 ft lt
  clear st
  have B := Bn
  clear Bn
  have ot := nt
  clear nt
  have ct0 : World.cell? w10 ⟨w1.heap.size, 0, none⟩ = some (.int .i64 2305843009213693952) := ot.c 0 rfl
  have ct1 : World.cell? w10 ⟨w1.heap.size, 1, none⟩ = some (.int .i64 2305843009213693952) := ot.c 1 rfl
  have ft := ot.fr
  have lt := ot.lt
  have zz10 := B.size
  go_wp2_with fail
  refine (c5 _).mono ?_
  rintro e w11 ⟨rfl, hb11⟩
  have st : Steps _ w11 := hb11
  have Bn : Below w.heap.size w w11 := belowA st
  have nt : Blk w11 (w1.heap.size) 23 #[.int .i64 2305843009213693952, .int .i64 2305843009213693952] := Blk.stepsA st
  clear B ot ct0 ct1 ft lt
  clear st
  have B := Bn
  clear Bn
  have ot := nt
  clear nt
  have ct0 : World.cell? w11 ⟨w1.heap.size, 0, none⟩ = some (.int .i64 2305843009213693952) := ot.c 0 rfl
  have ct1 : World.cell? w11 ⟨w1.heap.size, 1, none⟩ = some (.int .i64 2305843009213693952) := ot.c 1 rfl
  have ft := ot.fr
  have lt := ot.lt
  have zz11 := B.size
  clear c5
  go_wp2_with fail
  refine (ivc 0 1 _).mono ?_
  rintro e w12 ⟨rfl, hb12⟩
  have st : Steps _ w12 := hb12
  have Bn : Below w.heap.size w w12 := belowA st
  have nt : Blk w12 (w1.heap.size) 23 #[.int .i64 2305843009213693952, .int .i64 2305843009213693952] := Blk.stepsA st
  clear B ot ct0 ct1 ft lt
  clear st
  have B := Bn
  clear Bn
  have ot := nt
  clear nt
  have ct0 : World.cell? w12 ⟨w1.heap.size, 0, none⟩ = some (.int .i64 2305843009213693952) := ot.c 0 rfl
  have ct1 : World.cell? w12 ⟨w1.heap.size, 1, none⟩ = some (.int .i64 2305843009213693952) := ot.c 1 rfl
  have ft := ot.fr
  have lt := ot.lt
  have zz12 := B.size
  go_wp2_with fail
  refine (ivc 2 3 _).mono ?_
  rintro e w13 ⟨rfl, hb13⟩
  have st : Steps _ w13 := hb13
  have Bn : Below w.heap.size w w13 := belowA st
  have nt : Blk w13 (w1.heap.size) 23 #[.int .i64 2305843009213693952, .int .i64 2305843009213693952] := Blk.stepsA st
  clear B ot ct0 ct1 ft lt
  clear st
  have B := Bn
  clear Bn
  have ot := nt
  clear nt
  have ct0 : World.cell? w13 ⟨w1.heap.size, 0, none⟩ = some (.int .i64 2305843009213693952) := ot.c 0 rfl
  have ct1 : World.cell? w13 ⟨w1.heap.size, 1, none⟩ = some (.int .i64 2305843009213693952) := ot.c 1 rfl
  have ft := ot.fr
  have lt := ot.lt
  have zz13 := B.size
  go_wp2_with fail
  refine (c6 _).mono ?_
  rintro e w14 ⟨rfl, hb14⟩
  have st : Steps _ w14 := hb14
  have Bn : Below w.heap.size w w14 := belowA st
  have nt : Blk w14 (w1.heap.size) 23 #[.int .i64 2305843009213693952, .int .i64 2305843009213693952] := Blk.stepsA st
  clear B ot ct0 ct1 ft lt
  clear st
  have B := Bn
  clear Bn
  have ot := nt
  clear nt
  have ct0 : World.cell? w14 ⟨w1.heap.size, 0, none⟩ = some (.int .i64 2305843009213693952) := ot.c 0 rfl
  have ct1 : World.cell? w14 ⟨w1.heap.size, 1, none⟩ = some (.int .i64 2305843009213693952) := ot.c 1 rfl
  have ft := ot.fr
  have lt := ot.lt
  have zz14 := B.size
  clear c6
  go_wp2_with fail
  refine (c7 _).mono ?_
  rintro e w15 ⟨rfl, hb15⟩
  have st : Steps _ w15 := hb15
  have Bn : Below w.heap.size w w15 := belowA st
  have nt : Blk w15 (w1.heap.size) 23 #[.int .i64 2305843009213693952, .int .i64 2305843009213693952] := Blk.stepsA st
  clear B ot ct0 ct1 ft lt
  clear st
  have B := Bn
  clear Bn
  have ot := nt
  clear nt
  have ct0 : World.cell? w15 ⟨w1.heap.size, 0, none⟩ = some (.int .i64 2305843009213693952) := ot.c 0 rfl
  have ct1 : World.cell? w15 ⟨w1.heap.size, 1, none⟩ = some (.int .i64 2305843009213693952) := ot.c 1 rfl
  have ft := ot.fr
  have lt := ot.lt
  have zz15 := B.size
  clear c7
  go_wp2_with fail
  refine (ivc (-7) 7 _).mono ?_
  rintro e w16 ⟨rfl, hb16⟩
  have st : Steps _ w16 := hb16
  have Bn : Below w.heap.size w w16 := belowA st
  have nt : Blk w16 (w1.heap.size) 23 #[.int .i64 2305843009213693952, .int .i64 2305843009213693952] := Blk.stepsA st
  clear B ot ct0 ct1 ft lt
  clear st
  have B := Bn
  clear Bn
  have ot := nt
  clear nt
  have ct0 : World.cell? w16 ⟨w1.heap.size, 0, none⟩ = some (.int .i64 2305843009213693952) := ot.c 0 rfl
  have ct1 : World.cell? w16 ⟨w1.heap.size, 1, none⟩ = some (.int .i64 2305843009213693952) := ot.c 1 rfl
  have ft := ot.fr
  have lt := ot.lt
  have zz16 := B.size
  go_wp2_with fail
  refine (c8 _).mono ?_
  rintro e w17 ⟨rfl, hb17⟩
  have st : Steps _ w17 := hb17
  have Bn : Below w.heap.size w w17 := belowA st
  have nt : Blk w17 (w1.heap.size) 23 #[.int .i64 2305843009213693952, .int .i64 2305843009213693952] := Blk.stepsA st
  clear B ot ct0 ct1 ft lt
  clear st
  have B := Bn
  clear Bn
  have ot := nt
  clear nt
  have ct0 : World.cell? w17 ⟨w1.heap.size, 0, none⟩ = some (.int .i64 2305843009213693952) := ot.c 0 rfl
  have ct1 : World.cell? w17 ⟨w1.heap.size, 1, none⟩ = some (.int .i64 2305843009213693952) := ot.c 1 rfl
  have ft := ot.fr
  have lt := ot.lt
  have zz17 := B.size
  clear c8
  go_wp2_with fail
  refine (ivc 1 1 _).mono ?_
  rintro e w18 ⟨rfl, hb18⟩
  have st : Steps _ w18 := hb18
  have Bn : Below w.heap.size w w18 := belowA st
  have nt : Blk w18 (w1.heap.size) 23 #[.int .i64 2305843009213693952, .int .i64 2305843009213693952] := Blk.stepsA st
  have nx : Blk w18 (w17.heap.size) 23 #[.int .i64 (-4), .int .i64 4] := Blk.stepsA st
  clear B ot ct0 ct1 ft lt
  clear st
  have B := Bn
  clear Bn
  have ot := nt
  clear nt
  have ct0 : World.cell? w18 ⟨w1.heap.size, 0, none⟩ = some (.int .i64 2305843009213693952) := ot.c 0 rfl
  have ct1 : World.cell? w18 ⟨w1.heap.size, 1, none⟩ = some (.int .i64 2305843009213693952) := ot.c 1 rfl
  have ft := ot.fr
  have lt := ot.lt
  have ox := nx
  clear nx
  have cx0 : World.cell? w18 ⟨w17.heap.size, 0, none⟩ = some (.int .i64 (-4)) := ox.c 0 rfl
  have cx1 : World.cell? w18 ⟨w17.heap.size, 1, none⟩ = some (.int .i64 4) := ox.c 1 rfl
  have fx := ox.fr
  have lx := ox.lt
  have zz18 := B.size
  go_wp2_with fail
  refine (ivc (-3) 3 _).mono ?_
  rintro e w19 ⟨rfl, hb19⟩
  have st : Steps _ w19 := hb19
  have Bn : Below w.heap.size w w19 := belowA st
  have nt : Blk w19 (w1.heap.size) 23 #[.int .i64 2305843009213693952, .int .i64 2305843009213693952] := Blk.stepsA st
  have nx : Blk w19 (w17.heap.size) 23 #[.int .i64 (-4), .int .i64 4] := Blk.stepsA st
  clear B ot ox ct0 ct1 ft lt cx0 cx1 fx lx
  clear st
  have B := Bn
  clear Bn
  have ot := nt
  clear nt
  have ct0 : World.cell? w19 ⟨w1.heap.size, 0, none⟩ = some (.int .i64 2305843009213693952) := ot.c 0 rfl
  have ct1 : World.cell? w19 ⟨w1.heap.size, 1, none⟩ = some (.int .i64 2305843009213693952) := ot.c 1 rfl
  have ft := ot.fr
  have lt := ot.lt
  have ox := nx
  clear nx
  have cx0 : World.cell? w19 ⟨w17.heap.size, 0, none⟩ = some (.int .i64 (-4)) := ox.c 0 rfl
  have cx1 : World.cell? w19 ⟨w17.heap.size, 1, none⟩ = some (.int .i64 4) := ox.c 1 rfl
  have fx := ox.fr
  have lx := ox.lt
  have zz19 := B.size
  go_wp2_with fail
  refine (c9 _).mono ?_
  rintro e w20 ⟨rfl, hb20⟩
  have st : Steps _ w20 := hb20
  have Bn : Below w.heap.size w w20 := belowA st
  have nt : Blk w20 (w1.heap.size) 23 #[.int .i64 2305843009213693952, .int .i64 2305843009213693952] := Blk.stepsA st
  have nx : Blk w20 (w17.heap.size) 23 #[.int .i64 (-4), .int .i64 4] := Blk.stepsA st
  clear B ot ox ct0 ct1 ft lt cx0 cx1 fx lx
  clear st
  have B := Bn
  clear Bn
  have ot := nt
  clear nt
  have ct0 : World.cell? w20 ⟨w1.heap.size, 0, none⟩ = some (.int .i64 2305843009213693952) := ot.c 0 rfl
  have ct1 : World.cell? w20 ⟨w1.heap.size, 1, none⟩ = some (.int .i64 2305843009213693952) := ot.c 1 rfl
  have ft := ot.fr
  have lt := ot.lt
  have ox := nx
  clear nx
  have cx0 : World.cell? w20 ⟨w17.heap.size, 0, none⟩ = some (.int .i64 (-4)) := ox.c 0 rfl
  have cx1 : World.cell? w20 ⟨w17.heap.size, 1, none⟩ = some (.int .i64 4) := ox.c 1 rfl
  have fx := ox.fr
  have lx := ox.lt
  have zz20 := B.size
  clear c9
  go_wp2_with fail
  refine (ivc 1 1 _).mono ?_
  rintro e w21 ⟨rfl, hb21⟩
  have st : Steps _ w21 := hb21
  have Bn : Below w.heap.size w w21 := belowA st
  have nt : Blk w21 (w1.heap.size) 23 #[.int .i64 2305843009213693952, .int .i64 2305843009213693952] := Blk.stepsA st
  have nx : Blk w21 (w17.heap.size) 23 #[.int .i64 (-4), .int .i64 4] := Blk.stepsA st
  clear B ot ox ct0 ct1 ft lt cx0 cx1 fx lx
  clear st
  have B := Bn
  clear Bn
  have ot := nt
  clear nt
  have ct0 : World.cell? w21 ⟨w1.heap.size, 0, none⟩ = some (.int .i64 2305843009213693952) := ot.c 0 rfl
  have ct1 : World.cell? w21 ⟨w1.heap.size, 1, none⟩ = some (.int .i64 2305843009213693952) := ot.c 1 rfl
  have ft := ot.fr
  have lt := ot.lt
  have ox := nx
  clear nx
  have cx0 : World.cell? w21 ⟨w17.heap.size, 0, none⟩ = some (.int .i64 (-4)) := ox.c 0 rfl
  have cx1 : World.cell? w21 ⟨w17.heap.size, 1, none⟩ = some (.int .i64 4) := ox.c 1 rfl
  have fx := ox.fr
  have lx := ox.lt
  have zz21 := B.size
  go_wp2_with fail
  refine (ivc 3 3 _).mono ?_
  rintro e w22 ⟨rfl, hb22⟩
  have st : Steps _ w22 := hb22
  have Bn : Below w.heap.size w w22 := belowA st
  have nt : Blk w22 (w1.heap.size) 23 #[.int .i64 2305843009213693952, .int .i64 2305843009213693952] := Blk.stepsA st
  have nx : Blk w22 (w17.heap.size) 23 #[.int .i64 (-4), .int .i64 4] := Blk.stepsA st
  clear B ot ox ct0 ct1 ft lt cx0 cx1 fx lx
  clear st
  have B := Bn
  clear Bn
  have ot := nt
  clear nt
  have ct0 : World.cell? w22 ⟨w1.heap.size, 0, none⟩ = some (.int .i64 2305843009213693952) := ot.c 0 rfl
  have ct1 : World.cell? w22 ⟨w1.heap.size, 1, none⟩ = some (.int .i64 2305843009213693952) := ot.c 1 rfl
  have ft := ot.fr
  have lt := ot.lt
  have ox := nx
  clear nx
  have cx0 : World.cell? w22 ⟨w17.heap.size, 0, none⟩ = some (.int .i64 (-4)) := ox.c 0 rfl
  have cx1 : World.cell? w22 ⟨w17.heap.size, 1, none⟩ = some (.int .i64 4) := ox.c 1 rfl
  have fx := ox.fr
  have lx := ox.lt
  have zz22 := B.size
  go_wp2_with fail
  refine (c10 _).mono ?_
  rintro e w23 ⟨rfl, hb23⟩
  have st : Steps _ w23 := hb23
  have Bn : Below w.heap.size w w23 := belowA st
  have nt : Blk w23 (w1.heap.size) 23 #[.int .i64 2305843009213693952, .int .i64 2305843009213693952] := Blk.stepsA st
  have nx : Blk w23 (w17.heap.size) 23 #[.int .i64 (-4), .int .i64 4] := Blk.stepsA st
  clear B ot ox ct0 ct1 ft lt cx0 cx1 fx lx
  clear st
  have B := Bn
  clear Bn
  have ot := nt
  clear nt
  have ct0 : World.cell? w23 ⟨w1.heap.size, 0, none⟩ = some (.int .i64 2305843009213693952) := ot.c 0 rfl
  have ct1 : World.cell? w23 ⟨w1.heap.size, 1, none⟩ = some (.int .i64 2305843009213693952) := ot.c 1 rfl
  have ft := ot.fr
  have lt := ot.lt
  have ox := nx
  clear nx
  have cx0 : World.cell? w23 ⟨w17.heap.size, 0, none⟩ = some (.int .i64 (-4)) := ox.c 0 rfl
  have cx1 : World.cell? w23 ⟨w17.heap.size, 1, none⟩ = some (.int .i64 4) := ox.c 1 rfl
  have fx := ox.fr
  have lx := ox.lt
  have zz23 := B.size
  clear c10
  go_wp2_with fail
  refine (c11 _).mono ?_
  rintro e w24 ⟨rfl, hb24⟩
  have st : Steps _ w24 := hb24
  have Bn : Below w.heap.size w w24 := belowA st
  have nt : Blk w24 (w1.heap.size) 23 #[.int .i64 2305843009213693952, .int .i64 2305843009213693952] := Blk.stepsA st
  have nx : Blk w24 (w17.heap.size) 23 #[.int .i64 (-4), .int .i64 4] := Blk.stepsA st
  have ny : Blk w24 (w23.heap.size) 23 #[.int .i64 366503875925, .int .i64 366503875926] := Blk.stepsA st
  clear B ot ox ct0 ct1 ft lt cx0 cx1 fx lx
  clear st
  have B := Bn
  clear Bn
  have ot := nt
  clear nt
  have ct0 : World.cell? w24 ⟨w1.heap.size, 0, none⟩ = some (.int .i64 2305843009213693952) := ot.c 0 rfl
  have ct1 : World.cell? w24 ⟨w1.heap.size, 1, none⟩ = some (.int .i64 2305843009213693952) := ot.c 1 rfl
  have ft := ot.fr
  have lt := ot.lt
  have ox := nx
  clear nx
  have cx0 : World.cell? w24 ⟨w17.heap.size, 0, none⟩ = some (.int .i64 (-4)) := ox.c 0 rfl
  have cx1 : World.cell? w24 ⟨w17.heap.size, 1, none⟩ = some (.int .i64 4) := ox.c 1 rfl
  have fx := ox.fr
  have lx := ox.lt
  have oy := ny
  clear ny
  have cy0 : World.cell? w24 ⟨w23.heap.size, 0, none⟩ = some (.int .i64 366503875925) := oy.c 0 rfl
  have cy1 : World.cell? w24 ⟨w23.heap.size, 1, none⟩ = some (.int .i64 366503875926) := oy.c 1 rfl
  have fy := oy.fr
  have ly := oy.lt
  have zz24 := B.size
  clear c11
  go_wp2_with fail
  refine (c12 _).mono ?_
  rintro e w25 ⟨rfl, hb25⟩
  have st : Steps _ w25 := hb25
  have Bn : Below w.heap.size w w25 := belowA st
  have nt : Blk w25 (w1.heap.size) 23 #[.int .i64 2305843009213693952, .int .i64 2305843009213693952] := Blk.stepsA st
  have nx : Blk w25 (w17.heap.size) 23 #[.int .i64 (-4), .int .i64 4] := Blk.stepsA st
  have ny : Blk w25 (w23.heap.size) 23 #[.int .i64 366503875925, .int .i64 366503875926] := Blk.stepsA st
  clear B ot ox oy ct0 ct1 ft lt cx0 cx1 fx lx cy0 cy1 fy ly
  clear st
  have B := Bn
  clear Bn
  have ot := nt
  clear nt
  have ct0 : World.cell? w25 ⟨w1.heap.size, 0, none⟩ = some (.int .i64 2305843009213693952) := ot.c 0 rfl
  have ct1 : World.cell? w25 ⟨w1.heap.size, 1, none⟩ = some (.int .i64 2305843009213693952) := ot.c 1 rfl
  have ft := ot.fr
  have lt := ot.lt
  have ox := nx
  clear nx
  have cx0 : World.cell? w25 ⟨w17.heap.size, 0, none⟩ = some (.int .i64 (-4)) := ox.c 0 rfl
  have cx1 : World.cell? w25 ⟨w17.heap.size, 1, none⟩ = some (.int .i64 4) := ox.c 1 rfl
  have fx := ox.fr
  have lx := ox.lt
  have oy := ny
  clear ny
  have cy0 : World.cell? w25 ⟨w23.heap.size, 0, none⟩ = some (.int .i64 366503875925) := oy.c 0 rfl
  have cy1 : World.cell? w25 ⟨w23.heap.size, 1, none⟩ = some (.int .i64 366503875926) := oy.c 1 rfl
  have fy := oy.fr
  have ly := oy.lt
  have zz25 := B.size
  clear c12
  go_wp2_with fail
  refine (ivc (-3) 0 _).mono ?_
  rintro e w26 ⟨rfl, hb26⟩
  have st : Steps _ w26 := hb26
  have Bn : Below w.heap.size w w26 := belowA st
  have nt : Blk w26 (w1.heap.size) 23 #[.int .i64 2305843009213693952, .int .i64 2305843009213693952] := Blk.stepsA st
  have nx : Blk w26 (w17.heap.size) 23 #[.int .i64 (-4), .int .i64 4] := Blk.stepsA st
  have ny : Blk w26 (w23.heap.size) 23 #[.int .i64 366503875925, .int .i64 366503875926] := Blk.stepsA st
  have nz : Blk w26 (w25.heap.size) 23 #[.int .i64 (-2305843009213693952), .int .i64 (-2305843009213693952)] := Blk.stepsA st
  clear B ot ox oy ct0 ct1 ft lt cx0 cx1 fx lx cy0 cy1 fy ly
  clear st
  have B := Bn
  clear Bn
  have ot := nt
  clear nt
  have ct0 : World.cell? w26 ⟨w1.heap.size, 0, none⟩ = some (.int .i64 2305843009213693952) := ot.c 0 rfl
  have ct1 : World.cell? w26 ⟨w1.heap.size, 1, none⟩ = some (.int .i64 2305843009213693952) := ot.c 1 rfl
  have ft := ot.fr
  have lt := ot.lt
  have ox := nx
  clear nx
  have cx0 : World.cell? w26 ⟨w17.heap.size, 0, none⟩ = some (.int .i64 (-4)) := ox.c 0 rfl
  have cx1 : World.cell? w26 ⟨w17.heap.size, 1, none⟩ = some (.int .i64 4) := ox.c 1 rfl
  have fx := ox.fr
  have lx := ox.lt
  have oy := ny
  clear ny
  have cy0 : World.cell? w26 ⟨w23.heap.size, 0, none⟩ = some (.int .i64 366503875925) := oy.c 0 rfl
  have cy1 : World.cell? w26 ⟨w23.heap.size, 1, none⟩ = some (.int .i64 366503875926) := oy.c 1 rfl
  have fy := oy.fr
  have ly := oy.lt
  have oz := nz
  clear nz
  have cz0 : World.cell? w26 ⟨w25.heap.size, 0, none⟩ = some (.int .i64 (-2305843009213693952)) := oz.c 0 rfl
  have cz1 : World.cell? w26 ⟨w25.heap.size, 1, none⟩ = some (.int .i64 (-2305843009213693952)) := oz.c 1 rfl
  have fz := oz.fr
  have lz := oz.lt
  have zz26 := B.size
  go_wp2_with fail
  refine (c13 _).mono ?_
  rintro e w27 ⟨rfl, hb27⟩
  have st : Steps _ w27 := hb27
  have Bn : Below w.heap.size w w27 := belowA st
  have nt : Blk w27 (w1.heap.size) 23 #[.int .i64 2305843009213693952, .int .i64 2305843009213693952] := Blk.stepsA st
  have nx : Blk w27 (w17.heap.size) 23 #[.int .i64 (-4), .int .i64 4] := Blk.stepsA st
  have ny : Blk w27 (w23.heap.size) 23 #[.int .i64 366503875925, .int .i64 366503875926] := Blk.stepsA st
  have nz : Blk w27 (w25.heap.size) 23 #[.int .i64 (-2305843009213693952), .int .i64 (-2305843009213693952)] := Blk.stepsA st
  clear B ot ox oy oz ct0 ct1 ft lt cx0 cx1 fx lx cy0 cy1 fy ly cz0 cz1 fz lz
  clear st
  have B := Bn
  clear Bn
  have ot := nt
  clear nt
  have ct0 : World.cell? w27 ⟨w1.heap.size, 0, none⟩ = some (.int .i64 2305843009213693952) := ot.c 0 rfl
  have ct1 : World.cell? w27 ⟨w1.heap.size, 1, none⟩ = some (.int .i64 2305843009213693952) := ot.c 1 rfl
  have ft := ot.fr
  have lt := ot.lt
  have ox := nx
  clear nx
  have cx0 : World.cell? w27 ⟨w17.heap.size, 0, none⟩ = some (.int .i64 (-4)) := ox.c 0 rfl
  have cx1 : World.cell? w27 ⟨w17.heap.size, 1, none⟩ = some (.int .i64 4) := ox.c 1 rfl
  have fx := ox.fr
  have lx := ox.lt
  have oy := ny
  clear ny
  have cy0 : World.cell? w27 ⟨w23.heap.size, 0, none⟩ = some (.int .i64 366503875925) := oy.c 0 rfl
  have cy1 : World.cell? w27 ⟨w23.heap.size, 1, none⟩ = some (.int .i64 366503875926) := oy.c 1 rfl
  have fy := oy.fr
  have ly := oy.lt
  have oz := nz
  clear nz
  have cz0 : World.cell? w27 ⟨w25.heap.size, 0, none⟩ = some (.int .i64 (-2305843009213693952)) := oz.c 0 rfl
  have cz1 : World.cell? w27 ⟨w25.heap.size, 1, none⟩ = some (.int .i64 (-2305843009213693952)) := oz.c 1 rfl
  have fz := oz.fr
  have lz := oz.lt
  have zz27 := B.size
  clear c13
  go_wp2_with fail
  refine Reg.wp_chain (fun D v W => Below w.heap.size w W ∧ w27.heap.size ≤ W.heap.size ∧ Blk W (w1.heap.size) 23 #[.int .i64 2305843009213693952, .int .i64 2305843009213693952] ∧ Blk W (w17.heap.size) 23 #[.int .i64 (-4), .int .i64 4] ∧ Blk W (w23.heap.size) 23 #[.int .i64 366503875925, .int .i64 366503875926] ∧ Blk W (w25.heap.size) 23 #[.int .i64 (-2305843009213693952), .int .i64 (-2305843009213693952)] ∧ (D 6 = true → ∃ g : Nat, ∃ y z : Value, v 6 = .pointer (some ⟨g, 0, none⟩) ∧ w27.heap.size ≤ g ∧ Blk W g 23 #[y, z]))
    (Reg.inl [1, 2, 6, 7]) (Reg.gv [(1, fun x => x = .agg #[.int .i64 1, .int .i64 1]), (2, fun x => x = .tuple #[.agg #[.int .i64 0, .int .i64 0], .int .i64 16]), (6, fun x => ∃ g : Nat, x = .pointer (some ⟨g, 0, none⟩))]) Reg.None_ (fun _ => Reg.Any) (fun _ _ => False) (Reg.pl [(7, [(6, some 25)])]) (Reg.pl [])
    (by kernel_rfl) (by kernel_rfl) (by kernel_rfl) (Reg.gv_some _ (by intro p hp; simp only [List.mem_cons, List.not_mem_nil, or_false] at hp; rcases hp with rfl | rfl | rfl <;> first | exact ⟨_, rfl⟩ | exact ⟨_, 0, rfl⟩)) (fun v => ?_) (fun D v v' W hv hj => ?_) (fun _ _ _ _ _ _ _ _ _ _ _ _ _ => Reg.none_) (fun _ _ _ _ h => h.elim) (fun ops' Q' hops hQ => ?_)
  · exact ⟨belowB, Nat.le_refl _, ownB, ownB, ownB, ownB, fun h => Bool.noConfusion h⟩
  · obtain ⟨j0, j1, j2, j3, j4, j5, jl⟩ := hj; exact ⟨j0, j1, j2, j3, j4, j5, fun h => by rw [← hv 6 h]; exact jl h⟩
  apply Reg.RC_pure (hc := rfl) (hst := rfl) (hw := rfl) (t := 107) (hd := rfl) (ht := Nat.le_of_ble_eq_true rfl)
  · intro D v' W' hc hj hf K hK
    obtain ⟨j0, j1, j2, j3, j4, j5, jl⟩ := hj
    have c0 : W'.cell? ⟨w1.heap.size, 0, none⟩ = some (.int .i64 2305843009213693952) := j2.c 0 rfl
    have c1 : W'.cell? ⟨w1.heap.size, 1, none⟩ = some (.int .i64 2305843009213693952) := j2.c 1 rfl
    go_step
    exact hK.out
  · rfl
  refine Reg.RC_call rfl (by intro t ht; cases ht; exact Nat.le_of_ble_eq_true rfl) rfl (fun D v' W' hc hj hf K hK => ?_) ?_
  · obtain ⟨j0, j1, j2, j3, j4, j5, jl⟩ := hj
    go_step
    refine (ivc 1 1 W').mono ?_
    rintro e W2 ⟨rfl, hs⟩
    refine hK.out _ W2 Reg.any ⟨below_steps j0 (Nat.le_refl _) hs, Nat.le_trans j1 hs.size, j2.steps hs, j3.steps hs, j4.steps hs, j5.steps hs, fun h => ?_⟩ Reg.none_ rfl
    obtain ⟨g, y, z, e1, e2, e3⟩ := jl h
    exact ⟨g, y, z, e1, e2, e3.steps hs⟩
  rintro _ rfl
  refine Reg.RC_at (b := ⟨#[_, _, _, _, _, _, _, _, _, _, _, _, _, _, _, _, _, _, _, _, _, _, _, _, _, _, _, _, _, _, _, _, _, _, _, _, _, _, _, _, _, _, _, _, _, _, _, _, _, _, _, _, _, _, _, _, _, _, _, _, _, _, _, _, _, _, _, _, _, _, _, _, _, _, _, _, _, _, _, _, _, _, _, _, _, _, _, _, _, _, _, _, _, _, _, _, _, _, _, _, _, _, _, _, _, _, _, _, _, _, _, _, _, _, _, _, _, _, _, _, _, _, _, _, _, _, _, _, _, _, _, _, _, _, _, _, _, _, _, _, _, _, _, _, _, _, _, _, _, _, _, _, _, _, _, _, _, _, _, _, _, _, _, _, _, _, _, _, _, _, _, _, _, _, _, _, _, _, _, _, _, _, _, _, _, _, _, _, _, _, _, _, _, _, _, _, _, _, _, _, _, _, _, _, _, _, _, _, _, _, _, _, _, _, _, _, _, _], []⟩) rfl ?_
  refine Reg.RC_call rfl (by intro t ht; cases ht; exact Nat.le_of_ble_eq_true rfl) rfl (fun D v' W' hc hj hf K hK => ?_) ?_
  · obtain ⟨j0, j1, j2, j3, j4, j5, jl⟩ := hj
    go_step
    refine (c14 W').mono ?_
    rintro e W2 ⟨rfl, hs⟩
    refine hK.out _ W2 Reg.any ⟨below_steps j0 (Nat.le_refl _) hs, Nat.le_trans j1 hs.size, j2.steps hs, j3.steps hs, j4.steps hs, j5.steps hs, fun h => ?_⟩ Reg.none_ rfl
    obtain ⟨g, y, z, e1, e2, e3⟩ := jl h
    exact ⟨g, y, z, e1, e2, e3.steps hs⟩
  rintro _ rfl
  refine Reg.RC_at (b := ⟨#[_, _, _, _, _, _, _, _, _, _, _, _, _, _, _, _, _, _, _, _, _, _, _, _, _, _, _, _, _, _, _, _, _, _, _, _, _, _, _, _, _, _, _, _, _, _, _, _, _, _, _, _, _, _, _, _, _, _, _, _, _, _, _, _, _, _, _, _, _, _, _, _, _, _, _, _, _, _, _, _, _, _, _, _, _, _, _, _, _, _, _, _, _, _, _, _, _, _, _, _, _, _, _, _, _, _, _, _, _, _, _, _, _, _, _, _, _, _, _, _, _, _, _, _, _, _, _, _, _, _, _, _, _, _, _, _, _, _, _, _, _, _, _, _, _, _, _, _, _, _, _, _, _, _, _, _, _, _, _, _, _, _, _, _, _, _, _, _, _, _, _, _, _, _, _, _, _, _, _, _, _, _, _, _, _, _, _, _, _, _, _, _, _, _, _, _, _, _, _, _, _, _, _, _, _, _, _, _, _, _, _, _, _, _, _, _, _, _], []⟩) rfl ?_
  apply Reg.RC_pure (hc := rfl) (hst := rfl) (hw := rfl) (t := 106) (hd := rfl) (ht := Nat.le_of_ble_eq_true rfl)
  · intro D v' W' hc hj hf K hK
    go_step
    exact hK.out
  · rfl
  apply Reg.RC_pure (hc := rfl) (hst := rfl) (hw := rfl) (t := 110) (hd := rfl) (ht := Nat.le_of_ble_eq_true rfl)
  · intro D v' W' hc hj hf K hK
    go_step
    exact hK.out
  · rfl
  apply Reg.RC_pure (hc := rfl) (hst := rfl) (hw := rfl) (t := 111) (hd := rfl) (ht := Nat.le_of_ble_eq_true rfl)
  · intro D v' W' hc hj hf K hK
    go_step
    exact hK.out
  · rfl
  refine Reg.RC_call rfl (by intro t ht; cases ht; exact Nat.le_of_ble_eq_true rfl) rfl (fun D v' W' hc hj hf K hK => ?_) ?_
  · obtain ⟨j0, j1, j2, j3, j4, j5, jl⟩ := hj
    go_step
    exact hK.out _ _ Reg.any ⟨j0.alloc j0.size _, by rw [World.size_alloc]; omega, j2.alloc _, j3.alloc _, j4.alloc _, j5.alloc _, fun _ => ⟨W'.heap.size, _, _, rfl, j1, Blk.new _ _ _⟩⟩ Reg.none_ ⟨_, rfl⟩
  rintro _ ⟨g6, rfl⟩
  refine Reg.RC_at (b := ⟨#[_, _, _, _, _, _, _, _, _, _, _, _, _, _, _, _, _, _, _, _, _, _, _, _, _, _, _, _, _, _, _, _, _, _, _, _, _, _, _, _, _, _, _, _, _, _, _, _, _, _, _, _, _, _, _, _, _, _, _, _, _, _, _, _, _, _, _, _, _, _, _, _, _, _, _, _, _, _, _, _, _, _, _, _, _, _, _, _, _, _, _, _, _, _, _, _, _, _, _, _, _, _, _, _, _, _, _, _, _, _, _, _, _, _, _, _, _, _, _, _, _, _, _, _, _, _, _, _, _, _, _, _, _, _, _, _, _, _, _, _, _, _, _, _, _, _, _, _, _, _, _, _, _, _, _, _, _, _, _, _, _, _, _, _, _, _, _, _, _, _, _, _, _, _, _, _, _, _, _, _, _, _, _, _, _, _, _, _, _, _, _, _, _, _, _, _, _, _, _, _, _, _, _, _, _, _, _, _, _, _, _, _, _, _, _, _, _, _], []⟩) rfl ?_
  refine Reg.RC_call rfl (by intro t ht; cases ht) rfl (fun D v' W' hc hj hf K hK => ?_) (fun _ _ => Reg.RC_at (b := ⟨_, []⟩) rfl ?_)
  · obtain ⟨j0, j1, j2, j3, j4, j5, jl⟩ := hj
    have f6 := hf (6, some 25) (by show (6, some 25) ∈ [(6, some 25)]; simp) rfl
    have e6 : v' 6 = .pointer (some ⟨g6, 0, none⟩) := f6.2.1
    obtain ⟨g, y, z, e1, e2, e3⟩ := jl f6.1
    rw [e6] at e1
    obtain rfl : g6 = g := by simp only [Value.pointer.injEq, Option.some.injEq, Addr.mk.injEq] at e1; exact e1.1
    have c0 : W'.cell? ⟨g6, 0, none⟩ = some y := e3.c 0 rfl
    have c1 : W'.cell? ⟨g6, 1, none⟩ = some z := e3.c 1 rfl
    have ff := e3.fr
    have lt0 : w1.heap.size < w27.heap.size := lt
    have lt1 : w17.heap.size < w27.heap.size := lx
    have lt2 : w23.heap.size < w27.heap.size := ly
    have lt3 : w25.heap.size < w27.heap.size := lz
    have zb := j0.size
    go_step
    exact hK.out undef _ Reg.any ⟨Below.setCell (p := ⟨g6, 1, none⟩) (Below.setCell (p := ⟨g6, 0, none⟩) j0 (show w.heap.size ≤ g6 by omega) _) (show w.heap.size ≤ g6 by omega) _, by simpa using j1, (j2.far' (by omega)).far' (by omega), (j3.far' (by omega)).far' (by omega), (j4.far' (by omega)).far' (by omega), (j5.far' (by omega)).far' (by omega), fun h => ⟨g6, _, _, e6, e2, e3.both⟩⟩ Reg.none_ trivial
  apply Reg.RC_pure (hc := rfl) (hst := rfl) (hw := rfl) (t := 26) (hd := rfl) (ht := Nat.le_of_ble_eq_true rfl)
  · intro D v' W' hc hj hf K hK
    go_step
    exact hK.out
  · rfl
  refine Reg.RC_end (fun Dn v' w28 hd hj hf => ?_)
  obtain ⟨Bn, j1, j2, j3, j4, j5, jl⟩ := hj
  clear B ot ox oy oz ct0 ct1 ft lt cx0 cx1 fx lx cy0 cy1 fy ly cz0 cz1 fz lz
  have B := Bn
  clear Bn hd hf jl
  have ot := j2
  clear j2
  have ox := j3
  clear j3
  have oy := j4
  clear j4
  have oz := j5
  clear j5
  refine hQ _ _ ?_
  clear hQ hops Q' ops'
  have ct0 : World.cell? _ ⟨w1.heap.size, 0, none⟩ = some (.int .i64 2305843009213693952) := ot.c 0 rfl
  have ct1 : World.cell? _ ⟨w1.heap.size, 1, none⟩ = some (.int .i64 2305843009213693952) := ot.c 1 rfl
  have ft := ot.fr
  have lt := ot.lt
  have cx0 : World.cell? _ ⟨w17.heap.size, 0, none⟩ = some (.int .i64 (-4)) := ox.c 0 rfl
  have cx1 : World.cell? _ ⟨w17.heap.size, 1, none⟩ = some (.int .i64 4) := ox.c 1 rfl
  have fx := ox.fr
  have lx := ox.lt
  have cy0 : World.cell? _ ⟨w23.heap.size, 0, none⟩ = some (.int .i64 366503875925) := oy.c 0 rfl
  have cy1 : World.cell? _ ⟨w23.heap.size, 1, none⟩ = some (.int .i64 366503875926) := oy.c 1 rfl
  have fy := oy.fr
  have ly := oy.lt
  have cz0 : World.cell? _ ⟨w25.heap.size, 0, none⟩ = some (.int .i64 (-2305843009213693952)) := oz.c 0 rfl
  have cz1 : World.cell? _ ⟨w25.heap.size, 1, none⟩ = some (.int .i64 (-2305843009213693952)) := oz.c 1 rfl
  have fz := oz.fr
  have lz := oz.lt
  have zz28 := B.size
  clear c14
  go_wp2_with fail
  refine (c15 _).mono ?_
  rintro e w29 ⟨rfl, hb29⟩
  have st : Steps _ w29 := hb29
  have Bn : Below w.heap.size w w29 := belowA st
  have nt : Blk w29 (w1.heap.size) 23 #[.int .i64 2305843009213693952, .int .i64 2305843009213693952] := Blk.stepsA st
  have nx : Blk w29 (w17.heap.size) 23 #[.int .i64 (-4), .int .i64 4] := Blk.stepsA st
  have ny : Blk w29 (w23.heap.size) 23 #[.int .i64 366503875925, .int .i64 366503875926] := Blk.stepsA st
  have nz : Blk w29 (w25.heap.size) 23 #[.int .i64 (-2305843009213693952), .int .i64 (-2305843009213693952)] := Blk.stepsA st
  clear B ot ox oy oz ct0 ct1 ft lt cx0 cx1 fx lx cy0 cy1 fy ly cz0 cz1 fz lz
  clear st
  have B := Bn
  clear Bn
  have ot := nt
  clear nt
  have ct0 : World.cell? w29 ⟨w1.heap.size, 0, none⟩ = some (.int .i64 2305843009213693952) := ot.c 0 rfl
  have ct1 : World.cell? w29 ⟨w1.heap.size, 1, none⟩ = some (.int .i64 2305843009213693952) := ot.c 1 rfl
  have ft := ot.fr
  have lt := ot.lt
  have ox := nx
  clear nx
  have cx0 : World.cell? w29 ⟨w17.heap.size, 0, none⟩ = some (.int .i64 (-4)) := ox.c 0 rfl
  have cx1 : World.cell? w29 ⟨w17.heap.size, 1, none⟩ = some (.int .i64 4) := ox.c 1 rfl
  have fx := ox.fr
  have lx := ox.lt
  have oy := ny
  clear ny
  have cy0 : World.cell? w29 ⟨w23.heap.size, 0, none⟩ = some (.int .i64 366503875925) := oy.c 0 rfl
  have cy1 : World.cell? w29 ⟨w23.heap.size, 1, none⟩ = some (.int .i64 366503875926) := oy.c 1 rfl
  have fy := oy.fr
  have ly := oy.lt
  have oz := nz
  clear nz
  have cz0 : World.cell? w29 ⟨w25.heap.size, 0, none⟩ = some (.int .i64 (-2305843009213693952)) := oz.c 0 rfl
  have cz1 : World.cell? w29 ⟨w25.heap.size, 1, none⟩ = some (.int .i64 (-2305843009213693952)) := oz.c 1 rfl
  have fz := oz.fr
  have lz := oz.lt
  have zz29 := B.size
  clear c15
  go_wp2_with fail
  refine (ivc 1 2 _).mono ?_
  rintro e w30 ⟨rfl, hb30⟩
  have st : Steps _ w30 := hb30
  have Bn : Below w.heap.size w w30 := belowA st
  have nt : Blk w30 (w1.heap.size) 23 #[.int .i64 2305843009213693952, .int .i64 2305843009213693952] := Blk.stepsA st
  have nx : Blk w30 (w17.heap.size) 23 #[.int .i64 (-4), .int .i64 4] := Blk.stepsA st
  have ny : Blk w30 (w23.heap.size) 23 #[.int .i64 366503875925, .int .i64 366503875926] := Blk.stepsA st
  have nz : Blk w30 (w25.heap.size) 23 #[.int .i64 (-2305843009213693952), .int .i64 (-2305843009213693952)] := Blk.stepsA st
  clear B ot ox oy oz ct0 ct1 ft lt cx0 cx1 fx lx cy0 cy1 fy ly cz0 cz1 fz lz
  clear st
  have B := Bn
  clear Bn
  have ot := nt
  clear nt
  have ct0 : World.cell? w30 ⟨w1.heap.size, 0, none⟩ = some (.int .i64 2305843009213693952) := ot.c 0 rfl
  have ct1 : World.cell? w30 ⟨w1.heap.size, 1, none⟩ = some (.int .i64 2305843009213693952) := ot.c 1 rfl
  have ft := ot.fr
  have lt := ot.lt
  have ox := nx
  clear nx
  have cx0 : World.cell? w30 ⟨w17.heap.size, 0, none⟩ = some (.int .i64 (-4)) := ox.c 0 rfl
  have cx1 : World.cell? w30 ⟨w17.heap.size, 1, none⟩ = some (.int .i64 4) := ox.c 1 rfl
  have fx := ox.fr
  have lx := ox.lt
  have oy := ny
  clear ny
  have cy0 : World.cell? w30 ⟨w23.heap.size, 0, none⟩ = some (.int .i64 366503875925) := oy.c 0 rfl
  have cy1 : World.cell? w30 ⟨w23.heap.size, 1, none⟩ = some (.int .i64 366503875926) := oy.c 1 rfl
  have fy := oy.fr
  have ly := oy.lt
  have oz := nz
  clear nz
  have cz0 : World.cell? w30 ⟨w25.heap.size, 0, none⟩ = some (.int .i64 (-2305843009213693952)) := oz.c 0 rfl
  have cz1 : World.cell? w30 ⟨w25.heap.size, 1, none⟩ = some (.int .i64 (-2305843009213693952)) := oz.c 1 rfl
  have fz := oz.fr
  have lz := oz.lt
  have zz30 := B.size
  go_wp2_with fail
  refine (ivc 1 2 _).mono ?_
  rintro e w31 ⟨rfl, hb31⟩
  have st : Steps _ w31 := hb31
  have Bn : Below w.heap.size w w31 := belowA st
  have nt : Blk w31 (w1.heap.size) 23 #[.int .i64 2305843009213693952, .int .i64 2305843009213693952] := Blk.stepsA st
  have nx : Blk w31 (w17.heap.size) 23 #[.int .i64 (-4), .int .i64 4] := Blk.stepsA st
  have ny : Blk w31 (w23.heap.size) 23 #[.int .i64 366503875925, .int .i64 366503875926] := Blk.stepsA st
  have nz : Blk w31 (w25.heap.size) 23 #[.int .i64 (-2305843009213693952), .int .i64 (-2305843009213693952)] := Blk.stepsA st
  clear B ot ox oy oz ct0 ct1 ft lt cx0 cx1 fx lx cy0 cy1 fy ly cz0 cz1 fz lz
  clear st
  have B := Bn
  clear Bn
  have ot := nt
  clear nt
  have ct0 : World.cell? w31 ⟨w1.heap.size, 0, none⟩ = some (.int .i64 2305843009213693952) := ot.c 0 rfl
  have ct1 : World.cell? w31 ⟨w1.heap.size, 1, none⟩ = some (.int .i64 2305843009213693952) := ot.c 1 rfl
  have ft := ot.fr
  have lt := ot.lt
  have ox := nx
  clear nx
  have cx0 : World.cell? w31 ⟨w17.heap.size, 0, none⟩ = some (.int .i64 (-4)) := ox.c 0 rfl
  have cx1 : World.cell? w31 ⟨w17.heap.size, 1, none⟩ = some (.int .i64 4) := ox.c 1 rfl
  have fx := ox.fr
  have lx := ox.lt
  have oy := ny
  clear ny
  have cy0 : World.cell? w31 ⟨w23.heap.size, 0, none⟩ = some (.int .i64 366503875925) := oy.c 0 rfl
  have cy1 : World.cell? w31 ⟨w23.heap.size, 1, none⟩ = some (.int .i64 366503875926) := oy.c 1 rfl
  have fy := oy.fr
  have ly := oy.lt
  have oz := nz
  clear nz
  have cz0 : World.cell? w31 ⟨w25.heap.size, 0, none⟩ = some (.int .i64 (-2305843009213693952)) := oz.c 0 rfl
  have cz1 : World.cell? w31 ⟨w25.heap.size, 1, none⟩ = some (.int .i64 (-2305843009213693952)) := oz.c 1 rfl
  have fz := oz.fr
  have lz := oz.lt
  have zz31 := B.size
  go_wp2_with fail
  refine (c16 _).mono ?_
  rintro e w32 ⟨rfl, hb32⟩
  have st : Steps _ w32 := hb32
  have Bn : Below w.heap.size w w32 := belowA st
  have nt : Blk w32 (w1.heap.size) 23 #[.int .i64 2305843009213693952, .int .i64 2305843009213693952] := Blk.stepsA st
  have nx : Blk w32 (w17.heap.size) 23 #[.int .i64 (-4), .int .i64 4] := Blk.stepsA st
  have ny : Blk w32 (w23.heap.size) 23 #[.int .i64 366503875925, .int .i64 366503875926] := Blk.stepsA st
  have nz : Blk w32 (w25.heap.size) 23 #[.int .i64 (-2305843009213693952), .int .i64 (-2305843009213693952)] := Blk.stepsA st
  clear B ot ox oy oz ct0 ct1 ft lt cx0 cx1 fx lx cy0 cy1 fy ly cz0 cz1 fz lz
  clear st
  have B := Bn
  clear Bn
  have ot := nt
  clear nt
  have ct0 : World.cell? w32 ⟨w1.heap.size, 0, none⟩ = some (.int .i64 2305843009213693952) := ot.c 0 rfl
  have ct1 : World.cell? w32 ⟨w1.heap.size, 1, none⟩ = some (.int .i64 2305843009213693952) := ot.c 1 rfl
  have ft := ot.fr
  have lt := ot.lt
  have ox := nx
  clear nx
  have cx0 : World.cell? w32 ⟨w17.heap.size, 0, none⟩ = some (.int .i64 (-4)) := ox.c 0 rfl
  have cx1 : World.cell? w32 ⟨w17.heap.size, 1, none⟩ = some (.int .i64 4) := ox.c 1 rfl
  have fx := ox.fr
  have lx := ox.lt
  have oy := ny
  clear ny
  have cy0 : World.cell? w32 ⟨w23.heap.size, 0, none⟩ = some (.int .i64 366503875925) := oy.c 0 rfl
  have cy1 : World.cell? w32 ⟨w23.heap.size, 1, none⟩ = some (.int .i64 366503875926) := oy.c 1 rfl
  have fy := oy.fr
  have ly := oy.lt
  have oz := nz
  clear nz
  have cz0 : World.cell? w32 ⟨w25.heap.size, 0, none⟩ = some (.int .i64 (-2305843009213693952)) := oz.c 0 rfl
  have cz1 : World.cell? w32 ⟨w25.heap.size, 1, none⟩ = some (.int .i64 (-2305843009213693952)) := oz.c 1 rfl
  have fz := oz.fr
  have lz := oz.lt
  have zz32 := B.size
  clear c16
  go_wp2_with fail
  refine (ivc 1 0 _).mono ?_
  rintro e w33 ⟨rfl, hb33⟩
  have st : Steps _ w33 := hb33
  have Bn : Below w.heap.size w w33 := belowA st
  have nt : Blk w33 (w1.heap.size) 23 #[.int .i64 2305843009213693952, .int .i64 2305843009213693952] := Blk.stepsA st
  have nx : Blk w33 (w17.heap.size) 23 #[.int .i64 (-4), .int .i64 4] := Blk.stepsA st
  have ny : Blk w33 (w23.heap.size) 23 #[.int .i64 366503875925, .int .i64 366503875926] := Blk.stepsA st
  have nz : Blk w33 (w25.heap.size) 23 #[.int .i64 (-2305843009213693952), .int .i64 (-2305843009213693952)] := Blk.stepsA st
  clear B ot ox oy oz ct0 ct1 ft lt cx0 cx1 fx lx cy0 cy1 fy ly cz0 cz1 fz lz
  clear st
  have B := Bn
  clear Bn
  have ot := nt
  clear nt
  have ct0 : World.cell? w33 ⟨w1.heap.size, 0, none⟩ = some (.int .i64 2305843009213693952) := ot.c 0 rfl
  have ct1 : World.cell? w33 ⟨w1.heap.size, 1, none⟩ = some (.int .i64 2305843009213693952) := ot.c 1 rfl
  have ft := ot.fr
  have lt := ot.lt
  have ox := nx
  clear nx
  have cx0 : World.cell? w33 ⟨w17.heap.size, 0, none⟩ = some (.int .i64 (-4)) := ox.c 0 rfl
  have cx1 : World.cell? w33 ⟨w17.heap.size, 1, none⟩ = some (.int .i64 4) := ox.c 1 rfl
  have fx := ox.fr
  have lx := ox.lt
  have oy := ny
  clear ny
  have cy0 : World.cell? w33 ⟨w23.heap.size, 0, none⟩ = some (.int .i64 366503875925) := oy.c 0 rfl
  have cy1 : World.cell? w33 ⟨w23.heap.size, 1, none⟩ = some (.int .i64 366503875926) := oy.c 1 rfl
  have fy := oy.fr
  have ly := oy.lt
  have oz := nz
  clear nz
  have cz0 : World.cell? w33 ⟨w25.heap.size, 0, none⟩ = some (.int .i64 (-2305843009213693952)) := oz.c 0 rfl
  have cz1 : World.cell? w33 ⟨w25.heap.size, 1, none⟩ = some (.int .i64 (-2305843009213693952)) := oz.c 1 rfl
  have fz := oz.fr
  have lz := oz.lt
  have zz33 := B.size
  go_wp2_with fail
  refine (c17 _).mono ?_
  rintro e w34 ⟨rfl, hb34⟩
  have st : Steps _ w34 := hb34
  have Bn : Below w.heap.size w w34 := belowA st
  have nt : Blk w34 (w1.heap.size) 23 #[.int .i64 2305843009213693952, .int .i64 2305843009213693952] := Blk.stepsA st
  have nx : Blk w34 (w17.heap.size) 23 #[.int .i64 (-4), .int .i64 4] := Blk.stepsA st
  have ny : Blk w34 (w23.heap.size) 23 #[.int .i64 366503875925, .int .i64 366503875926] := Blk.stepsA st
  have nz : Blk w34 (w25.heap.size) 23 #[.int .i64 (-2305843009213693952), .int .i64 (-2305843009213693952)] := Blk.stepsA st
  clear B ot ox oy oz ct0 ct1 ft lt cx0 cx1 fx lx cy0 cy1 fy ly cz0 cz1 fz lz
  clear st
  have B := Bn
  clear Bn
  have ot := nt
  clear nt
  have ct0 : World.cell? w34 ⟨w1.heap.size, 0, none⟩ = some (.int .i64 2305843009213693952) := ot.c 0 rfl
  have ct1 : World.cell? w34 ⟨w1.heap.size, 1, none⟩ = some (.int .i64 2305843009213693952) := ot.c 1 rfl
  have ft := ot.fr
  have lt := ot.lt
  have ox := nx
  clear nx
  have cx0 : World.cell? w34 ⟨w17.heap.size, 0, none⟩ = some (.int .i64 (-4)) := ox.c 0 rfl
  have cx1 : World.cell? w34 ⟨w17.heap.size, 1, none⟩ = some (.int .i64 4) := ox.c 1 rfl
  have fx := ox.fr
  have lx := ox.lt
  have oy := ny
  clear ny
  have cy0 : World.cell? w34 ⟨w23.heap.size, 0, none⟩ = some (.int .i64 366503875925) := oy.c 0 rfl
  have cy1 : World.cell? w34 ⟨w23.heap.size, 1, none⟩ = some (.int .i64 366503875926) := oy.c 1 rfl
  have fy := oy.fr
  have ly := oy.lt
  have oz := nz
  clear nz
  have cz0 : World.cell? w34 ⟨w25.heap.size, 0, none⟩ = some (.int .i64 (-2305843009213693952)) := oz.c 0 rfl
  have cz1 : World.cell? w34 ⟨w25.heap.size, 1, none⟩ = some (.int .i64 (-2305843009213693952)) := oz.c 1 rfl
  have fz := oz.fr
  have lz := oz.lt
  have zz34 := B.size
  clear c17
  go_wp2_with fail
  go_region_held3 (fun w' => w'.cell? ⟨w1.heap.size, 0, none⟩ = some (.int .i64 2305843009213693952) ∧ w'.cell? ⟨w1.heap.size, 1, none⟩ = some (.int .i64 2305843009213693952) ∧ w'.cell? ⟨w17.heap.size, 0, none⟩ = some (.int .i64 (-4)) ∧ w'.cell? ⟨w17.heap.size, 1, none⟩ = some (.int .i64 4) ∧ w'.cell? ⟨w23.heap.size, 0, none⟩ = some (.int .i64 366503875925) ∧ w'.cell? ⟨w23.heap.size, 1, none⟩ = some (.int .i64 366503875926) ∧ w'.cell? ⟨w25.heap.size, 0, none⟩ = some (.int .i64 (-2305843009213693952)) ∧ w'.cell? ⟨w25.heap.size, 1, none⟩ = some (.int .i64 (-2305843009213693952)))
    ((refine ⟨Blk.c (t := 23) (cs := #[.int .i64 2305843009213693952, .int .i64 2305843009213693952]) ?_ 0 rfl, Blk.c (t := 23) (cs := #[.int .i64 2305843009213693952, .int .i64 2305843009213693952]) ?_ 1 rfl, Blk.c (t := 23) (cs := #[.int .i64 (-4), .int .i64 4]) ?_ 0 rfl, Blk.c (t := 23) (cs := #[.int .i64 (-4), .int .i64 4]) ?_ 1 rfl, Blk.c (t := 23) (cs := #[.int .i64 366503875925, .int .i64 366503875926]) ?_ 0 rfl, Blk.c (t := 23) (cs := #[.int .i64 366503875925, .int .i64 366503875926]) ?_ 1 rfl, Blk.c (t := 23) (cs := #[.int .i64 (-2305843009213693952), .int .i64 (-2305843009213693952)]) ?_ 0 rfl, Blk.c (t := 23) (cs := #[.int .i64 (-2305843009213693952), .int .i64 (-2305843009213693952)]) ?_ 1 rfl⟩ <;> (repeat' first | with_reducible assumption | (with_reducible refine Blk.new' ?_; first | with_reducible rfl | (simp only [World.size_alloc, World.size_setCell, World.size_drew]; done)) | with_reducible refine Blk.alloc ?_ _ | with_reducible refine Blk.drew ?_ | with_reducible refine Blk.drewN ?_ _ | with_reducible apply Blk.both | with_reducible refine Blk.far' ?_ ?_ | (show _ ≠ _; omega))))
    (first
      | ((go_at_call 48; refine (ivc _ _ _).mono ?_; rintro e wv ⟨rfl, hbv⟩; go_must (have st : Steps _ wv := hbv; have Bn : Below w.heap.size w wv := belowA st; have nt : Blk wv (w1.heap.size) 23 #[.int .i64 2305843009213693952, .int .i64 2305843009213693952] := Blk.stepsA st; have nx : Blk wv (w17.heap.size) 23 #[.int .i64 (-4), .int .i64 4] := Blk.stepsA st; have ny : Blk wv (w23.heap.size) 23 #[.int .i64 366503875925, .int .i64 366503875926] := Blk.stepsA st; have nz : Blk wv (w25.heap.size) 23 #[.int .i64 (-2305843009213693952), .int .i64 (-2305843009213693952)] := Blk.stepsA st; clear B ot ox oy oz ct0 ct1 ft lt cx0 cx1 fx lx cy0 cy1 fy ly cz0 cz1 fz lz; clear st; have B := Bn; clear Bn; have ot := nt; clear nt; have ct0 : World.cell? wv ⟨w1.heap.size, 0, none⟩ = some (.int .i64 2305843009213693952) := ot.c 0 rfl; have ct1 : World.cell? wv ⟨w1.heap.size, 1, none⟩ = some (.int .i64 2305843009213693952) := ot.c 1 rfl; have ft := ot.fr; have lt := ot.lt; have ox := nx; clear nx; have cx0 : World.cell? wv ⟨w17.heap.size, 0, none⟩ = some (.int .i64 (-4)) := ox.c 0 rfl; have cx1 : World.cell? wv ⟨w17.heap.size, 1, none⟩ = some (.int .i64 4) := ox.c 1 rfl; have fx := ox.fr; have lx := ox.lt; have oy := ny; clear ny; have cy0 : World.cell? wv ⟨w23.heap.size, 0, none⟩ = some (.int .i64 366503875925) := oy.c 0 rfl; have cy1 : World.cell? wv ⟨w23.heap.size, 1, none⟩ = some (.int .i64 366503875926) := oy.c 1 rfl; have fy := oy.fr; have ly := oy.lt; have oz := nz; clear nz; have cz0 : World.cell? wv ⟨w25.heap.size, 0, none⟩ = some (.int .i64 (-2305843009213693952)) := oz.c 0 rfl; have cz1 : World.cell? wv ⟨w25.heap.size, 1, none⟩ = some (.int .i64 (-2305843009213693952)) := oz.c 1 rfl; have fz := oz.fr; have lz := oz.lt; have zzv3 := B.size)))
      | ((go_at_call 46; refine (alc _).mono ?_; rintro e wv ⟨rfl, hbv⟩; go_must (have st : Steps _ wv := hbv; have Bn : Below w.heap.size w wv := belowA st; have nt : Blk wv (w1.heap.size) 23 #[.int .i64 2305843009213693952, .int .i64 2305843009213693952] := Blk.stepsA st; have nx : Blk wv (w17.heap.size) 23 #[.int .i64 (-4), .int .i64 4] := Blk.stepsA st; have ny : Blk wv (w23.heap.size) 23 #[.int .i64 366503875925, .int .i64 366503875926] := Blk.stepsA st; have nz : Blk wv (w25.heap.size) 23 #[.int .i64 (-2305843009213693952), .int .i64 (-2305843009213693952)] := Blk.stepsA st; clear B ot ox oy oz ct0 ct1 ft lt cx0 cx1 fx lx cy0 cy1 fy ly cz0 cz1 fz lz; clear st; have B := Bn; clear Bn; have ot := nt; clear nt; have ct0 : World.cell? wv ⟨w1.heap.size, 0, none⟩ = some (.int .i64 2305843009213693952) := ot.c 0 rfl; have ct1 : World.cell? wv ⟨w1.heap.size, 1, none⟩ = some (.int .i64 2305843009213693952) := ot.c 1 rfl; have ft := ot.fr; have lt := ot.lt; have ox := nx; clear nx; have cx0 : World.cell? wv ⟨w17.heap.size, 0, none⟩ = some (.int .i64 (-4)) := ox.c 0 rfl; have cx1 : World.cell? wv ⟨w17.heap.size, 1, none⟩ = some (.int .i64 4) := ox.c 1 rfl; have fx := ox.fr; have lx := ox.lt; have oy := ny; clear ny; have cy0 : World.cell? wv ⟨w23.heap.size, 0, none⟩ = some (.int .i64 366503875925) := oy.c 0 rfl; have cy1 : World.cell? wv ⟨w23.heap.size, 1, none⟩ = some (.int .i64 366503875926) := oy.c 1 rfl; have fy := oy.fr; have ly := oy.lt; have oz := nz; clear nz; have cz0 : World.cell? wv ⟨w25.heap.size, 0, none⟩ = some (.int .i64 (-2305843009213693952)) := oz.c 0 rfl; have cz1 : World.cell? wv ⟨w25.heap.size, 1, none⟩ = some (.int .i64 (-2305843009213693952)) := oz.c 1 rfl; have fz := oz.fr; have lz := oz.lt; have zzv3 := B.size))))
  go_wp2_with fail
  go_region_held3 (fun w' => w'.cell? ⟨w1.heap.size, 0, none⟩ = some (.int .i64 2305843009213693952) ∧ w'.cell? ⟨w1.heap.size, 1, none⟩ = some (.int .i64 2305843009213693952) ∧ w'.cell? ⟨w17.heap.size, 0, none⟩ = some (.int .i64 (-4)) ∧ w'.cell? ⟨w17.heap.size, 1, none⟩ = some (.int .i64 4) ∧ w'.cell? ⟨w23.heap.size, 0, none⟩ = some (.int .i64 366503875925) ∧ w'.cell? ⟨w23.heap.size, 1, none⟩ = some (.int .i64 366503875926) ∧ w'.cell? ⟨w25.heap.size, 0, none⟩ = some (.int .i64 (-2305843009213693952)) ∧ w'.cell? ⟨w25.heap.size, 1, none⟩ = some (.int .i64 (-2305843009213693952)))
    ((refine ⟨Blk.c (t := 23) (cs := #[.int .i64 2305843009213693952, .int .i64 2305843009213693952]) ?_ 0 rfl, Blk.c (t := 23) (cs := #[.int .i64 2305843009213693952, .int .i64 2305843009213693952]) ?_ 1 rfl, Blk.c (t := 23) (cs := #[.int .i64 (-4), .int .i64 4]) ?_ 0 rfl, Blk.c (t := 23) (cs := #[.int .i64 (-4), .int .i64 4]) ?_ 1 rfl, Blk.c (t := 23) (cs := #[.int .i64 366503875925, .int .i64 366503875926]) ?_ 0 rfl, Blk.c (t := 23) (cs := #[.int .i64 366503875925, .int .i64 366503875926]) ?_ 1 rfl, Blk.c (t := 23) (cs := #[.int .i64 (-2305843009213693952), .int .i64 (-2305843009213693952)]) ?_ 0 rfl, Blk.c (t := 23) (cs := #[.int .i64 (-2305843009213693952), .int .i64 (-2305843009213693952)]) ?_ 1 rfl⟩ <;> (repeat' first | with_reducible assumption | (with_reducible refine Blk.new' ?_; first | with_reducible rfl | (simp only [World.size_alloc, World.size_setCell, World.size_drew]; done)) | with_reducible refine Blk.alloc ?_ _ | with_reducible refine Blk.drew ?_ | with_reducible refine Blk.drewN ?_ _ | with_reducible apply Blk.both | with_reducible refine Blk.far' ?_ ?_ | (show _ ≠ _; omega))))
    (first
      | ((go_at_call 48; refine (ivc _ _ _).mono ?_; rintro e wv ⟨rfl, hbv⟩; go_must (have st : Steps _ wv := hbv; have Bn : Below w.heap.size w wv := belowA st; have nt : Blk wv (w1.heap.size) 23 #[.int .i64 2305843009213693952, .int .i64 2305843009213693952] := Blk.stepsA st; have nx : Blk wv (w17.heap.size) 23 #[.int .i64 (-4), .int .i64 4] := Blk.stepsA st; have ny : Blk wv (w23.heap.size) 23 #[.int .i64 366503875925, .int .i64 366503875926] := Blk.stepsA st; have nz : Blk wv (w25.heap.size) 23 #[.int .i64 (-2305843009213693952), .int .i64 (-2305843009213693952)] := Blk.stepsA st; clear B ot ox oy oz ct0 ct1 ft lt cx0 cx1 fx lx cy0 cy1 fy ly cz0 cz1 fz lz; clear st; have B := Bn; clear Bn; have ot := nt; clear nt; have ct0 : World.cell? wv ⟨w1.heap.size, 0, none⟩ = some (.int .i64 2305843009213693952) := ot.c 0 rfl; have ct1 : World.cell? wv ⟨w1.heap.size, 1, none⟩ = some (.int .i64 2305843009213693952) := ot.c 1 rfl; have ft := ot.fr; have lt := ot.lt; have ox := nx; clear nx; have cx0 : World.cell? wv ⟨w17.heap.size, 0, none⟩ = some (.int .i64 (-4)) := ox.c 0 rfl; have cx1 : World.cell? wv ⟨w17.heap.size, 1, none⟩ = some (.int .i64 4) := ox.c 1 rfl; have fx := ox.fr; have lx := ox.lt; have oy := ny; clear ny; have cy0 : World.cell? wv ⟨w23.heap.size, 0, none⟩ = some (.int .i64 366503875925) := oy.c 0 rfl; have cy1 : World.cell? wv ⟨w23.heap.size, 1, none⟩ = some (.int .i64 366503875926) := oy.c 1 rfl; have fy := oy.fr; have ly := oy.lt; have oz := nz; clear nz; have cz0 : World.cell? wv ⟨w25.heap.size, 0, none⟩ = some (.int .i64 (-2305843009213693952)) := oz.c 0 rfl; have cz1 : World.cell? wv ⟨w25.heap.size, 1, none⟩ = some (.int .i64 (-2305843009213693952)) := oz.c 1 rfl; have fz := oz.fr; have lz := oz.lt; have zzv4 := B.size))))
  go_wp2
  go_returns
  exact ⟨rfl, belowB⟩
end Go.Proofs.Ytalnlnpnacfdfaa
