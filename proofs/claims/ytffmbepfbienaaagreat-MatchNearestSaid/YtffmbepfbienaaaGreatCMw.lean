import Derived.Test.YtffmbepfbienaaaGreatCMf
import Derived.Test.YtffmbepfbienaaaGreatCWf
import Derived.Test.YtffmbepfbienaaaGreatCMd
import Derived.Test.YtffmbepfbienaaaGreatCTz
set_option linter.unusedVariables false
set_option linter.unusedSimpArgs false
set_option maxHeartbeats 6400000
set_option maxRecDepth 1000000
namespace Go.Proofs.YtffmbepfbienaaaGreat
open Go.RowKit
theorem FR.lens {w : World} {a1 a5 : Bool} {a2 a6 : Option Addr} {p q a4 a8 : Nat} {r : Rat} (h : FR w (.agg #[.bool a1, .slice a2 p a4, .bool a5, .slice a6 q a8]) r) : p = (limbs (absN r.num)).length ∧ q = (limbs (absN (r.den : Int))).length := by
 obtain ⟨x2, x3, x4, x6, x7, x8, e, n1, n2, -⟩ := h.nums
 simp only [Value.agg.injEq, Array.mk.injEq, List.cons.injEq, and_true, Value.slice.injEq, Value.bool.injEq] at e
 obtain ⟨e1, ⟨rfl, rfl, rfl⟩, e2, rfl, rfl, rfl⟩ := e
 obtain ⟨_, _, f1, _⟩ := n1.parts
 obtain ⟨_, _, f2, _⟩ := n2.parts
 simp only [Value.agg.injEq, Array.mk.injEq, List.cons.injEq, and_true, Value.slice.injEq, Value.bool.injEq] at f1 f2
 exact ⟨f1.2.2.1, f2.2.2.1⟩
theorem absN_nn (x : Int) : 0 ≤ absN x := by unfold absN; omega
theorem FR.limF {w : World} {a1 a5 : Bool} {a2 a6 : Option Addr} {p q a4 a8 : Nat} {r : Rat} (h : FR w (.agg #[.bool a1, .slice a2 p a4, .bool a5, .slice a6 q a8]) r) (most : Nat) (h1 : absN r.num < bp most) (h2 : absN (r.den : Int) < bp most) : limF most (some r) p q = true := by
 obtain ⟨rfl, rfl⟩ := h.lens
 unfold Go.Proofs.YtffmbepfbienaaaGreat.limF
 rw [decide_eq_true ((limbs_length (absN_nn _) most).2 h1), decide_eq_true ((limbs_length (absN_nn _) most).2 h2)]
 rfl
theorem FR.few {w : World} {a1 a5 : Bool} {a2 a6 : Option Addr} {p q a4 a8 : Nat} {r : Rat} (h : FR w (.agg #[.bool a1, .slice a2 p a4, .bool a5, .slice a6 q a8]) r) : ∀ s, some r = some s → absN s.num ≤ bp p ∧ (s.den : Int) ≤ bp q := by
 intro s e
 injection e with e
 subst e
 obtain ⟨rfl, rfl⟩ := h.lens
 have h1 := (limbs_length (absN_nn r.num) _).1 (Nat.le_refl _)
 have h2 := (limbs_length (absN_nn (r.den : Int)) _).1 (Nat.le_refl _)
 have e3 : absN (r.den : Int) = (r.den : Int) := by unfold absN; omega
 rw [e3] at h2 ⊢
 exact ⟨Int.le_of_lt h1, Int.le_of_lt h2⟩
theorem mkS {ka1 ka5 : Bool} {ka2 ka6 : Option Addr} {ka3 ka4 ka7 ka8 : Nat} {kb1 kb5 : Bool} {kb2 kb6 : Option Addr} {kb3 kb4 kb7 kb8 : Nat} {kc1 kc5 : Bool} {kc2 kc6 : Option Addr} {kc3 kc4 kc7 kc8 : Nat} {kd1 kd5 : Bool} {kd2 kd6 : Option Addr} {kd3 kd4 kd7 kd8 : Nat} {w : World} {T : Nat → Rat} (h0 : FR w (.agg #[.bool ka1, .slice ka2 ka3 ka4, .bool ka5, .slice ka6 ka7 ka8]) (T 0)) (h1 : FR w (.agg #[.bool kb1, .slice kb2 kb3 kb4, .bool kb5, .slice kb6 kb7 kb8]) (T 1)) (h2 : FR w (.agg #[.bool kc1, .slice kc2 kc3 kc4, .bool kc5, .slice kc6 kc7 kc8]) (T 2)) (h3 : FR w (.agg #[.bool kd1, .slice kd2 kd3 kd4, .bool kd5, .slice kd6 kd7 kd8]) (T 3)) : SimO w (.agg #[.bool ka1, .slice ka2 ka3 ka4, .bool ka5, .slice ka6 ka7 ka8, .bool kb1, .slice kb2 kb3 kb4, .bool kb5, .slice kb6 kb7 kb8, .bool kc1, .slice kc2 kc3 kc4, .bool kc5, .slice kc6 kc7 kc8, .bool kd1, .slice kd2 kd3 kd4, .bool kd5, .slice kd6 kd7 kd8]) (some T) :=
 ⟨_, _, _, _, _, _, _, _, _, _, _, _, _, _, _, _, _, _, _, _, _, _, _, _, _, _, _, _, _, _, _, _, rfl, h0, h1, h2, h3⟩
theorem ints3 {w : World} {g : Nat} {t : TypeId} {x y z : Int} (h : Blk w g t #[.int .i64 x, .int .i64 y, .int .i64 z]) : IntsR w (.slice (some ⟨g, 0, none⟩) 3 3) [x, y, z] := by
 refine ⟨_, _, rfl, Nat.le_refl _, fun _ => ⟨g, 0, rfl, h.lt, fun k hk => ?_⟩⟩
 have hk' : k < 3 := hk
 rcases (show k = 0 ∨ k = 1 ∨ k = 2 by omega) with rfl | rfl | rfl
 · exact h.c 0 rfl
 · exact h.c 1 rfl
 · exact h.c 2 rfl
def simA : Nat → Rat := simT (0, 0) (1, 0) (1, 1) (1, 3)
theorem simA_eq : simA 0 = 0 ∧ simA 1 = 2 ∧ simA 2 = 1 ∧ simA 3 = 1 := by decide +kernel
theorem ofS_A : ofS (0, 0) (1, 0) (1, 1) (1, 3) = (0, some simA) := by
 unfold ofS
 rw [if_pos (by decide), if_neg (by decide)]
 rfl
def ruleA (i : Nat) : Option Rat := match i with | 0 => some 0 | 1 => some (1 / 10) | _ => some 1
theorem chance_A : chanceQ 1 400 10 = 1 / 10 := by decide +kernel
theorem odds_A : oddsQ (withQ (1 / 10) (1 / 10)) (1 / 10) [3, -1, 9] noOut 3 = ((8281 : Int) : Rat) / ((1000 : Int) : Rat) := by decide +kernel
theorem tenth : ((1 : Int) : Rat) / ((10 : Int) : Rat) = 1 / 10 := by decide +kernel
theorem odds_alive {ua1 ua5 ub1 ub5 uc1 uc5 : Bool} {ua2 ua6 ub2 ub6 uc2 uc6 : Option Addr} {ua3 ua4 ua7 ua8 ub3 ub4 ub7 ub8 uc3 uc4 uc7 uc8 : Nat} {g : Nat} {t : TypeId} (w : World) (h0 : FR w (.agg #[.bool ua1, .slice ua2 ua3 ua4, .bool ua5, .slice ua6 ua7 ua8]) 0) (h1 : FR w (.agg #[.bool ub1, .slice ub2 ub3 ub4, .bool ub5, .slice ub6 ub7 ub8]) (((1 : Int) : Rat) / ((10 : Int) : Rat))) (h2 : FR w (.agg #[.bool uc1, .slice uc2 uc3 uc4, .bool uc5, .slice uc6 uc7 uc8]) 1) (hb : Blk w g t #[.int .i64 3, .int .i64 (-1), .int .i64 9]) :
  Calls Tryz.prog 19 #[.agg #[.bool ua1, .slice ua2 ua3 ua4, .bool ua5, .slice ua6 ua7 ua8, .int .i64 1, .int .i64 400, .bool ub1, .slice ub2 ub3 ub4, .bool ub5, .slice ub6 ub7 ub8, .bool uc1, .slice uc2 uc3 uc4, .bool uc5, .slice uc6 uc7 uc8], .slice (some ⟨g, 0, none⟩) 3 3, .int .i64 10] w fun e w' => ∃ v, e = .returned (.tuple #[v, .int .i64 0]) ∧ FR w' v (((8281 : Int) : Rat) / ((1000 : Int) : Rat)) ∧ Steps w w' := by
 rw [tenth] at h1
 have a1 : ua1 = false := by
  obtain ⟨x2, x3, x4, x6, x7, x8, e, -, -, -⟩ := h0.nums
  simp only [Value.agg.injEq, Array.mk.injEq, List.cons.injEq, and_true, Value.slice.injEq, Value.bool.injEq] at e
  rw [e.1]; decide
 subst a1
 have fw : FewL ruleA (f4v ua3 ub3 uc3 uc3) (f4v ua7 ub7 uc7 uc7) 3 := fun i hi => by
  rcases (show i = 0 ∨ i = 1 ∨ i = 2 by omega) with rfl | rfl | rfl
  · exact h0.few
  · exact h1.few
  · exact h2.few
 have rk : ruleOk ruleA (f4v ua3 ub3 uc3 uc3) (f4v ua7 ub7 uc7 uc7) 1 400 false = true := by
  rw [ruleOk_iff]
  refine ⟨?_, by decide, rfl, by decide +kernel, by decide +kernel, by decide +kernel⟩
  rw [limL3, show limF 2 (ruleA 0) (f4v ua3 ub3 uc3 uc3 0) (f4v ua7 ub7 uc7 uc7 0) = true from h0.limF 2 (by decide +kernel) (by decide +kernel), show limF 2 (ruleA 1) (f4v ua3 ub3 uc3 uc3 1) (f4v ua7 ub7 uc7 uc7 1) = true from h1.limF 2 (by decide +kernel) (by decide +kernel), show limF 2 (ruleA 2) (f4v ua3 ub3 uc3 uc3 2) (f4v ua7 ub7 uc7 uc7 2) = true from h2.limF 2 (by decide +kernel) (by decide +kernel)]
  rfl
 have := mOdds (R := 1) (A := 400) (n := 10) (O := ruleA) w h0 h1 h2 fw (ints3 hb)
 rw [rk, show okK [3, -1, 9] 10 [(3 : Int), -1, 9].length = true by decide, chance_A, decide_eq_true (show (1 / 10 : Rat) < 1 by decide +kernel)] at this
 rw [show oddsE true [(3 : Int), -1, 9].length true 10 true = 0 by decide, show (ruleA 1).getD 0 = 1 / 10 from rfl] at this
 refine this.mono ?_
 rintro e w2 ⟨v, rfl, hv, hs⟩
 refine ⟨v, rfl, ?_, hs⟩
 rw [← odds_A]
 exact hv
theorem lalive21 (w : World) : Calls Tryz.prog 17 #[] w fun e w' => e = .returned (.bool true) ∧ Steps w w' := by
 have PO : ∀ w', Calls Tryz.prog 11 #[.agg #[.int .i64 0, .int .i64 0], .agg #[.int .i64 1, .int .i64 0], .agg #[.int .i64 1, .int .i64 1], .agg #[.int .i64 1, .int .i64 3]] w' fun e w2 => ∃ v, e = .returned (.tuple #[v, .int .i64 0]) ∧ SimO w2 v (some simA) ∧ Steps w' w2 := fun w' => by
  have := mOf 0 0 1 0 1 1 1 3 w' (by decide) (by decide) (by decide) (by decide)
  rw [ofS_A] at this
  exact this
 have L1 : ∀ (x : Int) (r : Rat), -9223372036854775808 ≤ x → x ≤ 9223372036854775807 → (x : Rat) = r → ∀ w', Calls Tryz.prog 29 #[.int .i64 x, .int .i64 1] w' fun e w2 => ∃ v, e = .returned v ∧ FR w2 v r ∧ Steps w' w2 := fun x r h0 h1 e w' => by have := lof21 x 1 w' h0 h1 (by decide) (by decide) (by decide); rw [one_divQ, e] at this; exact this
 have Z0 := L1 0 (simA 0) (by decide) (by decide) (by rw [simA_eq.1]; rfl)
 have Z1 := L1 2 (simA 1) (by decide) (by decide) (by rw [simA_eq.2.1]; rfl)
 have Z2 := L1 1 (simA 2) (by decide) (by decide) (by rw [simA_eq.2.2.1]; rfl)
 have Z3 := L1 1 (simA 3) (by decide) (by decide) (by rw [simA_eq.2.2.2]; rfl)
 have Z5 := L1 1 1 (by decide) (by decide) rfl
 have Z4 := fun w' => lof21 8281 1000 w' (by decide) (by decide) (by decide) (by decide) (by decide)
 have OQ := @odds_alive
 generalize ((8281 : Int) : Rat) / ((1000 : Int) : Rat) = q at *
 clear L1
 have RU := @lrule
 generalize ((1 : Int) : Rat) / ((10 : Int) : Rat) = tn at *
 generalize simA = T at *
 go_enter Tryz.func17, Tryz.ntmps17
 go_wp2_with fail
 refine (PO _).mono ?_
 rintro e w1 ⟨vsa, rfl, hvsa, hb1⟩
 have st : Steps _ w1 := hb1
 have B : Below w.heap.size w w1 := belowA st
 clear st
 obtain ⟨saka1, saka2, saka3, saka4, saka5, saka6, saka7, saka8, sakb1, sakb2, sakb3, sakb4, sakb5, sakb6, sakb7, sakb8, sakc1, sakc2, sakc3, sakc4, sakc5, sakc6, sakc7, sakc8, sakd1, sakd2, sakd3, sakd4, sakd5, sakd6, sakd7, sakd8, rfl⟩ := SimO.shape hvsa
 have Fsa := Hid.mk_ hvsa
 clear hvsa
 have zz1 := B.size
 go_wp2_with fail
 refine (Z5 _).mono ?_
 rintro e w2 ⟨vo_, rfl, hvo_, hb2⟩
 have st : Steps _ w2 := hb2
 have sk : Below w1.heap.size w1 w2 := belowA st
 replace B := below_steps B (Nat.le_refl _) sk
 have ovs : Blk w2 (w1.heap.size) 30 #[.bool saka1, .slice saka2 saka3 saka4, .bool saka5, .slice saka6 saka7 saka8, .bool sakb1, .slice sakb2 sakb3 sakb4, .bool sakb5, .slice sakb6 sakb7 sakb8, .bool sakc1, .slice sakc2 sakc3 sakc4, .bool sakc5, .slice sakc6 sakc7 sakc8, .bool sakd1, .slice sakd2 sakd3 sakd4, .bool sakd5, .slice sakd6 sakd7 sakd8] := Blk.stepsK st
 replace Fsa := Hid.mk_ (Fsa.out.steps sk)
 clear st sk
 obtain ⟨o_1, o_2, o_3, o_4, o_5, o_6, o_7, o_8, rfl⟩ := hvo_.shape
 have Fo_ := Hid.mk_ hvo_
 clear hvo_
 go_wp2_with fail
 refine (RU _).mono ?_
 rintro e w3 ⟨ra1, ra2, ra3, ra4, ra5, ra6, ra7, ra8, rb1, rb2, rb3, rb4, rb5, rb6, rb7, rb8, rfl, hvra, hvrb, hb3⟩
 have st : Steps _ w3 := hb3
 have sk : Below w2.heap.size w2 w3 := belowA st
 replace B := below_steps B (Nat.le_refl _) sk
 replace ovs := ovs.steps sk
 replace Fsa := Hid.mk_ (Fsa.out.steps sk)
 replace Fo_ := Hid.mk_ (Fo_.out.steps sk)
 clear st sk
 have Fra := Hid.mk_ hvra
 clear hvra
 have Frb := Hid.mk_ hvrb
 clear hvrb
 have zvs_3 : w1.heap.size < w3.heap.size := ovs.lt
 have zz3 := B.size
 go_wp2_with fail
 refine (OQ _ (Fra.out.keeps keepsB) (Frb.out.keeps keepsB) (Fo_.out.keeps keepsB) ownK).mono ?_
 rintro e w4 ⟨vx_, rfl, hvx_, hb4⟩
 have st : Steps _ w4 := hb4
 have sk : Below w3.heap.size w3 w4 := belowA st
 replace B := below_steps B (Nat.le_refl _) sk
 replace ovs := ovs.steps sk
 replace Fsa := Hid.mk_ (Fsa.out.steps sk)
 replace Fo_ := Hid.mk_ (Fo_.out.steps sk)
 replace Fra := Hid.mk_ (Fra.out.steps sk)
 replace Frb := Hid.mk_ (Frb.out.steps sk)
 clear st sk
 obtain ⟨cvs0, cvs1, cvs2, cvs3, cvs4, cvs5, cvs6, cvs7, cvs8, cvs9, cvs10, cvs11, cvs12, cvs13, cvs14, cvs15⟩ := ovs.r15
 have lvs := ovs.lt
 obtain ⟨x_1, x_2, x_3, x_4, x_5, x_6, x_7, x_8, rfl⟩ := hvx_.shape
 have Fx_ := Hid.mk_ hvx_
 clear hvx_
 have zvs_4 : w1.heap.size < w4.heap.size := ovs.lt
 have zz4 := B.size
 go_wp2_with fail
 go_upto_region 3 with fail
 refine Reg.wp_chain_n (fun N0 D v W => Below w.heap.size w W ∧ Keeps w4 W ∧ N0 ≤ W.heap.size ∧ Blk W (w1.heap.size) 30 #[.bool saka1, .slice saka2 saka3 saka4, .bool saka5, .slice saka6 saka7 saka8, .bool sakb1, .slice sakb2 sakb3 sakb4, .bool sakb5, .slice sakb6 sakb7 sakb8, .bool sakc1, .slice sakc2 sakc3 sakc4, .bool sakc5, .slice sakc6 sakc7 sakc8, .bool sakd1, .slice sakd2 sakd3 sakd4, .bool sakd5, .slice sakd6 sakd7 sakd8] ∧ Blk W (w4.heap.size) 28 #[.bool x_1, .slice x_2 x_3 x_4, .bool x_5, .slice x_6 x_7 x_8])
  (Reg.inl [4, 5, 6, 7, 9, 17, 18]) (Reg.gv [(4, IsFr), (5, IsFr), (6, IsFr), (7, IsFr), (9, fun z_ => z_ = .bool true), (17, IsFr), (18, fun z_ => z_ = .bool true)]) (gw [(4, GFr ((T 0))), (5, GFr ((T 1))), (6, GFr ((T 2))), (7, GFr ((T 3))), (17, GFr (q))]) (fun _ => Keeps) (fun _ _ => False) (Reg.pl [(9, [(4, some 24), (5, some 25), (6, some 26), (7, some 27)]), (18, [(17, some 37)]), (21, [(4, some 24), (5, some 25), (6, some 26), (7, some 27), (9, some 29), (17, some 37), (18, some 38)])]) (Reg.pl [])
  (by kernel_rfl) (by kernel_rfl) (by kernel_rfl) (Reg.gvA _) (fun N0 hN0 => ⟨fun v => ?_, fun D v v' W hv hj => ?_, fun D v k j W W' x _ _ _ _ hk hg => gwA hk hg, fun _ _ _ _ h => h.elim, fun ops' Q' hops hQ => ?_⟩)
 · exact ⟨belowB, keepsB, by first | with_reducible exact Nat.le_of_eq hN0.out | (simp only [World.size_drew]; with_reducible exact Nat.le_of_eq hN0.out), ownK, ownK⟩
 ·
  obtain ⟨j0, jk, jn, b_vs, b_vx⟩ := hj
  exact ⟨j0, jk, jn, b_vs, b_vx⟩
 have eN := hN0.out
 try simp only [World.size_alloc, World.size_setCell, World.size_drew, World.heap_drewN] at eN
 have i_vs : w1.heap.size < N0 := by first | omega | (have h := ovs.lt; omega)
 have i_vx : w4.heap.size < N0 := by first | omega | (have h := ovx.lt; omega)
 have iw : w.heap.size ≤ N0 := by first | omega | (have h := B.size; omega)
 clear cvs0 cvs1 cvs2 cvs3 cvs4 cvs5 cvs6 cvs7 cvs8 cvs9 cvs10 cvs11 cvs12 cvs13 cvs14 cvs15 lvs
 clear hN0
 apply Reg.RP rfl rfl rfl 20 rfl rfl
 ·
  intro D v' W' hc hj hf K hK
  go_step
  exact hK.out
 · rfl
 apply Reg.RP rfl rfl rfl 21 rfl rfl
 ·
  intro D v' W' hc hj hf K hK
  go_step
  exact hK.out
 · rfl
 apply Reg.RP rfl rfl rfl 22 rfl rfl
 ·
  intro D v' W' hc hj hf K hK
  go_step
  exact hK.out
 · rfl
 apply Reg.RP rfl rfl (by rw [hops]; rfl) 23 rfl rfl
 ·
  intro D v' W' hc hj hf K hK
  obtain ⟨j0, jk, jn, b_vs, b_vx⟩ := hj
  have c0 : W'.cell? ⟨w1.heap.size, 0, none⟩ = some (.bool saka1) := b_vs.c 0 rfl
  have c1 : W'.cell? ⟨w1.heap.size, 1, none⟩ = some (.slice saka2 saka3 saka4) := b_vs.c 1 rfl
  have c2 : W'.cell? ⟨w1.heap.size, 2, none⟩ = some (.bool saka5) := b_vs.c 2 rfl
  have c3 : W'.cell? ⟨w1.heap.size, 3, none⟩ = some (.slice saka6 saka7 saka8) := b_vs.c 3 rfl
  have c4 : W'.cell? ⟨w1.heap.size, 4, none⟩ = some (.bool sakb1) := b_vs.c 4 rfl
  have c5 : W'.cell? ⟨w1.heap.size, 5, none⟩ = some (.slice sakb2 sakb3 sakb4) := b_vs.c 5 rfl
  have c6 : W'.cell? ⟨w1.heap.size, 6, none⟩ = some (.bool sakb5) := b_vs.c 6 rfl
  have c7 : W'.cell? ⟨w1.heap.size, 7, none⟩ = some (.slice sakb6 sakb7 sakb8) := b_vs.c 7 rfl
  have c8 : W'.cell? ⟨w1.heap.size, 8, none⟩ = some (.bool sakc1) := b_vs.c 8 rfl
  have c9 : W'.cell? ⟨w1.heap.size, 9, none⟩ = some (.slice sakc2 sakc3 sakc4) := b_vs.c 9 rfl
  have c10 : W'.cell? ⟨w1.heap.size, 10, none⟩ = some (.bool sakc5) := b_vs.c 10 rfl
  have c11 : W'.cell? ⟨w1.heap.size, 11, none⟩ = some (.slice sakc6 sakc7 sakc8) := b_vs.c 11 rfl
  have c12 : W'.cell? ⟨w1.heap.size, 12, none⟩ = some (.bool sakd1) := b_vs.c 12 rfl
  have c13 : W'.cell? ⟨w1.heap.size, 13, none⟩ = some (.slice sakd2 sakd3 sakd4) := b_vs.c 13 rfl
  have c14 : W'.cell? ⟨w1.heap.size, 14, none⟩ = some (.bool sakd5) := b_vs.c 14 rfl
  have c15 : W'.cell? ⟨w1.heap.size, 15, none⟩ = some (.slice sakd6 sakd7 sakd8) := b_vs.c 15 rfl
  go_step
  exact hK.out
 · rfl
 refine Reg.RC_call rfl (tlt rfl) (by rw [hops]; rfl) (fun D v' W' hc hj hf K hK => ?_) ?_
 ·
  obtain ⟨j0, jk, jn, b_vs, b_vx⟩ := hj
  clear hf
  go_step
  refine (Z0 W').mono ?_
  rintro e W2 ⟨u, rfl, hu, hs⟩
  obtain ⟨za_1, za_2, za_3, za_4, za_5, za_6, za_7, za_8, rfl⟩ := hu.shape
  exact hK.out _ W2 (Keeps.steps hs) ⟨jst j0 hs, jk.then_ hs, jsz jn hs, b_vs.steps hs, b_vx.steps hs⟩ hu ⟨_, _, _, _, _, _, _, _, rfl⟩
 rintro _ ⟨za_1, za_2, za_3, za_4, za_5, za_6, za_7, za_8, rfl⟩
 refine Reg.RC_at (b := ⟨#[_,_,_,_,_,_,_,_,_,_,_,_,_,_,_,_,_,_,_,_,_,_,_,_,_,_,_,_,_,_,_,_,_,_,_,_,_,_,_,_], _⟩) rfl ?_
 refine Reg.RC_call rfl (tlt rfl) (by rw [hops]; rfl) (fun D v' W' hc hj hf K hK => ?_) ?_
 ·
  obtain ⟨j0, jk, jn, b_vs, b_vx⟩ := hj
  clear hf
  go_step
  refine (Z1 W').mono ?_
  rintro e W2 ⟨u, rfl, hu, hs⟩
  obtain ⟨zb_1, zb_2, zb_3, zb_4, zb_5, zb_6, zb_7, zb_8, rfl⟩ := hu.shape
  exact hK.out _ W2 (Keeps.steps hs) ⟨jst j0 hs, jk.then_ hs, jsz jn hs, b_vs.steps hs, b_vx.steps hs⟩ hu ⟨_, _, _, _, _, _, _, _, rfl⟩
 rintro _ ⟨zb_1, zb_2, zb_3, zb_4, zb_5, zb_6, zb_7, zb_8, rfl⟩
 refine Reg.RC_at (b := ⟨#[_,_,_,_,_,_,_,_,_,_,_,_,_,_,_,_,_,_,_,_,_,_,_,_,_,_,_,_,_,_,_,_,_,_,_,_,_,_,_,_], _⟩) rfl ?_
 refine Reg.RC_call rfl (tlt rfl) (by rw [hops]; rfl) (fun D v' W' hc hj hf K hK => ?_) ?_
 ·
  obtain ⟨j0, jk, jn, b_vs, b_vx⟩ := hj
  clear hf
  go_step
  refine (Z2 W').mono ?_
  rintro e W2 ⟨u, rfl, hu, hs⟩
  obtain ⟨zc_1, zc_2, zc_3, zc_4, zc_5, zc_6, zc_7, zc_8, rfl⟩ := hu.shape
  exact hK.out _ W2 (Keeps.steps hs) ⟨jst j0 hs, jk.then_ hs, jsz jn hs, b_vs.steps hs, b_vx.steps hs⟩ hu ⟨_, _, _, _, _, _, _, _, rfl⟩
 rintro _ ⟨zc_1, zc_2, zc_3, zc_4, zc_5, zc_6, zc_7, zc_8, rfl⟩
 refine Reg.RC_at (b := ⟨#[_,_,_,_,_,_,_,_,_,_,_,_,_,_,_,_,_,_,_,_,_,_,_,_,_,_,_,_,_,_,_,_,_,_,_,_,_,_,_,_], _⟩) rfl ?_
 refine Reg.RC_call rfl (tlt rfl) (by rw [hops]; rfl) (fun D v' W' hc hj hf K hK => ?_) ?_
 ·
  obtain ⟨j0, jk, jn, b_vs, b_vx⟩ := hj
  clear hf
  go_step
  refine (Z3 W').mono ?_
  rintro e W2 ⟨u, rfl, hu, hs⟩
  obtain ⟨zd_1, zd_2, zd_3, zd_4, zd_5, zd_6, zd_7, zd_8, rfl⟩ := hu.shape
  exact hK.out _ W2 (Keeps.steps hs) ⟨jst j0 hs, jk.then_ hs, jsz jn hs, b_vs.steps hs, b_vx.steps hs⟩ hu ⟨_, _, _, _, _, _, _, _, rfl⟩
 rintro _ ⟨zd_1, zd_2, zd_3, zd_4, zd_5, zd_6, zd_7, zd_8, rfl⟩
 refine Reg.RC_at (b := ⟨#[_,_,_,_,_,_,_,_,_,_,_,_,_,_,_,_,_,_,_,_,_,_,_,_,_,_,_,_,_,_,_,_,_,_,_,_,_,_,_,_], _⟩) rfl ?_
 apply Reg.RP rfl rfl (by rw [hops]; rfl) 28 rfl rfl
 ·
  intro D v' W' hc hj hf K hK
  go_step
  exact hK.out
 · rfl
 refine Reg.RC_call rfl (tlt rfl) (by rw [hops]; rfl) (fun D v' W' hc hj hf K hK => ?_) ?_
 ·
  obtain ⟨j0, jk, jn, b_vs, b_vx⟩ := hj
  have g4 : GFr ((T 0)) _ W' := (hf (4, some 24) (.head _) rfl).2.2
  have g4 : FR W' _ ((T 0)) := g4
  have g5 : GFr ((T 1)) _ W' := (hf (5, some 25) (.tail _ (.head _)) rfl).2.2
  have g5 : FR W' _ ((T 1)) := g5
  have g6 : GFr ((T 2)) _ W' := (hf (6, some 26) (.tail _ (.tail _ (.head _))) rfl).2.2
  have g6 : FR W' _ ((T 2)) := g6
  have g7 : GFr ((T 3)) _ W' := (hf (7, some 27) (.tail _ (.tail _ (.tail _ (.head _)))) rfl).2.2
  have g7 : FR W' _ ((T 3)) := g7
  clear hf
  go_step
  refine (rsameSim W' (Fsa.out.keeps jk) (mkS g4 g5 g6 g7)).mono ?_
  rintro e W2 ⟨rfl, hs⟩
  exact hK.out _ W2 (Keeps.steps hs) ⟨jst j0 hs, jk.then_ hs, jsz jn hs, b_vs.steps hs, b_vx.steps hs⟩ trivial rfl
 rintro _ rfl
 refine Reg.RC_at (b := ⟨#[_,_,_,_,_,_,_,_,_,_,_,_,_,_,_,_,_,_,_,_,_,_,_,_,_,_,_,_,_,_,_,_,_,_,_,_,_,_,_,_], _⟩) rfl ?_
 apply Reg.RP rfl rfl rfl 30 rfl rfl
 ·
  intro D v' W' hc hj hf K hK
  go_step
  exact hK.out
 · rfl
 apply Reg.RP rfl rfl rfl 31 rfl rfl
 ·
  intro D v' W' hc hj hf K hK
  go_step
  exact hK.out
 · rfl
 apply Reg.RP rfl rfl (by rw [hops]; rfl) 32 rfl rfl
 ·
  intro D v' W' hc hj hf K hK
  go_step
  exact hK.out
 · rfl
 apply Reg.RP rfl rfl (by rw [hops]; rfl) 33 rfl rfl
 ·
  intro D v' W' hc hj hf K hK
  go_step
  exact hK.out
 · rfl
 apply Reg.RP rfl rfl rfl 34 rfl rfl
 ·
  intro D v' W' hc hj hf K hK
  go_step
  exact hK.out
 · rfl
 apply Reg.RP rfl rfl rfl 35 rfl rfl
 ·
  intro D v' W' hc hj hf K hK
  go_step
  exact hK.out
 · rfl
 apply Reg.RP rfl rfl (by rw [hops]; rfl) 36 rfl rfl
 ·
  intro D v' W' hc hj hf K hK
  obtain ⟨j0, jk, jn, b_vs, b_vx⟩ := hj
  have c0 : W'.cell? ⟨w4.heap.size, 0, none⟩ = some (.bool x_1) := b_vx.c 0 rfl
  have c1 : W'.cell? ⟨w4.heap.size, 1, none⟩ = some (.slice x_2 x_3 x_4) := b_vx.c 1 rfl
  have c2 : W'.cell? ⟨w4.heap.size, 2, none⟩ = some (.bool x_5) := b_vx.c 2 rfl
  have c3 : W'.cell? ⟨w4.heap.size, 3, none⟩ = some (.slice x_6 x_7 x_8) := b_vx.c 3 rfl
  go_step
  exact hK.out
 · rfl
 refine Reg.RC_call rfl (tlt rfl) (by rw [hops]; rfl) (fun D v' W' hc hj hf K hK => ?_) ?_
 ·
  obtain ⟨j0, jk, jn, b_vs, b_vx⟩ := hj
  clear hf
  go_step
  refine (Z4 W').mono ?_
  rintro e W2 ⟨u, rfl, hu, hs⟩
  obtain ⟨ze_1, ze_2, ze_3, ze_4, ze_5, ze_6, ze_7, ze_8, rfl⟩ := hu.shape
  exact hK.out _ W2 (Keeps.steps hs) ⟨jst j0 hs, jk.then_ hs, jsz jn hs, b_vs.steps hs, b_vx.steps hs⟩ hu ⟨_, _, _, _, _, _, _, _, rfl⟩
 rintro _ ⟨ze_1, ze_2, ze_3, ze_4, ze_5, ze_6, ze_7, ze_8, rfl⟩
 refine Reg.RC_at (b := ⟨#[_,_,_,_,_,_,_,_,_,_,_,_,_,_,_,_,_,_,_,_,_,_,_,_,_,_,_,_,_,_,_,_,_,_,_,_,_,_,_,_], _⟩) rfl ?_
 refine Reg.RC_call rfl (tlt rfl) (by rw [hops]; rfl) (fun D v' W' hc hj hf K hK => ?_) ?_
 ·
  obtain ⟨j0, jk, jn, b_vs, b_vx⟩ := hj
  have g17 : GFr (q) _ W' := (hf (17, some 37) (.head _) rfl).2.2
  have g17 : FR W' _ (q) := g17
  clear hf
  go_step
  refine (rsameFO (o := some q) W' (Fx_.out.keeps jk) g17).mono ?_
  rintro e W2 ⟨rfl, hs⟩
  exact hK.out _ W2 (Keeps.steps hs) ⟨jst j0 hs, jk.then_ hs, jsz jn hs, b_vs.steps hs, b_vx.steps hs⟩ trivial rfl
 rintro _ rfl
 refine Reg.RC_at (b := ⟨#[_,_,_,_,_,_,_,_,_,_,_,_,_,_,_,_,_,_,_,_,_,_,_,_,_,_,_,_,_,_,_,_,_,_,_,_,_,_,_,_], _⟩) rfl ?_
 apply Reg.RP rfl rfl rfl 39 rfl rfl
 ·
  intro D v' W' hc hj hf K hK
  go_step
  exact hK.out
 · rfl
 apply Reg.RP rfl rfl rfl 0 rfl rfl
 ·
  intro D v' W' hc hj hf K hK
  go_step
  exact hK.out
 · rfl
 refine Reg.RC_end (fun Dn v' w5 hd hj hf => ?_)
 obtain ⟨j0, jk, jn, b_vs, b_vx⟩ := hj
 have B := j0
 have ovs := b_vs
 clear b_vs
 have ovx := b_vx
 clear b_vx
 have Fza_ : Hid (FR w5 (.agg #[.bool za_1, .slice za_2 za_3 za_4, .bool za_5, .slice za_6 za_7 za_8]) ((T 0))) := (hf (4, some 24) (.head _) rfl).2.2
 have Fzb_ : Hid (FR w5 (.agg #[.bool zb_1, .slice zb_2 zb_3 zb_4, .bool zb_5, .slice zb_6 zb_7 zb_8]) ((T 1))) := (hf (5, some 25) (.tail _ (.head _)) rfl).2.2
 have Fzc_ : Hid (FR w5 (.agg #[.bool zc_1, .slice zc_2 zc_3 zc_4, .bool zc_5, .slice zc_6 zc_7 zc_8]) ((T 2))) := (hf (6, some 26) (.tail _ (.tail _ (.head _))) rfl).2.2
 have Fzd_ : Hid (FR w5 (.agg #[.bool zd_1, .slice zd_2 zd_3 zd_4, .bool zd_5, .slice zd_6 zd_7 zd_8]) ((T 3))) := (hf (7, some 27) (.tail _ (.tail _ (.tail _ (.head _)))) rfl).2.2
 have Fze_ : Hid (FR w5 (.agg #[.bool ze_1, .slice ze_2 ze_3 ze_4, .bool ze_5, .slice ze_6 ze_7 ze_8]) (q)) := (hf (17, some 37) (.tail _ (.tail _ (.tail _ (.tail _ (.tail _ (.head _)))))) rfl).2.2
 replace Fsa := Hid.mk_ (Fsa.out.keeps jk)
 replace Fo_ := Hid.mk_ (Fo_.out.keeps jk)
 replace Fra := Hid.mk_ (Fra.out.keeps jk)
 replace Frb := Hid.mk_ (Frb.out.keeps jk)
 replace Fx_ := Hid.mk_ (Fx_.out.keeps jk)
 clear hd hf jk j0
 refine hQ _ _ ?_
 clear hQ hops Q' ops'
 go_wp2_with fail
 refine bodyPost_ret (by simp [results, Tryz.results17, go_sem, ]; rfl) rfl ?_
 exact ⟨rfl, belowB⟩
theorem cur_get {cur : Array Value} {l : List Int} {n : Nat} (hn : l.length = n) (ht : cur.toList.take n = ints l) {k : Nat} (hk : k < n) : cur[k]? = some (.int .i64 (l.getD k 0)) := by
 subst hn
 have h1 : (cur.toList.take l.length)[k]? = (ints l)[k]? := by rw [ht]
 rw [List.getElem?_take, if_pos hk] at h1
 rw [← Array.getElem?_toList, h1]
 unfold ints
 rw [List.getElem?_map, List.getD_eq_getElem?_getD, List.getElem?_eq_getElem hk]
 rfl
theorem ints_of_cur {w : World} {b cap n : Nat} {t : TypeId} {cur : Array Value} {l : List Int} (hb : Blk w b t cur) (hn : l.length = n) (hc : n ≤ cap) (ht : cur.toList.take n = ints l) : IntsR w (.slice (some ⟨b, 0, none⟩) n cap) l := by
 subst hn
 refine ⟨_, cap, rfl, hc, fun _ => ⟨b, 0, rfl, hb.lt, fun k hk => ?_⟩⟩
 rw [Nat.zero_add, hb.cell k, cur_get rfl ht hk]
theorem chk_okP {l : PL} (h : chkP l = 0) (k : Nat) (hk : k < l.length) : okP (pt l k) := by
 have := chk_pts h k hk
 exact this
theorem chk_short {l : PL} (h : chkP l = 0) : l.length ≤ 200 := by
 unfold chkP at h
 rcases Nat.lt_or_ge 200 l.length with g | g
 · rw [if_pos g] at h; cases h
 · exact g
theorem sz_apX {t : Nat → Rat} {p : Int × Int} (ht : ∀ i, i < 4 → sz (t i) 16) (h : okP p) : sz (apX t p) 60 ∧ sz (apY t p) 60 := by
 have hx : sz (p.1 : Rat) 2 := sz_coord ⟨h.1, h.2.1⟩
 have hy : sz (p.2 : Rat) 2 := sz_coord ⟨h.2.2.1, h.2.2.2⟩
 refine ⟨?_, ?_⟩
 ·
  unfold apX
  exact (((((ht 0 (by omega)).mul hx).sub ((ht 1 (by omega)).mul hy)).add (ht 2 (by omega))).mono (by omega))
 ·
  unfold apY
  exact (((((ht 1 (by omega)).mul hx).add ((ht 0 (by omega)).mul hy)).add (ht 3 (by omega))).mono (by omega))
theorem prtP_sz {x y rad : Rat} {m : PL} {k : Nat} (hx : sz x k) (hy : sz y k) (hr : sz rad 2) (hm : chkP m = 0) : ∀ n, n ≤ m.length → sz (prtP x y rad m n).2 (k + 3)
 | 0, _ => hr.mono (by omega)
 | n + 1, h => by
  unfold prtP
  split
  · exact sz_apart hx hy (chk_okP hm n (by omega))
  · exact prtP_sz hx hy hr hm n (by omega)
theorem prtP_step {x y rad : Rat} {m : PL} {n : Nat} {c : Int} (hc : cmpQ (apartQ x y (pt m n)) (prtP x y rad m n).2 = c) :
  (c < 0 → prtP x y rad m (n + 1) = ((n : Int), apartQ x y (pt m n))) ∧ (c = 0 → (prtP x y rad m n).1 < 0 → prtP x y rad m (n + 1) = ((n : Int), apartQ x y (pt m n))) ∧ (¬ c < 0 → ¬ (c = 0 ∧ (prtP x y rad m n).1 < 0) → prtP x y rad m (n + 1) = prtP x y rad m n) := by
 subst hc
 refine ⟨fun h => if_pos (.inl (cmpQ_lt.1 h)), fun h g => if_pos (.inr ⟨cmpQ_eq.1 h, g⟩), fun h g => if_neg ?_⟩
 rintro (e | ⟨e, e2⟩)
 · exact h (cmpQ_lt.2 e)
 · exact g ⟨cmpQ_eq.2 e, e2⟩
theorem cur_next {cur : Array Value} {xs : List Int} {i : Nat} (hs : i < cur.size) (hl : xs.length = i) (ht : cur.toList.take i = ints xs) (x : Int) : (cur.setIfInBounds i (.int .i64 x)).toList.take (i + 1) = ints (xs ++ [x]) := by
 rw [Array.toList_setIfInBounds, List.take_set, List.take_succ_eq_append_getElem (by simpa using hs), ht, ints_snoc, List.set_append]
 have e : (ints xs).length = i := by unfold ints; rw [List.length_map, hl]
 rw [if_neg (by omega), e, Nat.sub_self]
 rfl
theorem infoI64 : (Tryz.prog.info? 3).map (fun i => (i.zero, i.size, i.bytes)) = some (some (.int .i64 0), 1, 8) := by kernel_rfl
theorem make_ints (n : Nat) (h : n ≤ 1000000000) (w : World) : (Instr.makeSlice 46 (.int .i64 (n : Int)) (.int .i64 (n : Int))).run Tryz.prog w = .ok (.slice (some ⟨w.heap.size, 0, none⟩) n n) (w.alloc (.cells (madeCells #[.int .i64 0] n) 3)) :=
 run_make_row' (P := Tryz.prog) 46 3 (.int .i64 0) 8 Tryz.underlying46 infoI64 rfl .i64 .i64 n (by omega) (by omega) w
theorem noU_set {cs : Array Value} (h : noU32 cs = true) (i : Nat) (x : Int) : noU32 (cs.setIfInBounds i (.int .i64 x)) = true := by
 unfold noU32 at h ⊢
 rw [Array.toList_setIfInBounds]
 rw [List.all_eq_true] at h ⊢
 intro v hv
 rcases List.mem_or_eq_of_mem_set hv with g | g
 · exact h v g
 · rw [g]
theorem noU_made (n : Nat) : noU32 (madeCells #[.int .i64 0] n) = true := by
 unfold noU32
 rw [List.all_eq_true]
 intro v hv
 unfold madeCells at hv
 rw [Array.toList_map, List.mem_map] at hv
 obtain ⟨a, -, rfl⟩ := hv
 rw [show (#[Value.int .i64 0] : Array Value).size = 1 from rfl, Nat.mod_one]
 rfl
theorem wp_seal {P : Program} {ops : Array Oper} {Q : Exit → Act → World → Prop} {rest : List Oper} {a : Act} {W : World} (J : World → Prop) (hJ : J W) (h : ∀ wx, J wx → wpList P ops Q rest a wx) : wpList P ops Q rest a W := h W hJ
theorem mpairs {ka1 ka5 kb1 kb5 kc1 kc5 kd1 kd5 : Bool} {ka2 ka6 kb2 kb6 kc2 kc6 kd2 kd6 : Option Addr} {ka3 ka4 ka7 ka8 kb3 kb4 kb7 kb8 kc3 kc4 kc7 kc8 kd3 kd4 kd7 kd8 : Nat} {gc : Nat} {tc : TypeId} {t : Nat → Rat} {vl vm : Value} {l m : PL} (rad : Int) (w : World) (hc : Blk w gc tc #[.int .i64 0]) (h0 : FR w (.agg #[.bool ka1, .slice ka2 ka3 ka4, .bool ka5, .slice ka6 ka7 ka8]) (t 0)) (h1 : FR w (.agg #[.bool kb1, .slice kb2 kb3 kb4, .bool kb5, .slice kb6 kb7 kb8]) (t 1)) (h2 : FR w (.agg #[.bool kc1, .slice kc2 kc3 kc4, .bool kc5, .slice kc6 kc7 kc8]) (t 2)) (h3 : FR w (.agg #[.bool kd1, .slice kd2 kd3 kd4, .bool kd5, .slice kd6 kd7 kd8]) (t 3)) (ht : ∀ i, i < 4 → sz (t i) 16) (hl : Pts w vl l) (hm : Pts w vm m) (cl : chkP l = 0) (cm : chkP m = 0) (r0 : 1 ≤ rad) (r1 : rad ≤ 65536) :
  Calls Tryz.prog 61 #[.pointer (some ⟨gc, 0, none⟩), .agg #[.bool ka1, .slice ka2 ka3 ka4, .bool ka5, .slice ka6 ka7 ka8, .bool kb1, .slice kb2 kb3 kb4, .bool kb5, .slice kb6 kb7 kb8, .bool kc1, .slice kc2 kc3 kc4, .bool kc5, .slice kc6 kc7 kc8, .bool kd1, .slice kd2 kd3 kd4, .bool kd5, .slice kd6 kd7 kd8], vl, vm, .int .i64 rad] w fun e w' => ∃ u, e = .returned u ∧ IntsR w' u (partners t (rad : Rat) l m l.length) ∧ Steps w w' := by
 have KC : ∀ w', Steps w w' → Blk w' gc tc #[.int .i64 0] := fun w' s => hc.steps s
 have AP : ∀ i, i < l.length → ∀ w', Steps w w' → Calls Tryz.prog 42 #[.pointer (some ⟨gc, 0, none⟩), .agg #[.bool ka1, .slice ka2 ka3 ka4, .bool ka5, .slice ka6 ka7 ka8, .bool kb1, .slice kb2 kb3 kb4, .bool kb5, .slice kb6 kb7 kb8, .bool kc1, .slice kc2 kc3 kc4, .bool kc5, .slice kc6 kc7 kc8, .bool kd1, .slice kd2 kd3 kd4, .bool kd5, .slice kd6 kd7 kd8], .agg #[.int .i64 (pt l i).1, .int .i64 (pt l i).2]] w' fun e w2 => ∃ u v, e = .returned (.tuple #[u, v]) ∧ FR w2 u (apX t (pt l i)) ∧ FR w2 v (apY t (pt l i)) ∧ Steps w' w2 := fun i hi w' s => by
  have ok := chk_okP cl i hi
  have k := Keeps.steps s
  exact mapply (pt l i).1 (pt l i).2 w' (KC w' s) (h0.keeps k) (h1.keeps k) (h2.keeps k) (h3.keeps k) ((ht 0 (by omega)).mono (by omega)) ((ht 1 (by omega)).mono (by omega)) ((ht 2 (by omega)).mono (by omega)) ((ht 3 (by omega)).mono (by omega)) ⟨ok.1, ok.2.1⟩ ⟨ok.2.2.1, ok.2.2.2⟩
 have RA : ∀ w', Steps w w' → Calls Tryz.prog 66 #[.pointer (some ⟨gc, 0, none⟩), .int .i64 rad] w' fun e w2 => ∃ v, e = .returned v ∧ FR w2 v (rad : Rat) ∧ Steps w' w2 := fun w' s => mof rad w' (KC w' s) (by omega) (by omega)
 have SA := fun i (hi : i < l.length) => sz_apX ht (chk_okP cl i hi)
 have zr : sz (rad : Rat) 2 := sz_coord ⟨by omega, by omega⟩
 have DI : ∀ i, i < l.length → ∀ k, k < m.length → ∀ (w' : World) (u v : Value), Steps w w' → FR w' u (apX t (pt l i)) → FR w' v (apY t (pt l i)) → Calls Tryz.prog 101 #[.pointer (some ⟨gc, 0, none⟩), u, v, .agg #[.int .i64 (pt m k).1, .int .i64 (pt m k).2]] w' fun e w2 => ∃ d, e = .returned d ∧ FR w2 d (apartQ (apX t (pt l i)) (apY t (pt l i)) (pt m k)) ∧ Steps w' w2 := fun i hi k hk w' u v s hu hv => mapart (pt m k).1 (pt m k).2 w' (KC w' s) hu hv ((SA i hi).1.mono (by omega)) ((SA i hi).2.mono (by omega)) (chk_okP cm k hk)
 have CM : ∀ i, i < l.length → ∀ k, k < m.length → ∀ (w' : World) (u v : Value), Steps w w' → FR w' u (apartQ (apX t (pt l i)) (apY t (pt l i)) (pt m k)) → FR w' v (prtP (apX t (pt l i)) (apY t (pt l i)) (rad : Rat) m k).2 → Calls Tryz.prog 67 #[.pointer (some ⟨gc, 0, none⟩), u, v] w' fun e w2 => e = .returned (.int .i64 (cmpQ (apartQ (apX t (pt l i)) (apY t (pt l i)) (pt m k)) (prtP (apX t (pt l i)) (apY t (pt l i)) (rad : Rat) m k).2)) ∧ Steps w' w2 := fun i hi k hk w' u v s hu hv => mcompare w' (KC w' s) hu hv (sz_apart (SA i hi).1 (SA i hi).2 (chk_okP cm k hk)) (prtP_sz (SA i hi).1 (SA i hi).2 zr cm k (by omega)) (by omega)
 have SP := fun i k c (h : cmpQ (apartQ (apX t (pt l i)) (apY t (pt l i)) (pt m k)) (prtP (apX t (pt l i)) (apY t (pt l i)) (rad : Rat) m k).2 = c) => prtP_step h
 have P0 : ∀ i, prtP (apX t (pt l i)) (apY t (pt l i)) (rad : Rat) m 0 = (-1, (rad : Rat)) := fun i => rfl
 have PS : ∀ i, partners t (rad : Rat) l m (i + 1) = partners t (rad : Rat) l m i ++ [(prtP (apX t (pt l i)) (apY t (pt l i)) (rad : Rat) m m.length).1] := fun i => rfl
 have PL0 := partners_len t (rad : Rat) l m
 have PZ : partners t (rad : Rat) l m 0 = [] := rfl
 have hlN := chk_short cl
 have hmN := chk_short cm
 obtain ⟨PA, hPA⟩ : ∃ f, partners t (rad : Rat) l m = f := ⟨_, rfl⟩
 obtain ⟨XX, hXX⟩ : ∃ f : Nat → Rat, ∀ i, apX t (pt l i) = f i := ⟨_, fun _ => rfl⟩
 obtain ⟨YY, hYY⟩ : ∃ f : Nat → Rat, ∀ i, apY t (pt l i) = f i := ⟨_, fun _ => rfl⟩
 simp only [hXX, hYY, hPA] at AP DI CM SP P0 PS PL0 PZ ⊢
 obtain ⟨DD, hDD⟩ : ∃ f : Nat → Nat → Rat, ∀ i k, apartQ (XX i) (YY i) (pt m k) = f i k := ⟨_, fun _ _ => rfl⟩
 obtain ⟨PP, hPP⟩ : ∃ f : Nat → Nat → Int × Rat, ∀ i k, prtP (XX i) (YY i) (rad : Rat) m k = f i k := ⟨_, fun _ _ => rfl⟩
 simp only [hDD, hPP] at DI CM SP P0 PS
 obtain ⟨la, lc, rfl⟩ := hl.shape
 obtain ⟨ma, mc, rfl⟩ := hm.shape
 have HPl := Hid.mk_ hl
 have HPm := Hid.mk_ hm
 obtain ⟨N, hN⟩ : ∃ n, l.length = n := ⟨_, rfl⟩
 obtain ⟨M, hM⟩ : ∃ n, m.length = n := ⟨_, rfl⟩
 have HN := Hid.mk_ hN
 have HM := Hid.mk_ hM
 rw [hN] at AP DI CM HPl hlN ⊢
 rw [hM] at DI CM PS HPm hmN ⊢
 have hmk := make_ints N (by omega)
 clear hc h0 h1 h2 h3 ht hl hm cl cm r0 r1 SA zr hPA hXX hYY hDD hPP hN hM
 go_enter Tryz.func61, Tryz.ntmps61
 have kk := Keeps.refl w
 go_wp2_with fail
 go_loopw [29] (fun sl0 wr => ∃ (i : Nat) (CO : Array Value), i ≤ N ∧ sl0 = .int .i64 i ∧ CO.size = N ∧ CO.toList.take i = ints (PA i) ∧ noU32 CO = true ∧ Blk wr (w.heap.size + 1) 3 CO ∧ Blk wr (w.heap.size) 30 #[.bool ka1, .slice ka2 ka3 ka4, .bool ka5, .slice ka6 ka7 ka8, .bool kb1, .slice kb2 kb3 kb4, .bool kb5, .slice kb6 kb7 kb8, .bool kc1, .slice kc2 kc3 kc4, .bool kc5, .slice kc6 kc7 kc8, .bool kd1, .slice kd2 kd3 kd4, .bool kd5, .slice kd6 kd7 kd8] ∧ Below w.heap.size w wr ∧ Keeps w wr) (fun sl0 _ => N - (intOf sl0).toNat)
 case atStart => exact ⟨0, _, by omega, rfl, size_madeCells _ _, (by rw [PZ]; rfl), noU_made _, ownK, ownK, belowB, keepsB⟩
 case round =>
  rename World => wo
  try clear B
  try clear kk
  obtain ⟨i, CO, hi, rfl, hs, htk, hno, oq, os, B, kk⟩ := hrel
  obtain ⟨cs0, cs1, cs2, cs3, cs4, cs5, cs6, cs7, cs8, cs9, cs10, cs11, cs12, cs13, cs14, cs15⟩ := os.r15
  have ls := os.lt
  rcases Nat.lt_or_ge i N with i4 | i4
  ·
   have hlt : decide ((i : Int) < (N : Int)) = true := decide_eq_true (by omega)
   obtain ⟨b, of, rfl, hbl, hx0, hy0⟩ := HPl.out.at (a := i) (by have := HN.out; omega)
   have cx : wo.cell? ⟨b, of + i * 2, none⟩ = some (.int .i64 (pt l i).1) := (B.cell (p := ⟨b, _, none⟩) hbl).trans hx0
   have cy : wo.cell? ⟨b, of + i * 2 + 1, none⟩ = some (.int .i64 (pt l i).2) := (B.cell (p := ⟨b, _, none⟩) hbl).trans hy0
   have ap := AP i i4
   have di := DI i i4
   have cmp := CM i i4
   have sp := SP i
   have p0 := P0 i
   have ps := PS i
   clear hx0 hy0 hbl
   have zq_0 : w.heap.size + 1 < wo.heap.size := oq.lt
   have zz0 := B.size
   go_wp2_with fail
   refine (ap _ belowB).mono ?_
   rintro e w1 ⟨vxa, vxb, rfl, hvxa, hvxb, hb1⟩
   have st : Steps _ w1 := hb1
   have sk : Below wo.heap.size wo w1 := belowA st
   replace B := below_steps B (Nat.le_refl _) sk
   have ovn : Blk w1 (wo.heap.size) 23 #[.int .i64 (pt l i).1, .int .i64 (pt l i).2] := Blk.stepsK st
   replace os := os.steps sk
   replace oq := oq.steps sk
   replace kk := kk.then_ sk
   clear st sk cs0 cs1 cs2 cs3 cs4 cs5 cs6 cs7 cs8 cs9 cs10 cs11 cs12 cs13 cs14 cs15 ls
   obtain ⟨xa1, xa2, xa3, xa4, xa5, xa6, xa7, xa8, rfl⟩ := FR.shape hvxa
   have Fxa := Hid.mk_ hvxa
   clear hvxa
   obtain ⟨xb1, xb2, xb3, xb4, xb5, xb6, xb7, xb8, rfl⟩ := FR.shape hvxb
   have Fxb := Hid.mk_ hvxb
   clear hvxb
   have zvn_1 : wo.heap.size < w1.heap.size := ovn.lt
   have zz1 := B.size
   dsimp only
   have lq := oq.lt
   have fq := oq.fr
   have zz9 := B.size
   have nq1 : w.heap.size + 1 ≠ w1.heap.size := by omega
   have nq2 : w.heap.size + 1 ≠ w1.heap.size + 1 := by omega
   have nq3 : w.heap.size + 1 < w1.heap.size + 1 := by omega
   have cqi : w1.cell? ⟨w.heap.size + 1, i, none⟩ = some (CO[i]'(by omega)) := (oq.cell i).trans (Array.getElem?_eq_getElem (by omega))
   repeat' (first | (with_reducible show wpList _ _ _ (⟨some 44, _, _, _, _, _⟩ :: _) _ _; generalize hZ : @wpList = Z) | go_values | go_skip | go_guarded | go_step | go_upon)
   subst hZ
   clear lq fq cqi zz9 nq1 nq2 nq3
   refine wp_seal (fun wz => Blk wz (w.heap.size) 30 #[.bool ka1, .slice ka2 ka3 ka4, .bool ka5, .slice ka6 ka7 ka8, .bool kb1, .slice kb2 kb3 kb4, .bool kb5, .slice kb6 kb7 kb8, .bool kc1, .slice kc2 kc3 kc4, .bool kc5, .slice kc6 kc7 kc8, .bool kd1, .slice kd2 kd3 kd4, .bool kd5, .slice kd6 kd7 kd8] ∧ Blk wz (w.heap.size + 1) 3 (CO.setIfInBounds i (.int .i64 (-1))) ∧ Blk wz (wo.heap.size) 23 #[.int .i64 (pt l i).1, .int .i64 (pt l i).2] ∧ Blk wz (w1.heap.size) 28 #[.bool xa1, .slice xa2 xa3 xa4, .bool xa5, .slice xa6 xa7 xa8] ∧ Blk wz (w1.heap.size + 1) 28 #[.bool xb1, .slice xb2 xb3 xb4, .bool xb5, .slice xb6 xb7 xb8] ∧ Below w.heap.size w wz ∧ Keeps w1 wz) ⟨ownK, ((oq.set_ i _).alloc _).alloc _, ownK, ownK, ownK, belowB, ((Keeps.set (Keeps.refl _) ⟨3, CO, oq, hno⟩).alloc _).alloc _⟩ ?_
   rintro wx ⟨ps, pq, pvn, pvx, pvy, B2, k2⟩
   clear os oq ovn
   clear B
   have B := B2
   clear B2
   have os := ps
   have oq := pq
   have ovn := pvn
   have ovx := pvx
   have ovy := pvy
   clear ps pq pvn pvx pvy
   replace Fxa := Hid.mk_ (Fxa.out.keeps k2)
   replace Fxb := Hid.mk_ (Fxb.out.keeps k2)
   replace kk := kk.trans k2
   clear k2
   go_wp2_with fail
   refine (RA _ belowB).mono ?_
   rintro e w2 ⟨vxd, rfl, hvxd, hb2⟩
   have st : Steps _ w2 := hb2
   have sk : Below wx.heap.size wx w2 := belowA st
   replace B := below_steps B (Nat.le_refl _) sk
   replace os := os.steps sk
   replace oq := oq.steps sk
   replace ovn := ovn.steps sk
   replace ovx := ovx.steps sk
   replace ovy := ovy.steps sk
   replace Fxa := Hid.mk_ (Fxa.out.steps sk)
   replace Fxb := Hid.mk_ (Fxb.out.steps sk)
   replace kk := kk.then_ sk
   clear st sk
   obtain ⟨xd1, xd2, xd3, xd4, xd5, xd6, xd7, xd8, rfl⟩ := hvxd.shape
   have Fxd := Hid.mk_ hvxd
   clear hvxd
   have zvy_2 : w1.heap.size + 1 < w2.heap.size := ovy.lt
   have zz2 := B.size
   go_wp2_with fail
   go_loopw [49] (fun sl0 wr => ∃ (k : Nat) (y1 : Bool) (y2 : Option Addr) (y3 y4 : Nat) (y5 : Bool) (y6 : Option Addr) (y7 y8 : Nat), k ≤ M ∧ sl0 = .int .i64 k ∧ Blk wr (w.heap.size + 1) 3 (CO.setIfInBounds i (.int .i64 (PP i k).1)) ∧ Blk wr (w2.heap.size) 28 #[.bool y1, .slice y2 y3 y4, .bool y5, .slice y6 y7 y8] ∧ FR wr (.agg #[.bool y1, .slice y2 y3 y4, .bool y5, .slice y6 y7 y8]) (PP i k).2 ∧ Blk wr (w.heap.size) 30 #[.bool ka1, .slice ka2 ka3 ka4, .bool ka5, .slice ka6 ka7 ka8, .bool kb1, .slice kb2 kb3 kb4, .bool kb5, .slice kb6 kb7 kb8, .bool kc1, .slice kc2 kc3 kc4, .bool kc5, .slice kc6 kc7 kc8, .bool kd1, .slice kd2 kd3 kd4, .bool kd5, .slice kd6 kd7 kd8] ∧ Blk wr (wo.heap.size) 23 #[.int .i64 (pt l i).1, .int .i64 (pt l i).2] ∧ Blk wr (w1.heap.size) 28 #[.bool xa1, .slice xa2 xa3 xa4, .bool xa5, .slice xa6 xa7 xa8] ∧ Blk wr (w1.heap.size + 1) 28 #[.bool xb1, .slice xb2 xb3 xb4, .bool xb5, .slice xb6 xb7 xb8] ∧ Below w.heap.size w wr ∧ Keeps w2 wr) (fun sl0 _ => M - (intOf sl0).toNat)
   case atStart => exact ⟨0, _, _, _, _, _, _, _, _, by omega, rfl, (by rw [p0]; exact ownK), ownK, (by rw [p0]; exact Fxd.out.keeps keepsB), ownK, ownK, ownK, ownK, belowB, keepsB⟩
   case round =>
    clear os oq ovn ovx ovy
    try clear B
    have kko := kk.trans keepsB
    try clear kk
    clear Fxd
    obtain ⟨k, y1, y2, y3, y4, y5, y6, y7, y8, hk, rfl, oq, ovd, fy, os, ovn, ovx, ovy, B, kk⟩ := hrel
    replace Fxa := Hid.mk_ (Fxa.out.keeps kk)
    replace Fxb := Hid.mk_ (Fxb.out.keeps kk)
    have Fy := Hid.mk_ fy
    clear fy
    obtain ⟨pk, hpk⟩ : ∃ z, (PP i k).1 = z := ⟨_, rfl⟩
    rw [hpk] at oq
    obtain ⟨cvx0, cvx1, cvx2, cvx3⟩ := ovx.r3
    have lvx := ovx.lt
    obtain ⟨cvy0, cvy1, cvy2, cvy3⟩ := ovy.r3
    have lvy := ovy.lt
    rcases Nat.lt_or_ge k M with k4 | k4
    ·
     have hlt2 : decide ((k : Int) < (M : Int)) = true := decide_eq_true (by omega)
     obtain ⟨b', of', rfl, hbl', hx0, hy0⟩ := HPm.out.at (a := k) (by have := HM.out; omega)
     have cx : wr.cell? ⟨b', of' + k * 2, none⟩ = some (.int .i64 (pt m k).1) := (B.cell (p := ⟨b', _, none⟩) hbl').trans hx0
     have cy : wr.cell? ⟨b', of' + k * 2 + 1, none⟩ = some (.int .i64 (pt m k).2) := (B.cell (p := ⟨b', _, none⟩) hbl').trans hy0
     have dik := di k k4
     have cik := cmp k k4
     obtain ⟨c, hcc⟩ : ∃ c, cmpQ (DD i k) (PP i k).2 = c := ⟨_, rfl⟩
     rw [hcc] at cik
     have sq := sp k c hcc
     rw [hpk] at sq
     clear hx0 hy0 hbl' hcc
     have zvd_2 : w2.heap.size < wr.heap.size := ovd.lt
     have zz2 := B.size
     go_wp2_with fail
     refine (dik _ _ _ belowB (Fxa.out.keeps keepsB) (Fxb.out.keeps keepsB)).mono ?_
     rintro e w3 ⟨vxe, rfl, hvxe, hb3⟩
     have st : Steps _ w3 := hb3
     have sk : Below wr.heap.size wr w3 := belowA st
     replace B := below_steps B (Nat.le_refl _) sk
     have ovm : Blk w3 (wr.heap.size) 23 #[.int .i64 (pt m k).1, .int .i64 (pt m k).2] := Blk.stepsK st
     replace os := os.steps sk
     replace ovn := ovn.steps sk
     replace ovx := ovx.steps sk
     replace ovy := ovy.steps sk
     replace oq := oq.steps sk
     replace ovd := ovd.steps sk
     replace Fxa := Hid.mk_ (Fxa.out.steps sk)
     replace Fxb := Hid.mk_ (Fxb.out.steps sk)
     replace Fy := Hid.mk_ (Fy.out.steps sk)
     replace kk := kk.then_ sk
     clear st sk cvx0 cvx1 cvx2 cvx3 lvx cvy0 cvy1 cvy2 cvy3 lvy
     obtain ⟨cvd0, cvd1, cvd2, cvd3⟩ := ovd.r3
     have lvd := ovd.lt
     obtain ⟨xe1, xe2, xe3, xe4, xe5, xe6, xe7, xe8, rfl⟩ := hvxe.shape
     have Fxe := Hid.mk_ hvxe
     clear hvxe
     have zvm_3 : wr.heap.size < w3.heap.size := ovm.lt
     have zz3 := B.size
     go_wp2_with fail
     refine (cik _ _ _ belowB (Fxe.out.keeps keepsB) (Fy.out.keeps keepsB)).mono ?_
     rintro e w4 ⟨rfl, hb4⟩
     have st : Steps _ w4 := hb4
     have sk : Below w3.heap.size w3 w4 := belowA st
     replace B := below_steps B (Nat.le_refl _) sk
     have ove : Blk w4 (w3.heap.size) 28 #[.bool xe1, .slice xe2 xe3 xe4, .bool xe5, .slice xe6 xe7 xe8] := Blk.stepsK st
     replace os := os.steps sk
     replace ovn := ovn.steps sk
     replace ovx := ovx.steps sk
     replace ovy := ovy.steps sk
     replace oq := oq.steps sk
     replace ovd := ovd.steps sk
     replace ovm := ovm.steps sk
     replace Fxa := Hid.mk_ (Fxa.out.steps sk)
     replace Fxb := Hid.mk_ (Fxb.out.steps sk)
     replace Fy := Hid.mk_ (Fy.out.steps sk)
     replace Fxe := Hid.mk_ (Fxe.out.steps sk)
     replace kk := kk.then_ sk
     clear st sk cvd0 cvd1 cvd2 cvd3 lvd
     dsimp only
     have lq := oq.lt
     have fq := oq.fr
     have cqk : w4.cell? ⟨w.heap.size + 1, i, none⟩ = some (.int .i64 pk) := (oq.cell i).trans (Array.getElem?_setIfInBounds_self_of_lt (by omega))
     by_cases c1 : c < 0
     ·
      have e0 := sq.1 (by omega)
      have lve := ove.lt
      have lvd := ovd.lt
      have fvd := ovd.fr
      have cve0 : w4.cell? ⟨w3.heap.size, 0, none⟩ = some (.bool xe1) := ove.c 0 rfl
      have cve1 : w4.cell? ⟨w3.heap.size, 1, none⟩ = some (.slice xe2 xe3 xe4) := ove.c 1 rfl
      have cve2 : w4.cell? ⟨w3.heap.size, 2, none⟩ = some (.bool xe5) := ove.c 2 rfl
      have cve3 : w4.cell? ⟨w3.heap.size, 3, none⟩ = some (.slice xe6 xe7 xe8) := ove.c 3 rfl
      have cvd0 : w4.cell? ⟨w2.heap.size, 0, none⟩ = some (.bool y1) := ovd.c 0 rfl
      have cvd1 : w4.cell? ⟨w2.heap.size, 1, none⟩ = some (.slice y2 y3 y4) := ovd.c 1 rfl
      have cvd2 : w4.cell? ⟨w2.heap.size, 2, none⟩ = some (.bool y5) := ovd.c 2 rfl
      have cvd3 : w4.cell? ⟨w2.heap.size, 3, none⟩ = some (.slice y6 y7 y8) := ovd.c 3 rfl
      have nqd : w.heap.size + 1 ≠ w2.heap.size := by omega
      have nqe : w.heap.size + 1 ≠ w3.heap.size := by omega
      have nde : w2.heap.size ≠ w3.heap.size := by omega
      go_upto_region 15 with fail
      go_region
      have kq : Keeps w4 (w4.setCell ⟨w.heap.size + 1, i, none⟩ (.int .i64 (k : Int))) := Keeps.set (Keeps.refl _) ⟨_, _, oq, noU_set hno i pk⟩
      have oq2 : Blk (w4.setCell ⟨w.heap.size + 1, i, none⟩ (.int .i64 (k : Int))) (w.heap.size + 1) 3 (CO.setIfInBounds i (.int .i64 (k : Int))) := by have := oq.set_ i (.int .i64 (k : Int)); rw [Array.setIfInBounds_setIfInBounds] at this; exact this
      go_wp2_with fail
      go_roundw
      case rel => exact ⟨k + 1, _, _, _, _, _, _, _, _, by omega, by go_num, (by rw [e0]; exact ownK), ownK, (by rw [e0]; exact Fxe.out.keeps (kq.trans keepsB)), ownK, ownK, ownK, ownK, belowB, kk.trans (kq.trans keepsB)⟩
      case measure => simp [intOf]; omega
     ·
      by_cases c2 : c = 0
      ·
       by_cases c3 : pk < 0
       ·
        have e0 := sq.2.1 (by omega) (by omega)
        subst c2
        have lve := ove.lt
        have lvd := ovd.lt
        have fvd := ovd.fr
        have cve0 : w4.cell? ⟨w3.heap.size, 0, none⟩ = some (.bool xe1) := ove.c 0 rfl
        have cve1 : w4.cell? ⟨w3.heap.size, 1, none⟩ = some (.slice xe2 xe3 xe4) := ove.c 1 rfl
        have cve2 : w4.cell? ⟨w3.heap.size, 2, none⟩ = some (.bool xe5) := ove.c 2 rfl
        have cve3 : w4.cell? ⟨w3.heap.size, 3, none⟩ = some (.slice xe6 xe7 xe8) := ove.c 3 rfl
        have cvd0 : w4.cell? ⟨w2.heap.size, 0, none⟩ = some (.bool y1) := ovd.c 0 rfl
        have cvd1 : w4.cell? ⟨w2.heap.size, 1, none⟩ = some (.slice y2 y3 y4) := ovd.c 1 rfl
        have cvd2 : w4.cell? ⟨w2.heap.size, 2, none⟩ = some (.bool y5) := ovd.c 2 rfl
        have cvd3 : w4.cell? ⟨w2.heap.size, 3, none⟩ = some (.slice y6 y7 y8) := ovd.c 3 rfl
        have nqd : w.heap.size + 1 ≠ w2.heap.size := by omega
        have nqe : w.heap.size + 1 ≠ w3.heap.size := by omega
        have nde : w2.heap.size ≠ w3.heap.size := by omega
        go_upto_region 15 with fail
        go_region
        have kq : Keeps w4 (w4.setCell ⟨w.heap.size + 1, i, none⟩ (.int .i64 (k : Int))) := Keeps.set (Keeps.refl _) ⟨_, _, oq, noU_set hno i pk⟩
        have oq2 : Blk (w4.setCell ⟨w.heap.size + 1, i, none⟩ (.int .i64 (k : Int))) (w.heap.size + 1) 3 (CO.setIfInBounds i (.int .i64 (k : Int))) := by have := oq.set_ i (.int .i64 (k : Int)); rw [Array.setIfInBounds_setIfInBounds] at this; exact this
        go_wp2_with fail
        go_roundw
        case rel => exact ⟨k + 1, _, _, _, _, _, _, _, _, by omega, by go_num, (by rw [e0]; exact ownK), ownK, (by rw [e0]; exact Fxe.out.keeps (kq.trans keepsB)), ownK, ownK, ownK, ownK, belowB, kk.trans (kq.trans keepsB)⟩
        case measure => simp [intOf]; omega
       ·
        have e0 := sq.2.2 (by omega) (by first | omega | (intro h; omega) | (rintro ⟨h, g⟩; omega))
        subst c2
        go_wp2_with fail
        go_roundw
        case rel => exact ⟨k + 1, _, _, _, _, _, _, _, _, by omega, by go_num, (by rw [e0, hpk]; exact ownK), ownK, (by rw [e0]; exact Fy.out.keeps keepsB), ownK, ownK, ownK, ownK, belowB, kk.trans keepsB⟩
        case measure => simp [intOf]; omega
      ·
       have e0 := sq.2.2 (by omega) (by first | omega | (intro h; omega) | (rintro ⟨h, g⟩; omega))
       go_wp2_with fail
       go_roundw
       case rel => exact ⟨k + 1, _, _, _, _, _, _, _, _, by omega, by go_num, (by rw [e0, hpk]; exact ownK), ownK, (by rw [e0]; exact Fy.out.keeps keepsB), ownK, ownK, ownK, ownK, belowB, kk.trans keepsB⟩
       case measure => simp [intOf]; omega
    ·
     have hltM : decide ((k : Int) < (M : Int)) = false := decide_eq_false (by omega)
     have eM : k = M := by omega
     rw [eM] at hpk
     go_wp2_with fail
     go_roundw
     case rel => exact ⟨i + 1, CO.setIfInBounds i (.int .i64 pk), by omega, by go_num, by rw [Array.size_setIfInBounds]; exact hs, by rw [ps, hpk]; exact cur_next (by omega) (PL0 i) htk pk, noU_set hno i pk, ownK, ownK, belowB, kko.trans (kk.trans keepsB)⟩
     case measure => simp [intOf]; omega
  ·
   have eN : i = N := by omega
   have hltN : decide ((i : Int) < (N : Int)) = false := decide_eq_false (by omega)
   rw [eN] at htk
   go_wp2_with fail
   refine bodyPost_ret (by simp [results, Tryz.results61, go_sem, cs0, cs1, cs2, cs3, cs4, cs5, cs6, cs7, cs8, cs9, cs10, cs11, cs12, cs13, cs14, cs15, ls]; rfl) rfl ?_
   exact ⟨_, rfl, ints_of_cur ownK (PL0 N) (Nat.le_refl _) htk, belowB⟩
def pairsE (cl cm : Int) (lim : Bool) (rad : Int) : Int := if cl ≠ 0 then cl else if cm ≠ 0 then cm else if lim = false then 8 else if rad < 1 ∨ 65536 < rad then 2 else 0
def pairsR (e : Int) (l : List Int) : List Int := if e = 0 then l else []
theorem mPairs {ka1 ka5 kb1 kb5 kc1 kc5 kd1 kd5 : Bool} {ka2 ka6 kb2 kb6 kc2 kc6 kd2 kd6 : Option Addr} {ka3 ka4 ka7 ka8 kb3 kb4 kb7 kb8 kc3 kc4 kc7 kc8 kd3 kd4 kd7 kd8 : Nat} {O : Nat → Option Rat} {vl vm : Value} {l m : PL} (rad : Int) (w : World) (b0 : FB w (.agg #[.bool ka1, .slice ka2 ka3 ka4, .bool ka5, .slice ka6 ka7 ka8]) (O 0)) (b1 : FB w (.agg #[.bool kb1, .slice kb2 kb3 kb4, .bool kb5, .slice kb6 kb7 kb8]) (O 1)) (b2 : FB w (.agg #[.bool kc1, .slice kc2 kc3 kc4, .bool kc5, .slice kc6 kc7 kc8]) (O 2)) (b3 : FB w (.agg #[.bool kd1, .slice kd2 kd3 kd4, .bool kd5, .slice kd6 kd7 kd8]) (O 3)) (fw : FewL O (f4v ka3 kb3 kc3 kd3) (f4v ka7 kb7 kc7 kd7) 4) (hl : Pts w vl l) (hm : Pts w vm m) (ll : l.length ≤ 1000) (lm : m.length ≤ 1000) :
  Calls Tryz.prog 23 #[.agg #[.bool ka1, .slice ka2 ka3 ka4, .bool ka5, .slice ka6 ka7 ka8, .bool kb1, .slice kb2 kb3 kb4, .bool kb5, .slice kb6 kb7 kb8, .bool kc1, .slice kc2 kc3 kc4, .bool kc5, .slice kc6 kc7 kc8, .bool kd1, .slice kd2 kd3 kd4, .bool kd5, .slice kd6 kd7 kd8], vl, vm, .int .i64 rad] w fun e w' => ∃ u, e = .returned (.tuple #[u, .int .i64 (pairsE (chkP l) (chkP m) (limL 16 O (f4v ka3 kb3 kc3 kd3) (f4v ka7 kb7 kc7 kd7) 4) rad)]) ∧ IntsR w' u (pairsR (pairsE (chkP l) (chkP m) (limL 16 O (f4v ka3 kb3 kc3 kd3) (f4v ka7 kb7 kc7 kd7) 4) rad) (partners (fun i => (O i).getD 0) (rad : Rat) l m l.length)) ∧ Steps w w' := by
 have CL : ∀ w', Steps w w' → Calls Tryz.prog 37 #[vl] w' fun e w2 => e = .returned (.int .i64 (chkP l)) ∧ Steps w' w2 := fun w' s => qcheckP w' (hl.steps s) ll
 have CN : ∀ w', Steps w w' → Calls Tryz.prog 37 #[vm] w' fun e w2 => e = .returned (.int .i64 (chkP m)) ∧ Steps w' w2 := fun w' s => qcheckP w' (hm.steps s) lm
 have LM : ∀ w' g t, Keeps w w' → Blk w' g t #[.bool ka1, .slice ka2 ka3 ka4, .bool ka5, .slice ka6 ka7 ka8, .bool kb1, .slice kb2 kb3 kb4, .bool kb5, .slice kb6 kb7 kb8, .bool kc1, .slice kc2 kc3 kc4, .bool kc5, .slice kc6 kc7 kc8, .bool kd1, .slice kd2 kd3 kd4, .bool kd5, .slice kd6 kd7 kd8] → Calls Tryz.prog 41 #[.int .i64 16, .slice (some ⟨g, 0, none⟩) 4 4] w' fun e w2 => e = .returned (.bool (limL 16 O (f4v ka3 kb3 kc3 kd3) (f4v ka7 kb7 kc7 kd7) 4)) ∧ Steps w' w2 := fun w' g t k hb => mlimited 16 w' (fls4 hb (b0.keeps k) (b1.keeps k) (b2.keeps k) (b3.keeps k)) (by omega)
 have PR : chkP l = 0 → chkP m = 0 → limL 16 O (f4v ka3 kb3 kc3 kd3) (f4v ka7 kb7 kc7 kd7) 4 = true → 1 ≤ rad → rad ≤ 65536 → ∀ w' g, Keeps w w' → Steps w w' → Blk w' g 89 #[.int .i64 0] → Calls Tryz.prog 61 #[.pointer (some ⟨g, 0, none⟩), .agg #[.bool ka1, .slice ka2 ka3 ka4, .bool ka5, .slice ka6 ka7 ka8, .bool kb1, .slice kb2 kb3 kb4, .bool kb5, .slice kb6 kb7 kb8, .bool kc1, .slice kc2 kc3 kc4, .bool kc5, .slice kc6 kc7 kc8, .bool kd1, .slice kd2 kd3 kd4, .bool kd5, .slice kd6 kd7 kd8], vl, vm, .int .i64 rad] w' fun e w2 => ∃ u, e = .returned u ∧ IntsR w2 u (partners (fun i => (O i).getD 0) (rad : Rat) l m l.length) ∧ Steps w' w2 := fun c1 c2 hL r0 r1 w' g k s hb => by
  obtain ⟨q0, e0, z0⟩ := limL_sz hL fw 0 (by omega)
  obtain ⟨q1, e1, z1⟩ := limL_sz hL fw 1 (by omega)
  obtain ⟨q2, e2, z2⟩ := limL_sz hL fw 2 (by omega)
  obtain ⟨q3, e3, z3⟩ := limL_sz hL fw 3 (by omega)
  have g0 : (O 0).getD 0 = q0 := by rw [e0]; rfl
  have g1 : (O 1).getD 0 = q1 := by rw [e1]; rfl
  have g2 : (O 2).getD 0 = q2 := by rw [e2]; rfl
  have g3 : (O 3).getD 0 = q3 := by rw [e3]; rfl
  rw [e0] at b0
  rw [e1] at b1
  rw [e2] at b2
  rw [e3] at b3
  exact mpairs (t := fun i => (O i).getD 0) rad w' hb (by show FR _ _ ((O 0).getD 0); rw [g0]; exact FR.keeps b0 k) (by show FR _ _ ((O 1).getD 0); rw [g1]; exact FR.keeps b1 k) (by show FR _ _ ((O 2).getD 0); rw [g2]; exact FR.keeps b2 k) (by show FR _ _ ((O 3).getD 0); rw [g3]; exact FR.keeps b3 k) (fun i hi => by
   rcases (show i = 0 ∨ i = 1 ∨ i = 2 ∨ i = 3 by omega) with rfl | rfl | rfl | rfl
   · show sz ((O 0).getD 0) 16; rw [g0]; exact z0
   · show sz ((O 1).getD 0) 16; rw [g1]; exact z1
   · show sz ((O 2).getD 0) 16; rw [g2]; exact z2
   · show sz ((O 3).getD 0) 16; rw [g3]; exact z3) (hl.steps s) (hm.steps s) c1 c2 r0 r1
 obtain ⟨la, lc, rfl⟩ := hl.shape
 obtain ⟨ma, mc, rfl⟩ := hm.shape
 generalize partners (fun i => (O i).getD 0) (rad : Rat) l m l.length = P at *
 generalize limL 16 O (f4v ka3 kb3 kc3 kd3) (f4v ka7 kb7 kc7 kd7) 4 = L at *
 generalize chkP l = cl at *
 generalize chkP m = cm at *
 obtain ⟨N, hN⟩ : ∃ n, l.length = n := ⟨_, rfl⟩
 obtain ⟨M, hM⟩ : ∃ n, m.length = n := ⟨_, rfl⟩
 rw [hN, hM] at PR
 rw [hN] at CL
 rw [hM] at CN
 rw [hN, hM]
 clear hl hm ll lm b0 b1 b2 b3 fw hN hM
 by_cases c1 : cl = 0
 ·
  subst c1
  by_cases c2 : cm = 0
  ·
   subst c2
   cases L with
   | false =>
    have eE : pairsE 0 0 false rad = 8 := by simp [pairsE]
    rw [eE]
    clear PR
    show Calls _ _ _ _ fun e w' => ∃ u, e = _ ∧ IntsR w' u [] ∧ _
    go_enter Tryz.func23, Tryz.ntmps23
    have kk := Keeps.refl w
    go_wp2_with fail
    refine (CL _ belowB).mono ?_
    rintro e w1 ⟨rfl, hb1⟩
    have st : Steps _ w1 := hb1
    have B : Below w.heap.size w w1 := belowA st
    have kp : Keeps w w1 := Keeps.then_ keepsB st
    replace kk := kk.trans kp
    have os : Blk w1 (w.heap.size) 30 #[.bool ka1, .slice ka2 ka3 ka4, .bool ka5, .slice ka6 ka7 ka8, .bool kb1, .slice kb2 kb3 kb4, .bool kb5, .slice kb6 kb7 kb8, .bool kc1, .slice kc2 kc3 kc4, .bool kc5, .slice kc6 kc7 kc8, .bool kd1, .slice kd2 kd3 kd4, .bool kd5, .slice kd6 kd7 kd8] := Blk.stepsK st
    clear kp
    clear st
    go_wp2_with fail
    refine (CN _ belowB).mono ?_
    rintro e w2 ⟨rfl, hb2⟩
    have st : Steps _ w2 := hb2
    have sk : Below w1.heap.size w1 w2 := belowA st
    replace B := below_steps B (Nat.le_refl _) sk
    replace os := os.steps sk
    replace kk := kk.then_ sk
    clear st sk
    obtain ⟨cs0, cs1, cs2, cs3, cs4, cs5, cs6, cs7, cs8, cs9, cs10, cs11, cs12, cs13, cs14, cs15⟩ := os.r15
    have ls := os.lt
    have zs_2 : w.heap.size < w2.heap.size := os.lt
    have zz2 := B.size
    go_wp2_with fail
    refine (LM _ (w2.heap.size) 28 (kk.trans keepsB) ownK).mono ?_
    rintro e w3 ⟨rfl, hb3⟩
    have st : Steps _ w3 := hb3
    have sk : Below w2.heap.size w2 w3 := belowA st
    replace B := below_steps B (Nat.le_refl _) sk
    replace os := os.steps sk
    replace kk := kk.then_ sk
    clear st sk cs0 cs1 cs2 cs3 cs4 cs5 cs6 cs7 cs8 cs9 cs10 cs11 cs12 cs13 cs14 cs15 ls
    go_wp2_with fail
    refine bodyPost_ret (by simp [results, Tryz.results23, go_sem, ]; rfl) rfl ?_
    exact ⟨_, rfl, IntsR.nil _, belowB⟩
   | true =>
    rcases (show rad < 1 ∨ (¬ rad < 1 ∧ 65536 < rad) ∨ (¬ rad < 1 ∧ ¬ 65536 < rad) by omega) with r0 | ⟨r0, r1⟩ | ⟨r0, r1⟩
    ·
     have eE : pairsE 0 0 true rad = 2 := by simp [pairsE]; omega
     rw [eE]
     clear PR
     show Calls _ _ _ _ fun e w' => ∃ u, e = _ ∧ IntsR w' u [] ∧ _
     go_enter Tryz.func23, Tryz.ntmps23
     have kk := Keeps.refl w
     go_wp2_with fail
     refine (CL _ belowB).mono ?_
     rintro e w1 ⟨rfl, hb1⟩
     have st : Steps _ w1 := hb1
     have B : Below w.heap.size w w1 := belowA st
     have kp : Keeps w w1 := Keeps.then_ keepsB st
     replace kk := kk.trans kp
     have os : Blk w1 (w.heap.size) 30 #[.bool ka1, .slice ka2 ka3 ka4, .bool ka5, .slice ka6 ka7 ka8, .bool kb1, .slice kb2 kb3 kb4, .bool kb5, .slice kb6 kb7 kb8, .bool kc1, .slice kc2 kc3 kc4, .bool kc5, .slice kc6 kc7 kc8, .bool kd1, .slice kd2 kd3 kd4, .bool kd5, .slice kd6 kd7 kd8] := Blk.stepsK st
     clear kp
     clear st
     go_wp2_with fail
     refine (CN _ belowB).mono ?_
     rintro e w2 ⟨rfl, hb2⟩
     have st : Steps _ w2 := hb2
     have sk : Below w1.heap.size w1 w2 := belowA st
     replace B := below_steps B (Nat.le_refl _) sk
     replace os := os.steps sk
     replace kk := kk.then_ sk
     clear st sk
     obtain ⟨cs0, cs1, cs2, cs3, cs4, cs5, cs6, cs7, cs8, cs9, cs10, cs11, cs12, cs13, cs14, cs15⟩ := os.r15
     have ls := os.lt
     have zs_2 : w.heap.size < w2.heap.size := os.lt
     have zz2 := B.size
     go_wp2_with fail
     refine (LM _ (w2.heap.size) 28 (kk.trans keepsB) ownK).mono ?_
     rintro e w3 ⟨rfl, hb3⟩
     have st : Steps _ w3 := hb3
     have sk : Below w2.heap.size w2 w3 := belowA st
     replace B := below_steps B (Nat.le_refl _) sk
     replace os := os.steps sk
     replace kk := kk.then_ sk
     clear st sk cs0 cs1 cs2 cs3 cs4 cs5 cs6 cs7 cs8 cs9 cs10 cs11 cs12 cs13 cs14 cs15 ls
     go_wp2_with fail
     refine bodyPost_ret (by simp [results, Tryz.results23, go_sem, ]; rfl) rfl ?_
     exact ⟨_, rfl, IntsR.nil _, belowB⟩
    ·
     have eE : pairsE 0 0 true rad = 2 := by simp [pairsE]; omega
     rw [eE]
     clear PR
     show Calls _ _ _ _ fun e w' => ∃ u, e = _ ∧ IntsR w' u [] ∧ _
     go_enter Tryz.func23, Tryz.ntmps23
     have kk := Keeps.refl w
     go_wp2_with fail
     refine (CL _ belowB).mono ?_
     rintro e w1 ⟨rfl, hb1⟩
     have st : Steps _ w1 := hb1
     have B : Below w.heap.size w w1 := belowA st
     have kp : Keeps w w1 := Keeps.then_ keepsB st
     replace kk := kk.trans kp
     have os : Blk w1 (w.heap.size) 30 #[.bool ka1, .slice ka2 ka3 ka4, .bool ka5, .slice ka6 ka7 ka8, .bool kb1, .slice kb2 kb3 kb4, .bool kb5, .slice kb6 kb7 kb8, .bool kc1, .slice kc2 kc3 kc4, .bool kc5, .slice kc6 kc7 kc8, .bool kd1, .slice kd2 kd3 kd4, .bool kd5, .slice kd6 kd7 kd8] := Blk.stepsK st
     clear kp
     clear st
     go_wp2_with fail
     refine (CN _ belowB).mono ?_
     rintro e w2 ⟨rfl, hb2⟩
     have st : Steps _ w2 := hb2
     have sk : Below w1.heap.size w1 w2 := belowA st
     replace B := below_steps B (Nat.le_refl _) sk
     replace os := os.steps sk
     replace kk := kk.then_ sk
     clear st sk
     obtain ⟨cs0, cs1, cs2, cs3, cs4, cs5, cs6, cs7, cs8, cs9, cs10, cs11, cs12, cs13, cs14, cs15⟩ := os.r15
     have ls := os.lt
     have zs_2 : w.heap.size < w2.heap.size := os.lt
     have zz2 := B.size
     go_wp2_with fail
     refine (LM _ (w2.heap.size) 28 (kk.trans keepsB) ownK).mono ?_
     rintro e w3 ⟨rfl, hb3⟩
     have st : Steps _ w3 := hb3
     have sk : Below w2.heap.size w2 w3 := belowA st
     replace B := below_steps B (Nat.le_refl _) sk
     replace os := os.steps sk
     replace kk := kk.then_ sk
     clear st sk cs0 cs1 cs2 cs3 cs4 cs5 cs6 cs7 cs8 cs9 cs10 cs11 cs12 cs13 cs14 cs15 ls
     go_wp2_with fail
     refine bodyPost_ret (by simp [results, Tryz.results23, go_sem, ]; rfl) rfl ?_
     exact ⟨_, rfl, IntsR.nil _, belowB⟩
    ·
     have eE : pairsE 0 0 true rad = 0 := by simp [pairsE]; omega
     rw [eE]
     replace PR := PR rfl rfl rfl (by omega) (by omega)
     show Calls _ _ _ _ fun e w' => ∃ u, e = _ ∧ IntsR w' u P ∧ _
     go_enter Tryz.func23, Tryz.ntmps23
     have kk := Keeps.refl w
     go_wp2_with fail
     refine (CL _ belowB).mono ?_
     rintro e w1 ⟨rfl, hb1⟩
     have st : Steps _ w1 := hb1
     have B : Below w.heap.size w w1 := belowA st
     have kp : Keeps w w1 := Keeps.then_ keepsB st
     replace kk := kk.trans kp
     have os : Blk w1 (w.heap.size) 30 #[.bool ka1, .slice ka2 ka3 ka4, .bool ka5, .slice ka6 ka7 ka8, .bool kb1, .slice kb2 kb3 kb4, .bool kb5, .slice kb6 kb7 kb8, .bool kc1, .slice kc2 kc3 kc4, .bool kc5, .slice kc6 kc7 kc8, .bool kd1, .slice kd2 kd3 kd4, .bool kd5, .slice kd6 kd7 kd8] := Blk.stepsK st
     clear kp
     clear st
     go_wp2_with fail
     refine (CN _ belowB).mono ?_
     rintro e w2 ⟨rfl, hb2⟩
     have st : Steps _ w2 := hb2
     have sk : Below w1.heap.size w1 w2 := belowA st
     replace B := below_steps B (Nat.le_refl _) sk
     replace os := os.steps sk
     replace kk := kk.then_ sk
     clear st sk
     obtain ⟨cs0, cs1, cs2, cs3, cs4, cs5, cs6, cs7, cs8, cs9, cs10, cs11, cs12, cs13, cs14, cs15⟩ := os.r15
     have ls := os.lt
     have zs_2 : w.heap.size < w2.heap.size := os.lt
     have zz2 := B.size
     go_wp2_with fail
     refine (LM _ (w2.heap.size) 28 (kk.trans keepsB) ownK).mono ?_
     rintro e w3 ⟨rfl, hb3⟩
     have st : Steps _ w3 := hb3
     have sk : Below w2.heap.size w2 w3 := belowA st
     replace B := below_steps B (Nat.le_refl _) sk
     replace os := os.steps sk
     replace kk := kk.then_ sk
     clear st sk cs0 cs1 cs2 cs3 cs4 cs5 cs6 cs7 cs8 cs9 cs10 cs11 cs12 cs13 cs14 cs15 ls
     obtain ⟨cs0, cs1, cs2, cs3, cs4, cs5, cs6, cs7, cs8, cs9, cs10, cs11, cs12, cs13, cs14, cs15⟩ := os.r15
     have ls := os.lt
     have zs_3 : w.heap.size < w3.heap.size := os.lt
     have zz3 := B.size
     go_wp2_with fail
     refine (PR _ (w3.heap.size) (kk.trans keepsB) belowB ownK).mono ?_
     rintro e w4 ⟨vu, rfl, hvu, hb4⟩
     have st : Steps _ w4 := hb4
     have sk : Below w3.heap.size w3 w4 := belowA st
     replace B := below_steps B (Nat.le_refl _) sk
     have ovc : Blk w4 (w3.heap.size) 89 #[.int .i64 0] := Blk.stepsK st
     replace os := os.steps sk
     replace kk := kk.then_ sk
     clear st sk cs0 cs1 cs2 cs3 cs4 cs5 cs6 cs7 cs8 cs9 cs10 cs11 cs12 cs13 cs14 cs15 ls
     have cvc0 := ovc.q0
     have lvc := ovc.lt
     obtain ⟨ua, uc, rfl⟩ := hvu.shape
     go_wp2_with fail
     refine bodyPost_ret (by simp [results, Tryz.results23, go_sem, cvc0, lvc]; rfl) rfl ?_
     exact ⟨_, rfl, hvu, belowB⟩
  ·
   have eE : pairsE 0 cm L rad = cm := by simp [pairsE, c2]
   have eR : pairsR cm P = [] := if_neg c2
   rw [eE, eR]
   clear PR LM
   go_enter Tryz.func23, Tryz.ntmps23
   have kk := Keeps.refl w
   go_wp2_with fail
   refine (CL _ belowB).mono ?_
   rintro e w1 ⟨rfl, hb1⟩
   have st : Steps _ w1 := hb1
   have B : Below w.heap.size w w1 := belowA st
   have kp : Keeps w w1 := Keeps.then_ keepsB st
   replace kk := kk.trans kp
   have os : Blk w1 (w.heap.size) 30 #[.bool ka1, .slice ka2 ka3 ka4, .bool ka5, .slice ka6 ka7 ka8, .bool kb1, .slice kb2 kb3 kb4, .bool kb5, .slice kb6 kb7 kb8, .bool kc1, .slice kc2 kc3 kc4, .bool kc5, .slice kc6 kc7 kc8, .bool kd1, .slice kd2 kd3 kd4, .bool kd5, .slice kd6 kd7 kd8] := Blk.stepsK st
   clear kp
   clear st
   go_wp2_with fail
   refine (CN _ belowB).mono ?_
   rintro e w2 ⟨rfl, hb2⟩
   have st : Steps _ w2 := hb2
   have sk : Below w1.heap.size w1 w2 := belowA st
   replace B := below_steps B (Nat.le_refl _) sk
   replace os := os.steps sk
   replace kk := kk.then_ sk
   clear st sk
   go_wp2_with fail
   refine bodyPost_ret (by simp [results, Tryz.results23, go_sem, ]; rfl) rfl ?_
   exact ⟨_, rfl, IntsR.nil _, belowB⟩
 ·
  have eE : pairsE cl cm L rad = cl := by simp [pairsE, c1]
  have eR : pairsR cl P = [] := if_neg c1
  rw [eE, eR]
  clear PR LM CN
  go_enter Tryz.func23, Tryz.ntmps23
  have kk := Keeps.refl w
  go_wp2_with fail
  refine (CL _ belowB).mono ?_
  rintro e w1 ⟨rfl, hb1⟩
  have st : Steps _ w1 := hb1
  have B : Below w.heap.size w w1 := belowA st
  have kp : Keeps w w1 := Keeps.then_ keepsB st
  replace kk := kk.trans kp
  have os : Blk w1 (w.heap.size) 30 #[.bool ka1, .slice ka2 ka3 ka4, .bool ka5, .slice ka6 ka7 ka8, .bool kb1, .slice kb2 kb3 kb4, .bool kb5, .slice kb6 kb7 kb8, .bool kc1, .slice kc2 kc3 kc4, .bool kc5, .slice kc6 kc7 kc8, .bool kd1, .slice kd2 kd3 kd4, .bool kd5, .slice kd6 kd7 kd8] := Blk.stepsK st
  clear kp
  clear st
  go_wp2_with fail
  refine bodyPost_ret (by simp [results, Tryz.results23, go_sem, ]; rfl) rfl ?_
  exact ⟨_, rfl, IntsR.nil _, belowB⟩
end Go.Proofs.YtffmbepfbienaaaGreat
/- MatchNearest's plain law. -/
namespace Go.Proofs.YtffmbepfbienaaaGreat
theorem near_spec (x y rad : Rat) (m : PL) : (-1 ≤ (prtP x y rad m m.length).1 ∧ (prtP x y rad m m.length).1 < (m.length : Int)) ∧
  (0 ≤ (prtP x y rad m m.length).1 → apartQ x y (pt m (prtP x y rad m m.length).1.toNat) = (prtP x y rad m m.length).2) ∧
  ((prtP x y rad m m.length).1 < 0 → rad = (prtP x y rad m m.length).2) ∧ cmpQ (prtP x y rad m m.length).2 rad ≤ 0 ∧
  ∀ k, k < m.length → ∀ c, cmpQ (apartQ x y (pt m k)) (prtP x y rad m m.length).2 = c → ¬ c < 0 ∧ ¬ (c = 0 ∧ (k : Int) < (prtP x y rad m m.length).1) ∧ ¬ (c = 0 ∧ (prtP x y rad m m.length).1 < 0) := by
 obtain ⟨h1, h2, h3, h4, h5, h6⟩ := prtP_spec x y rad m m.length
 refine ⟨⟨h1, h2⟩, fun h => (h4 h).symm, fun h => (h3 h).symm, cmpQ_le.2 h5, fun k hk c hc => ?_⟩
 subst hc
 obtain ⟨q1, q2, q3⟩ := h6 k hk
 exact ⟨fun h => Rat.not_le.2 (cmpQ_lt.1 h) q1, fun ⟨h, g⟩ => q2 ⟨cmpQ_eq.1 h, g⟩, fun ⟨h, g⟩ => q3 ⟨cmpQ_eq.1 h, g⟩⟩
theorem near_walk {ka1 ka5 kb1 kb5 kc1 kc5 kd1 kd5 : Bool} {ka2 ka6 kb2 kb6 kc2 kc6 kd2 kd6 : Option Addr} {ka3 ka4 ka7 ka8 kb3 kb4 kb7 kb8 kc3 kc4 kc7 kc8 kd3 kd4 kd7 kd8 : Nat} {O : Nat → Option Rat} {vl vm : Value} {l m : PL} (rad : Int) (w : World) (b0 : FB w (.agg #[.bool ka1, .slice ka2 ka3 ka4, .bool ka5, .slice ka6 ka7 ka8]) (O 0)) (b1 : FB w (.agg #[.bool kb1, .slice kb2 kb3 kb4, .bool kb5, .slice kb6 kb7 kb8]) (O 1)) (b2 : FB w (.agg #[.bool kc1, .slice kc2 kc3 kc4, .bool kc5, .slice kc6 kc7 kc8]) (O 2)) (b3 : FB w (.agg #[.bool kd1, .slice kd2 kd3 kd4, .bool kd5, .slice kd6 kd7 kd8]) (O 3)) (fw : FewL O (f4v ka3 kb3 kc3 kd3) (f4v ka7 kb7 kc7 kd7) 4) (hl : Pts w vl l) (hm : Pts w vm m) (rr : (-9223372036854775808 ≤ rad ∧ rad ≤ 9223372036854775807)) :
  Calls Tryz.prog 6 #[.agg #[.bool ka1, .slice ka2 ka3 ka4, .bool ka5, .slice ka6 ka7 ka8, .bool kb1, .slice kb2 kb3 kb4, .bool kb5, .slice kb6 kb7 kb8, .bool kc1, .slice kc2 kc3 kc4, .bool kc5, .slice kc6 kc7 kc8, .bool kd1, .slice kd2 kd3 kd4, .bool kd5, .slice kd6 kd7 kd8], vl, vm, .int .i64 rad] w fun e w' => e = .returned (.bool true) ∧ Steps w w' := by
 have VA := fun w' (k : Keeps w w') => rValid21 w' (b0.keeps k) (b1.keeps k) (b2.keeps k) (b3.keeps k)
 have PA : l.length ≤ 12 → m.length ≤ 12 → limL 16 O (f4v ka3 kb3 kc3 kd3) (f4v ka7 kb7 kc7 kd7) 4 = true → ∀ w', Steps w w' → Calls Tryz.prog 23 #[.agg #[.bool ka1, .slice ka2 ka3 ka4, .bool ka5, .slice ka6 ka7 ka8, .bool kb1, .slice kb2 kb3 kb4, .bool kb5, .slice kb6 kb7 kb8, .bool kc1, .slice kc2 kc3 kc4, .bool kc5, .slice kc6 kc7 kc8, .bool kd1, .slice kd2 kd3 kd4, .bool kd5, .slice kd6 kd7 kd8], vl, vm, .int .i64 rad] w' fun e w2 => ∃ u, e = .returned (.tuple #[u, .int .i64 (pairsE (chkP l) (chkP m) true rad)]) ∧ IntsR w2 u (pairsR (pairsE (chkP l) (chkP m) true rad) (partners (fun i => (O i).getD 0) (rad : Rat) l m l.length)) ∧ Steps w' w2 := fun h1 h2 hL w' s => by
  have k := Keeps.steps s
  have := mPairs rad w' (b0.keeps k) (b1.keeps k) (b2.keeps k) (b3.keeps k) fw (hl.steps s) (hm.steps s) (by omega) (by omega)
  rw [hL] at this
  exact this
 have AP : limL 16 O (f4v ka3 kb3 kc3 kd3) (f4v ka7 kb7 kc7 kd7) 4 = true → chkP l = 0 → ∀ i, i < l.length → ∀ w', Steps w w' → Calls Tryz.prog 13 #[.agg #[.bool ka1, .slice ka2 ka3 ka4, .bool ka5, .slice ka6 ka7 ka8, .bool kb1, .slice kb2 kb3 kb4, .bool kb5, .slice kb6 kb7 kb8, .bool kc1, .slice kc2 kc3 kc4, .bool kc5, .slice kc6 kc7 kc8, .bool kd1, .slice kd2 kd3 kd4, .bool kd5, .slice kd6 kd7 kd8], .agg #[.int .i64 (pt l i).1, .int .i64 (pt l i).2]] w' fun e w2 => ∃ u v, e = .returned (.tuple #[u, v, .int .i64 0]) ∧ FR w2 u (apX (fun i => (O i).getD 0) (pt l i)) ∧ FR w2 v (apY (fun i => (O i).getD 0) (pt l i)) ∧ Steps w' w2 := fun hL cl i hi w' s => by
  have k := Keeps.steps s
  have ok := chk_okP cl i hi
  have hk : apOk O (f4v ka3 kb3 kc3 kd3) (f4v ka7 kb7 kc7 kd7) ((pt l i).1, (pt l i).2) = true := by unfold apOk; rw [hL, Bool.true_and]; exact decide_eq_true ok
  have := mApply (pt l i).1 (pt l i).2 w' (b0.keeps k) (b1.keeps k) (b2.keeps k) (b3.keeps k) fw (by have h1 := ok.1; have h2 := ok.2.1; omega) (by have h1 := ok.2.2.1; have h2 := ok.2.2.2; omega)
  rw [hk] at this
  exact this
 have SA : limL 16 O (f4v ka3 kb3 kc3 kd3) (f4v ka7 kb7 kc7 kd7) 4 = true → chkP l = 0 → ∀ i, i < l.length → sz (apX (fun i => (O i).getD 0) (pt l i)) 60 ∧ sz (apY (fun i => (O i).getD 0) (pt l i)) 60 := fun hL cl i hi => sz_apX (fun j hj => by
  obtain ⟨q, e, z⟩ := limL_sz hL fw j hj
  show sz ((O j).getD 0) 16
  rw [e]
  exact z) (chk_okP cl i hi)
 have OF : ∀ w', Calls Tryz.prog 29 #[.int .i64 rad, .int .i64 1] w' fun e w2 => ∃ v, e = .returned v ∧ FR w2 v (rad : Rat) ∧ Steps w' w2 := fun w' => by
  have := lof21 rad 1 w' rr.1 rr.2 (by decide) (by decide) (by decide)
  rw [one_divQ] at this
  exact this
 have EE : l.length ≤ 12 → m.length ≤ 12 → (pairsE (chkP l) (chkP m) true rad) = 8 ∨ (pairsE (chkP l) (chkP m) true rad) = 2 ∨ ((pairsE (chkP l) (chkP m) true rad) = 0 ∧ chkP l = 0 ∧ chkP m = 0 ∧ 1 ≤ rad ∧ rad ≤ 65536) := fun h1 h2 => by
  have c1 : chkP l = 0 ∨ chkP l = 8 := by unfold chkP; rw [if_neg (by omega)]; split <;> simp
  have c2 : chkP m = 0 ∨ chkP m = 8 := by unfold chkP; rw [if_neg (by omega)]; split <;> simp
  rcases c1 with c1 | c1
  ·
   rcases c2 with c2 | c2
   ·
    rw [c1, c2]
    by_cases hr : rad < 1 ∨ 65536 < rad
    · right; left; simp [pairsE, hr]
    · right; right; exact ⟨by simp [pairsE, hr], rfl, rfl, by omega, by omega⟩
   · left; rw [c1, c2]; simp [pairsE]
  · left; rw [c1]; simp [pairsE]
 obtain ⟨la, lc, rfl⟩ := hl.shape
 obtain ⟨ma, mc, rfl⟩ := hm.shape
 have HPl := Hid.mk_ hl
 have HPm := Hid.mk_ hm
 generalize limL 16 O (f4v ka3 kb3 kc3 kd3) (f4v ka7 kb7 kc7 kd7) 4 = V at *
 obtain ⟨N, hN⟩ : ∃ n, l.length = n := ⟨_, rfl⟩
 obtain ⟨M, hM⟩ : ∃ n, m.length = n := ⟨_, rfl⟩
 have HN := Hid.mk_ hN
 have HM := Hid.mk_ hM
 rw [hN] at PA AP SA EE HPl ⊢
 rw [hM] at PA EE HPm ⊢
 clear b0 b1 b2 b3 fw hl hm rr hN hM
 cases V with
 | false =>
  clear PA AP SA EE OF HN HM HPl HPm
  go_enter Tryz.func6, Tryz.ntmps6
  have kk := Keeps.refl w
  go_wp2_with fail
  refine (lalive21 _).mono ?_
  rintro e w1 ⟨rfl, hb1⟩
  have st : Steps _ w1 := hb1
  have B : Below w.heap.size w w1 := belowA st
  have kp : Keeps w w1 := Keeps.then_ keepsB st
  replace kk := kk.trans kp
  have os : Blk w1 (w.heap.size) 30 #[.bool ka1, .slice ka2 ka3 ka4, .bool ka5, .slice ka6 ka7 ka8, .bool kb1, .slice kb2 kb3 kb4, .bool kb5, .slice kb6 kb7 kb8, .bool kc1, .slice kc2 kc3 kc4, .bool kc5, .slice kc6 kc7 kc8, .bool kd1, .slice kd2 kd3 kd4, .bool kd5, .slice kd6 kd7 kd8] := Blk.stepsK st
  clear kp
  clear st
  go_wp2_with (first
   | (
     (with_reducible show wpList _ _ _ (⟨some 23, _, _, _, _, _⟩ :: _) _ _)
     refine load_big rfl 30 (.tmp 4) rfl (w.heap.size) rfl 30 #[.bool ka1, .slice ka2 ka3 ka4, .bool ka5, .slice ka6 ka7 ka8, .bool kb1, .slice kb2 kb3 kb4, .bool kb5, .slice kb6 kb7 kb8, .bool kc1, .slice kc2 kc3 kc4, .bool kc5, .slice kc6 kc7 kc8, .bool kd1, .slice kd2 kd3 kd4, .bool kd5, .slice kd6 kd7 kd8] _ ownK Tryz.underlying30 rfl (by kernel_rfl) ?_
     skip)
   )
  refine (VA _ (kk.trans keepsB)).mono ?_
  rintro e w2 ⟨rfl, hb2⟩
  have st : Steps _ w2 := hb2
  have sk : Below w1.heap.size w1 w2 := belowA st
  replace B := below_steps B (Nat.le_refl _) sk
  replace os := os.steps sk
  replace kk := kk.then_ sk
  clear st sk
  go_wp2_with fail
  refine bodyPost_ret (by simp [results, Tryz.results6, go_sem, ]; rfl) rfl ?_
  exact ⟨rfl, belowB⟩
 | true =>
  replace PA := fun h1 h2 => PA h1 h2 rfl
  replace AP := AP rfl
  replace SA := SA rfl
  rcases (show 12 < N ∨ (¬ 12 < N ∧ 12 < M) ∨ (¬ 12 < N ∧ ¬ 12 < M) by omega) with g1 | ⟨g1, g2⟩ | ⟨g1, g2⟩
  ·
   clear PA AP SA EE OF HN HM HPl HPm
   have hlt : decide ((12 : Int) < (N : Int)) = true := decide_eq_true (by omega)
   go_enter Tryz.func6, Tryz.ntmps6
   have kk := Keeps.refl w
   go_wp2_with fail
   refine (lalive21 _).mono ?_
   rintro e w1 ⟨rfl, hb1⟩
   have st : Steps _ w1 := hb1
   have B : Below w.heap.size w w1 := belowA st
   have kp : Keeps w w1 := Keeps.then_ keepsB st
   replace kk := kk.trans kp
   have os : Blk w1 (w.heap.size) 30 #[.bool ka1, .slice ka2 ka3 ka4, .bool ka5, .slice ka6 ka7 ka8, .bool kb1, .slice kb2 kb3 kb4, .bool kb5, .slice kb6 kb7 kb8, .bool kc1, .slice kc2 kc3 kc4, .bool kc5, .slice kc6 kc7 kc8, .bool kd1, .slice kd2 kd3 kd4, .bool kd5, .slice kd6 kd7 kd8] := Blk.stepsK st
   clear kp
   clear st
   go_wp2_with (first
    | (
      (with_reducible show wpList _ _ _ (⟨some 23, _, _, _, _, _⟩ :: _) _ _)
      refine load_big rfl 30 (.tmp 4) rfl (w.heap.size) rfl 30 #[.bool ka1, .slice ka2 ka3 ka4, .bool ka5, .slice ka6 ka7 ka8, .bool kb1, .slice kb2 kb3 kb4, .bool kb5, .slice kb6 kb7 kb8, .bool kc1, .slice kc2 kc3 kc4, .bool kc5, .slice kc6 kc7 kc8, .bool kd1, .slice kd2 kd3 kd4, .bool kd5, .slice kd6 kd7 kd8] _ ownK Tryz.underlying30 rfl (by kernel_rfl) ?_
      skip)
    )
   refine (VA _ (kk.trans keepsB)).mono ?_
   rintro e w2 ⟨rfl, hb2⟩
   have st : Steps _ w2 := hb2
   have sk : Below w1.heap.size w1 w2 := belowA st
   replace B := below_steps B (Nat.le_refl _) sk
   replace os := os.steps sk
   replace kk := kk.then_ sk
   clear st sk
   go_wp2_with fail
   refine bodyPost_ret (by simp [results, Tryz.results6, go_sem, ]; rfl) rfl ?_
   exact ⟨rfl, belowB⟩
  ·
   clear PA AP SA EE OF HN HM HPl HPm
   have hlt : decide ((12 : Int) < (N : Int)) = false := decide_eq_false (by omega)
   have hlu : decide ((12 : Int) < (M : Int)) = true := decide_eq_true (by omega)
   go_enter Tryz.func6, Tryz.ntmps6
   have kk := Keeps.refl w
   go_wp2_with fail
   refine (lalive21 _).mono ?_
   rintro e w1 ⟨rfl, hb1⟩
   have st : Steps _ w1 := hb1
   have B : Below w.heap.size w w1 := belowA st
   have kp : Keeps w w1 := Keeps.then_ keepsB st
   replace kk := kk.trans kp
   have os : Blk w1 (w.heap.size) 30 #[.bool ka1, .slice ka2 ka3 ka4, .bool ka5, .slice ka6 ka7 ka8, .bool kb1, .slice kb2 kb3 kb4, .bool kb5, .slice kb6 kb7 kb8, .bool kc1, .slice kc2 kc3 kc4, .bool kc5, .slice kc6 kc7 kc8, .bool kd1, .slice kd2 kd3 kd4, .bool kd5, .slice kd6 kd7 kd8] := Blk.stepsK st
   clear kp
   clear st
   go_wp2_with (first
    | (
      (with_reducible show wpList _ _ _ (⟨some 23, _, _, _, _, _⟩ :: _) _ _)
      refine load_big rfl 30 (.tmp 4) rfl (w.heap.size) rfl 30 #[.bool ka1, .slice ka2 ka3 ka4, .bool ka5, .slice ka6 ka7 ka8, .bool kb1, .slice kb2 kb3 kb4, .bool kb5, .slice kb6 kb7 kb8, .bool kc1, .slice kc2 kc3 kc4, .bool kc5, .slice kc6 kc7 kc8, .bool kd1, .slice kd2 kd3 kd4, .bool kd5, .slice kd6 kd7 kd8] _ ownK Tryz.underlying30 rfl (by kernel_rfl) ?_
      skip)
    )
   refine (VA _ (kk.trans keepsB)).mono ?_
   rintro e w2 ⟨rfl, hb2⟩
   have st : Steps _ w2 := hb2
   have sk : Below w1.heap.size w1 w2 := belowA st
   replace B := below_steps B (Nat.le_refl _) sk
   replace os := os.steps sk
   replace kk := kk.then_ sk
   clear st sk
   go_wp2_with fail
   refine bodyPost_ret (by simp [results, Tryz.results6, go_sem, ]; rfl) rfl ?_
   exact ⟨rfl, belowB⟩
  ·
   have hlt : decide ((12 : Int) < (N : Int)) = false := decide_eq_false (by omega)
   have hlu : decide ((12 : Int) < (M : Int)) = false := decide_eq_false (by omega)
   replace PA := PA (by omega) (by omega)
   rcases EE (by omega) (by omega) with eE | eE | ⟨eE, cl, cm, r0, r1⟩
   ·
    have P0 : ∀ w', Steps w w' → Calls Tryz.prog 23 #[.agg #[.bool ka1, .slice ka2 ka3 ka4, .bool ka5, .slice ka6 ka7 ka8, .bool kb1, .slice kb2 kb3 kb4, .bool kb5, .slice kb6 kb7 kb8, .bool kc1, .slice kc2 kc3 kc4, .bool kc5, .slice kc6 kc7 kc8, .bool kd1, .slice kd2 kd3 kd4, .bool kd5, .slice kd6 kd7 kd8], .slice la N lc, .slice ma M mc, .int .i64 rad] w' fun e w2 => ∃ a c, e = .returned (.tuple #[.slice a 0 c, .int .i64 8]) ∧ Steps w' w2 := fun w' s => by
     have := PA w' s
     rw [eE] at this
     refine this.mono fun e w2 h => ?_
     obtain ⟨u, h1, h2, h3⟩ := h
     obtain ⟨a, c, rfl⟩ := h2.shape
     exact ⟨a, c, h1, h3⟩
    clear PA AP SA EE OF HN HM HPl HPm eE
    go_enter Tryz.func6, Tryz.ntmps6
    have kk := Keeps.refl w
    go_wp2_with fail
    refine (lalive21 _).mono ?_
    rintro e w1 ⟨rfl, hb1⟩
    have st : Steps _ w1 := hb1
    have B : Below w.heap.size w w1 := belowA st
    have kp : Keeps w w1 := Keeps.then_ keepsB st
    replace kk := kk.trans kp
    have os : Blk w1 (w.heap.size) 30 #[.bool ka1, .slice ka2 ka3 ka4, .bool ka5, .slice ka6 ka7 ka8, .bool kb1, .slice kb2 kb3 kb4, .bool kb5, .slice kb6 kb7 kb8, .bool kc1, .slice kc2 kc3 kc4, .bool kc5, .slice kc6 kc7 kc8, .bool kd1, .slice kd2 kd3 kd4, .bool kd5, .slice kd6 kd7 kd8] := Blk.stepsK st
    clear kp
    clear st
    go_wp2_with (first
     | (
       (with_reducible show wpList _ _ _ (⟨some 23, _, _, _, _, _⟩ :: _) _ _)
       refine load_big rfl 30 (.tmp 4) rfl (w.heap.size) rfl 30 #[.bool ka1, .slice ka2 ka3 ka4, .bool ka5, .slice ka6 ka7 ka8, .bool kb1, .slice kb2 kb3 kb4, .bool kb5, .slice kb6 kb7 kb8, .bool kc1, .slice kc2 kc3 kc4, .bool kc5, .slice kc6 kc7 kc8, .bool kd1, .slice kd2 kd3 kd4, .bool kd5, .slice kd6 kd7 kd8] _ ownK Tryz.underlying30 rfl (by kernel_rfl) ?_
       skip)
     )
    refine (VA _ (kk.trans keepsB)).mono ?_
    rintro e w2 ⟨rfl, hb2⟩
    have st : Steps _ w2 := hb2
    have sk : Below w1.heap.size w1 w2 := belowA st
    replace B := below_steps B (Nat.le_refl _) sk
    replace os := os.steps sk
    replace kk := kk.then_ sk
    clear st sk
    go_wp2_with (first
     | (
       (with_reducible show wpList _ _ _ (⟨some 42, _, _, _, _, _⟩ :: _) _ _)
       refine load_big rfl 30 (.tmp 4) rfl (w.heap.size) rfl 30 #[.bool ka1, .slice ka2 ka3 ka4, .bool ka5, .slice ka6 ka7 ka8, .bool kb1, .slice kb2 kb3 kb4, .bool kb5, .slice kb6 kb7 kb8, .bool kc1, .slice kc2 kc3 kc4, .bool kc5, .slice kc6 kc7 kc8, .bool kd1, .slice kd2 kd3 kd4, .bool kd5, .slice kd6 kd7 kd8] _ ownK Tryz.underlying30 rfl (by kernel_rfl) ?_
       skip)
     )
    refine (P0 _ belowB).mono ?_
    rintro e w3 ⟨ua, uc, rfl, hb3⟩
    have st : Steps _ w3 := hb3
    have sk : Below w2.heap.size w2 w3 := belowA st
    replace B := below_steps B (Nat.le_refl _) sk
    replace os := os.steps sk
    replace kk := kk.then_ sk
    clear st sk
    go_wp2_with fail
    refine bodyPost_ret (by simp [results, Tryz.results6, go_sem, ]; rfl) rfl ?_
    exact ⟨rfl, belowB⟩
   ·
    have P0 : ∀ w', Steps w w' → Calls Tryz.prog 23 #[.agg #[.bool ka1, .slice ka2 ka3 ka4, .bool ka5, .slice ka6 ka7 ka8, .bool kb1, .slice kb2 kb3 kb4, .bool kb5, .slice kb6 kb7 kb8, .bool kc1, .slice kc2 kc3 kc4, .bool kc5, .slice kc6 kc7 kc8, .bool kd1, .slice kd2 kd3 kd4, .bool kd5, .slice kd6 kd7 kd8], .slice la N lc, .slice ma M mc, .int .i64 rad] w' fun e w2 => ∃ a c, e = .returned (.tuple #[.slice a 0 c, .int .i64 2]) ∧ Steps w' w2 := fun w' s => by
     have := PA w' s
     rw [eE] at this
     refine this.mono fun e w2 h => ?_
     obtain ⟨u, h1, h2, h3⟩ := h
     obtain ⟨a, c, rfl⟩ := h2.shape
     exact ⟨a, c, h1, h3⟩
    clear PA AP SA EE OF HN HM HPl HPm eE
    go_enter Tryz.func6, Tryz.ntmps6
    have kk := Keeps.refl w
    go_wp2_with fail
    refine (lalive21 _).mono ?_
    rintro e w1 ⟨rfl, hb1⟩
    have st : Steps _ w1 := hb1
    have B : Below w.heap.size w w1 := belowA st
    have kp : Keeps w w1 := Keeps.then_ keepsB st
    replace kk := kk.trans kp
    have os : Blk w1 (w.heap.size) 30 #[.bool ka1, .slice ka2 ka3 ka4, .bool ka5, .slice ka6 ka7 ka8, .bool kb1, .slice kb2 kb3 kb4, .bool kb5, .slice kb6 kb7 kb8, .bool kc1, .slice kc2 kc3 kc4, .bool kc5, .slice kc6 kc7 kc8, .bool kd1, .slice kd2 kd3 kd4, .bool kd5, .slice kd6 kd7 kd8] := Blk.stepsK st
    clear kp
    clear st
    go_wp2_with (first
     | (
       (with_reducible show wpList _ _ _ (⟨some 23, _, _, _, _, _⟩ :: _) _ _)
       refine load_big rfl 30 (.tmp 4) rfl (w.heap.size) rfl 30 #[.bool ka1, .slice ka2 ka3 ka4, .bool ka5, .slice ka6 ka7 ka8, .bool kb1, .slice kb2 kb3 kb4, .bool kb5, .slice kb6 kb7 kb8, .bool kc1, .slice kc2 kc3 kc4, .bool kc5, .slice kc6 kc7 kc8, .bool kd1, .slice kd2 kd3 kd4, .bool kd5, .slice kd6 kd7 kd8] _ ownK Tryz.underlying30 rfl (by kernel_rfl) ?_
       skip)
     )
    refine (VA _ (kk.trans keepsB)).mono ?_
    rintro e w2 ⟨rfl, hb2⟩
    have st : Steps _ w2 := hb2
    have sk : Below w1.heap.size w1 w2 := belowA st
    replace B := below_steps B (Nat.le_refl _) sk
    replace os := os.steps sk
    replace kk := kk.then_ sk
    clear st sk
    go_wp2_with (first
     | (
       (with_reducible show wpList _ _ _ (⟨some 42, _, _, _, _, _⟩ :: _) _ _)
       refine load_big rfl 30 (.tmp 4) rfl (w.heap.size) rfl 30 #[.bool ka1, .slice ka2 ka3 ka4, .bool ka5, .slice ka6 ka7 ka8, .bool kb1, .slice kb2 kb3 kb4, .bool kb5, .slice kb6 kb7 kb8, .bool kc1, .slice kc2 kc3 kc4, .bool kc5, .slice kc6 kc7 kc8, .bool kd1, .slice kd2 kd3 kd4, .bool kd5, .slice kd6 kd7 kd8] _ ownK Tryz.underlying30 rfl (by kernel_rfl) ?_
       skip)
     )
    refine (P0 _ belowB).mono ?_
    rintro e w3 ⟨ua, uc, rfl, hb3⟩
    have st : Steps _ w3 := hb3
    have sk : Below w2.heap.size w2 w3 := belowA st
    replace B := below_steps B (Nat.le_refl _) sk
    replace os := os.steps sk
    replace kk := kk.then_ sk
    clear st sk
    go_wp2_with fail
    refine bodyPost_ret (by simp [results, Tryz.results6, go_sem, ]; rfl) rfl ?_
    exact ⟨rfl, belowB⟩
   ·
    have ht := SA cl
    replace AP := AP cl
    have zr : sz (rad : Rat) 2 := sz_coord ⟨by omega, by omega⟩
    have NS : ∀ i, _ := fun i => near_spec (apX (fun i => (O i).getD 0) (pt l i)) (apY (fun i => (O i).getD 0) (pt l i)) (rad : Rat) m
    rw [HM.out] at NS
    have PG : ∀ i, i < N → (partners (fun i => (O i).getD 0) (rad : Rat) l m N).getD i 0 = (prtP (apX (fun i => (O i).getD 0) (pt l i)) (apY (fun i => (O i).getD 0) (pt l i)) (rad : Rat) m M).1 := fun i hi => by
     rw [partners_get (fun i => (O i).getD 0) (rad : Rat) l m N i hi, HM.out]
    have PLN := partners_len (fun i => (O i).getD 0) (rad : Rat) l m N
    have DI : ∀ i, i < N → ∀ k, k < M → ∀ (w' : World) (u v : Value), FR w' u (apX (fun i => (O i).getD 0) (pt l i)) → FR w' v (apY (fun i => (O i).getD 0) (pt l i)) → Calls Tryz.prog 30 #[u, v, .agg #[.int .i64 (pt m k).1, .int .i64 (pt m k).2]] w' fun e w2 => ∃ d, e = .returned d ∧ FR w2 d (apartQ (apX (fun i => (O i).getD 0) (pt l i)) (apY (fun i => (O i).getD 0) (pt l i)) (pt m k)) ∧ Steps w' w2 := fun i hi k hk w' u v hu hv => prapart (pt m k).1 (pt m k).2 w' hu hv ((ht i hi).1.mono (by omega)) ((ht i hi).2.mono (by omega)) (chk_okP cm k (by have := HM.out; omega))
    have CM : ∀ i, i < N → ∀ k, k < M → ∀ (w' : World) (u v : Value), FR w' u (apartQ (apX (fun i => (O i).getD 0) (pt l i)) (apY (fun i => (O i).getD 0) (pt l i)) (pt m k)) → FR w' v (prtP (apX (fun i => (O i).getD 0) (pt l i)) (apY (fun i => (O i).getD 0) (pt l i)) (rad : Rat) m M).2 → Calls Tryz.prog 21 #[u, v] w' fun e w2 => e = .returned (.tuple #[.int .i64 (cmpQ (apartQ (apX (fun i => (O i).getD 0) (pt l i)) (apY (fun i => (O i).getD 0) (pt l i)) (pt m k)) (prtP (apX (fun i => (O i).getD 0) (pt l i)) (apY (fun i => (O i).getD 0) (pt l i)) (rad : Rat) m M).2), .int .i64 0]) ∧ Steps w' w2 := fun i hi k hk w' u v hu hv => fCmpQ w' hu hv (sz_apart (ht i hi).1 (ht i hi).2 (chk_okP cm k (by have := HM.out; omega))) (prtP_sz (ht i hi).1 (ht i hi).2 zr cm M (by have := HM.out; omega)) (by omega)
    have CR : ∀ i, i < N → ∀ (w' : World) (u v : Value), FR w' u (prtP (apX (fun i => (O i).getD 0) (pt l i)) (apY (fun i => (O i).getD 0) (pt l i)) (rad : Rat) m M).2 → FR w' v (rad : Rat) → Calls Tryz.prog 21 #[u, v] w' fun e w2 => e = .returned (.tuple #[.int .i64 (cmpQ (prtP (apX (fun i => (O i).getD 0) (pt l i)) (apY (fun i => (O i).getD 0) (pt l i)) (rad : Rat) m M).2 (rad : Rat)), .int .i64 0]) ∧ Steps w' w2 := fun i hi w' u v hu hv => fCmpQ w' hu hv (prtP_sz (ht i hi).1 (ht i hi).2 zr cm M (by have := HM.out; omega)) zr (by omega)
    have P0 : ∀ w', Steps w w' → Calls Tryz.prog 23 #[.agg #[.bool ka1, .slice ka2 ka3 ka4, .bool ka5, .slice ka6 ka7 ka8, .bool kb1, .slice kb2 kb3 kb4, .bool kb5, .slice kb6 kb7 kb8, .bool kc1, .slice kc2 kc3 kc4, .bool kc5, .slice kc6 kc7 kc8, .bool kd1, .slice kd2 kd3 kd4, .bool kd5, .slice kd6 kd7 kd8], .slice la N lc, .slice ma M mc, .int .i64 rad] w' fun e w2 => ∃ a c, e = .returned (.tuple #[.slice a N c, .int .i64 0]) ∧ IntsR w2 (.slice a N c) (partners (fun i => (O i).getD 0) (rad : Rat) l m N) ∧ Steps w' w2 := fun w' s => by
     have := PA w' s
     rw [eE] at this
     refine this.mono fun e w2 h => ?_
     obtain ⟨u, h1, h2, h3⟩ := h
     obtain ⟨a, c, rfl⟩ := h2.shape
     have e9 : (pairsR 0 (partners (fun i => (O i).getD 0) (rad : Rat) l m N)).length = N := PLN
     rw [e9] at h1 h2
     exact ⟨a, c, h1, h2, h3⟩
    obtain ⟨PQ, hPQ⟩ : ∃ f, partners (fun i => (O i).getD 0) (rad : Rat) l m N = f := ⟨_, rfl⟩
    obtain ⟨XX, hXX⟩ : ∃ f : Nat → Rat, ∀ i, apX (fun i => (O i).getD 0) (pt l i) = f i := ⟨_, fun _ => rfl⟩
    obtain ⟨YY, hYY⟩ : ∃ f : Nat → Rat, ∀ i, apY (fun i => (O i).getD 0) (pt l i) = f i := ⟨_, fun _ => rfl⟩
    simp only [hXX, hYY, hPQ] at AP DI CM CR NS P0 PG PLN
    obtain ⟨DD, hDD⟩ : ∃ f : Nat → Nat → Rat, ∀ i k, apartQ (XX i) (YY i) (pt m k) = f i k := ⟨_, fun _ _ => rfl⟩
    obtain ⟨PP, hPP⟩ : ∃ f : Nat → Int × Rat, ∀ i, prtP (XX i) (YY i) (rad : Rat) m M = f i := ⟨_, fun _ => rfl⟩
    simp only [hDD, hPP] at DI CM CR NS PG
    generalize (rad : Rat) = RQ at OF CR NS
    have NS' := Hid.mk_ NS
    have PG' := Hid.mk_ PG
    have PN' := Hid.mk_ PLN
    clear PA SA EE eE cl cm r0 r1 ht zr hPQ hXX hYY hDD hPP NS PG PLN
    go_enter Tryz.func6, Tryz.ntmps6
    have kk := Keeps.refl w
    go_wp2_with fail
    refine (lalive21 _).mono ?_
    rintro e w1 ⟨rfl, hb1⟩
    have st : Steps _ w1 := hb1
    have B : Below w.heap.size w w1 := belowA st
    have kp : Keeps w w1 := Keeps.then_ keepsB st
    replace kk := kk.trans kp
    have os : Blk w1 (w.heap.size) 30 #[.bool ka1, .slice ka2 ka3 ka4, .bool ka5, .slice ka6 ka7 ka8, .bool kb1, .slice kb2 kb3 kb4, .bool kb5, .slice kb6 kb7 kb8, .bool kc1, .slice kc2 kc3 kc4, .bool kc5, .slice kc6 kc7 kc8, .bool kd1, .slice kd2 kd3 kd4, .bool kd5, .slice kd6 kd7 kd8] := Blk.stepsK st
    clear kp
    clear st
    go_wp2_with (first
     | (
       (with_reducible show wpList _ _ _ (⟨some 23, _, _, _, _, _⟩ :: _) _ _)
       refine load_big rfl 30 (.tmp 4) rfl (w.heap.size) rfl 30 #[.bool ka1, .slice ka2 ka3 ka4, .bool ka5, .slice ka6 ka7 ka8, .bool kb1, .slice kb2 kb3 kb4, .bool kb5, .slice kb6 kb7 kb8, .bool kc1, .slice kc2 kc3 kc4, .bool kc5, .slice kc6 kc7 kc8, .bool kd1, .slice kd2 kd3 kd4, .bool kd5, .slice kd6 kd7 kd8] _ ownK Tryz.underlying30 rfl (by kernel_rfl) ?_
       skip)
     )
    refine (VA _ (kk.trans keepsB)).mono ?_
    rintro e w2 ⟨rfl, hb2⟩
    have st : Steps _ w2 := hb2
    have sk : Below w1.heap.size w1 w2 := belowA st
    replace B := below_steps B (Nat.le_refl _) sk
    replace os := os.steps sk
    replace kk := kk.then_ sk
    clear st sk
    go_wp2_with (first
     | (
       (with_reducible show wpList _ _ _ (⟨some 42, _, _, _, _, _⟩ :: _) _ _)
       refine load_big rfl 30 (.tmp 4) rfl (w.heap.size) rfl 30 #[.bool ka1, .slice ka2 ka3 ka4, .bool ka5, .slice ka6 ka7 ka8, .bool kb1, .slice kb2 kb3 kb4, .bool kb5, .slice kb6 kb7 kb8, .bool kc1, .slice kc2 kc3 kc4, .bool kc5, .slice kc6 kc7 kc8, .bool kd1, .slice kd2 kd3 kd4, .bool kd5, .slice kd6 kd7 kd8] _ ownK Tryz.underlying30 rfl (by kernel_rfl) ?_
       skip)
     )
    refine (P0 _ belowB).mono ?_
    rintro e w3 ⟨ua, uc, rfl, hvu, hb3⟩
    have st : Steps _ w3 := hb3
    have sk : Below w2.heap.size w2 w3 := belowA st
    replace B := below_steps B (Nat.le_refl _) sk
    replace os := os.steps sk
    replace kk := kk.then_ sk
    clear st sk
    have HI := Hid.mk_ hvu
    clear hvu
    have BP : Below w.heap.size w w3 := B
    have zs0 : w.heap.size < w3.heap.size := os.lt
    have AP2 : ∀ i, i < N → ∀ w', Steps w3 w' → _ := fun i hi w' s => AP i hi w' (below_steps BP (Nat.le_refl _) s)
    have HL := Hid.mk_ (HPl.out.steps BP)
    have HMm := Hid.mk_ (HPm.out.steps BP)
    clear B kk AP HPl HPm P0
    have kk := Keeps.refl w3
    have B := Below.refl w3.heap.size w3
    go_wp2_with fail
    go_loopw [12] (fun sl0 wr => ∃ (i : Nat), i ≤ N ∧ sl0 = .int .i64 i ∧ Blk wr (w.heap.size) 30 #[.bool ka1, .slice ka2 ka3 ka4, .bool ka5, .slice ka6 ka7 ka8, .bool kb1, .slice kb2 kb3 kb4, .bool kb5, .slice kb6 kb7 kb8, .bool kc1, .slice kc2 kc3 kc4, .bool kc5, .slice kc6 kc7 kc8, .bool kd1, .slice kd2 kd3 kd4, .bool kd5, .slice kd6 kd7 kd8] ∧ Below w3.heap.size w3 wr ∧ Keeps w3 wr) (fun sl0 _ => N - (intOf sl0).toNat)
    case atStart => exact ⟨0, by omega, rfl, ownK, belowB, keepsB⟩
    case round =>
     rename World => wo
     clear os
     try clear B
     try clear kk
     obtain ⟨i, hi, rfl, os, B, kk⟩ := hrel
     obtain ⟨cs0, cs1, cs2, cs3, cs4, cs5, cs6, cs7, cs8, cs9, cs10, cs11, cs12, cs13, cs14, cs15⟩ := os.r15
     have ls := os.lt
     rcases Nat.lt_or_ge i N with i4 | i4
     ·
      have hltN : decide ((i : Int) < (N : Int)) = true := decide_eq_true (by omega)
      obtain ⟨b, of, rfl, hbl, hx0, hy0⟩ := HL.out.at (a := i) (by have := HN.out; omega)
      obtain ⟨b3, of3, rfl, hb3, hp0⟩ := HI.out.at' (t := i) (by have := PN'.out; omega)
      rw [PG'.out i i4] at hp0
      have ap := AP2 i i4
      have di := DI i i4
      have cmp := CM i i4
      have cr := CR i i4
      obtain ⟨⟨n1, n2⟩, n3, n4, n5, n6⟩ := NS'.out i
      obtain ⟨pk, hpk⟩ : ∃ z, (PP i).1 = z := ⟨_, rfl⟩
      obtain ⟨LS, hLS⟩ : ∃ z, (PP i).2 = z := ⟨_, rfl⟩
      rw [hpk] at hp0 n1 n2 n3 n4 n6
      rw [hLS] at cmp cr n3 n4 n5 n6
      have n7 := Hid.mk_ n6
      clear hpk hLS n6
      have dl : decide (pk < -1) = false := decide_eq_false (by omega)
      have dm : decide ((M : Int) ≤ pk) = false := decide_eq_false (by omega)
      go_wp2_with fail
      have zs_10 : w.heap.size < wo.heap.size := os.lt
      have zz10 := B.size
      go_upto_region 12 with fail
      refine Reg.wp_chain_n (fun N0 D v W => Below w3.heap.size w3 W ∧ Keeps wo W ∧ N0 ≤ W.heap.size ∧ Blk W (w.heap.size) 30 #[.bool ka1, .slice ka2 ka3 ka4, .bool ka5, .slice ka6 ka7 ka8, .bool kb1, .slice kb2 kb3 kb4, .bool kb5, .slice kb6 kb7 kb8, .bool kc1, .slice kc2 kc3 kc4, .bool kc5, .slice kc6 kc7 kc8, .bool kd1, .slice kd2 kd3 kd4, .bool kd5, .slice kd6 kd7 kd8] ∧ (D 10 = true → ∃ g : Nat, v 10 = .pointer (some ⟨g, 0, none⟩) ∧ N0 ≤ g ∧ g < W.heap.size ∧ (D 12 = false → Blk W g 28 #[.bool false, .slice none 0 0, .bool false, .slice none 0 0]) ∧ (D 12 = true → D 5 = true ∧ ∃ cs, tupAt 0 (v 5) = .agg cs ∧ Blk W g 28 cs)) ∧ (D 11 = true → ∃ g : Nat, v 11 = .pointer (some ⟨g, 0, none⟩) ∧ N0 ≤ g ∧ g < W.heap.size ∧ (D 13 = false → Blk W g 28 #[.bool false, .slice none 0 0, .bool false, .slice none 0 0]) ∧ (D 13 = true → D 5 = true ∧ ∃ cs, tupAt 1 (v 5) = .agg cs ∧ Blk W g 28 cs)) ∧ (D 10 = true → D 11 = true → v 10 ≠ v 11))
       (Reg.inl [5, 10, 11, 12, 13]) (Reg.gv [(5, IsFr2E 0), (10, IsPtr), (11, IsPtr)]) (gw [(5, GFr2E ((XX i)) ((YY i)) 0)]) (fun _ => Keeps) (fun _ _ => False) (Reg.pl [(12, [(5, some 82), (10, some 13)]), (13, [(5, some 82), (11, some 14)]), (15, [(5, some 82), (10, some 13), (11, some 14)])]) (Reg.pl [(10, [12]), (5, [12, 13]), (11, [13])])
       (by kernel_rfl) (by kernel_rfl) (by kernel_rfl) (Reg.gv_some _ (by intro p hp; simp only [List.mem_cons, List.not_mem_nil, or_false] at hp; rcases hp with rfl | rfl | rfl <;> first | exact ⟨_, rfl⟩ | exact ⟨_, 0, rfl⟩ | exact ⟨_, none, 0, 0, rfl⟩ | exact ⟨_, false, none, 0, 0, rfl⟩ | exact ⟨_, false, none, 0, 0, false, none, 0, 0, rfl⟩ | exact ⟨_, false, none, 0, 0, false, none, 0, 0, false, none, 0, 0, false, none, 0, 0, rfl⟩)) (fun N0 hN0 => ⟨fun v => ?_, fun D v v' W hv hj => ?_, fun D v k j W W' x _ _ _ _ hk hg => gw_keeps _ (by intro p hp; simp only [List.mem_cons, List.not_mem_nil, or_false] at hp; rcases hp with rfl <;> first | exact GFr.keeps | exact GFrE.keeps | exact GNu.keeps | exact GNuE.keeps | exact GLi.keeps | exact GFr2.keeps | exact GFr2E.keeps) hk hg, fun _ _ _ _ h => h.elim, fun ops' Q' hops hQ => ?_⟩)
      · exact ⟨belowB, keepsB, by first | with_reducible exact Nat.le_of_eq hN0.out | (simp only [World.size_drew]; with_reducible exact Nat.le_of_eq hN0.out), ownK, (fun h => Bool.noConfusion h), (fun h => Bool.noConfusion h), (fun h => Bool.noConfusion h)⟩
      ·
       obtain ⟨j0, jk, jn, b_s, a_10, a_11, q_10_11⟩ := hj
       exact ⟨j0, jk, jn, b_s, fun h => by obtain ⟨g, e1, e2, e3, e4, e5⟩ := a_10 h; exact ⟨g, (hv 10 h) ▸ e1, e2, e3, e4, fun h => by obtain ⟨d, cs, e, hb⟩ := e5 h; exact ⟨d, cs, (hv 5 d) ▸ e, hb⟩⟩, fun h => by obtain ⟨g, e1, e2, e3, e4, e5⟩ := a_11 h; exact ⟨g, (hv 11 h) ▸ e1, e2, e3, e4, fun h => by obtain ⟨d, cs, e, hb⟩ := e5 h; exact ⟨d, cs, (hv 5 d) ▸ e, hb⟩⟩, fun h h' => (hv 10 h) ▸ (hv 11 h') ▸ q_10_11 h h'⟩
      have eN := hN0.out
      try simp only [World.size_alloc, World.size_setCell, World.size_drew, World.heap_drewN] at eN
      have i_s : w.heap.size < N0 := by first | omega | (have h := os.lt; omega)
      have iw : w3.heap.size ≤ N0 := by first | omega | (have h := B.size; omega)
      clear cs0 cs1 cs2 cs3 cs4 cs5 cs6 cs7 cs8 cs9 cs10 cs11 cs12 cs13 cs14 cs15 ls
      clear hN0
      apply Reg.RP rfl rfl rfl 77 rfl rfl
      ·
       intro D v' W' hc hj hf K hK
       obtain ⟨j0, jk, jn, b_s, a_10, a_11, q_10_11⟩ := hj
       have c0 : W'.cell? ⟨w.heap.size, 0, none⟩ = some (.bool ka1) := b_s.c 0 rfl
       have c1 : W'.cell? ⟨w.heap.size, 1, none⟩ = some (.slice ka2 ka3 ka4) := b_s.c 1 rfl
       have c2 : W'.cell? ⟨w.heap.size, 2, none⟩ = some (.bool ka5) := b_s.c 2 rfl
       have c3 : W'.cell? ⟨w.heap.size, 3, none⟩ = some (.slice ka6 ka7 ka8) := b_s.c 3 rfl
       have c4 : W'.cell? ⟨w.heap.size, 4, none⟩ = some (.bool kb1) := b_s.c 4 rfl
       have c5 : W'.cell? ⟨w.heap.size, 5, none⟩ = some (.slice kb2 kb3 kb4) := b_s.c 5 rfl
       have c6 : W'.cell? ⟨w.heap.size, 6, none⟩ = some (.bool kb5) := b_s.c 6 rfl
       have c7 : W'.cell? ⟨w.heap.size, 7, none⟩ = some (.slice kb6 kb7 kb8) := b_s.c 7 rfl
       have c8 : W'.cell? ⟨w.heap.size, 8, none⟩ = some (.bool kc1) := b_s.c 8 rfl
       have c9 : W'.cell? ⟨w.heap.size, 9, none⟩ = some (.slice kc2 kc3 kc4) := b_s.c 9 rfl
       have c10 : W'.cell? ⟨w.heap.size, 10, none⟩ = some (.bool kc5) := b_s.c 10 rfl
       have c11 : W'.cell? ⟨w.heap.size, 11, none⟩ = some (.slice kc6 kc7 kc8) := b_s.c 11 rfl
       have c12 : W'.cell? ⟨w.heap.size, 12, none⟩ = some (.bool kd1) := b_s.c 12 rfl
       have c13 : W'.cell? ⟨w.heap.size, 13, none⟩ = some (.slice kd2 kd3 kd4) := b_s.c 13 rfl
       have c14 : W'.cell? ⟨w.heap.size, 14, none⟩ = some (.bool kd5) := b_s.c 14 rfl
       have c15 : W'.cell? ⟨w.heap.size, 15, none⟩ = some (.slice kd6 kd7 kd8) := b_s.c 15 rfl
       go_step
       exact hK.out
      · rfl
      apply Reg.RP rfl rfl rfl 78 rfl rfl
      ·
       intro D v' W' hc hj hf K hK
       go_step
       exact hK.out
      · rfl
      apply Reg.RP rfl rfl rfl 79 rfl rfl
      ·
       intro D v' W' hc hj hf K hK
       go_step
       exact hK.out
      · rfl
      apply Reg.RP rfl rfl rfl 80 rfl rfl
      ·
       intro D v' W' hc hj hf K hK
       go_step
       exact hK.out
      · rfl
      apply Reg.RP rfl rfl rfl 81 rfl rfl
      ·
       intro D v' W' hc hj hf K hK
       obtain ⟨j0, jk, jn, b_s, a_10, a_11, q_10_11⟩ := hj
       have x0_ : W'.cell? ⟨b, of + i * 2, none⟩ = some (.int .i64 (pt l i).1) := (j0.cell (p := ⟨b, _, none⟩) hbl).trans hx0
       have x1_ : W'.cell? ⟨b, of + i * 2 + 1, none⟩ = some (.int .i64 (pt l i).2) := (j0.cell (p := ⟨b, _, none⟩) hbl).trans hy0
       go_step
       exact hK.out
      · rfl
      refine Reg.RC_call rfl (tlt rfl) rfl (fun D v' W' hc hj hf K hK => ?_) ?_
      ·
       obtain ⟨j0, jk, jn, b_s, a_10, a_11, q_10_11⟩ := hj
       clear hf
       go_step
       refine (ap W' j0).mono ?_
       rintro e W2 ⟨u, u', rfl, hu, hu', hs⟩
       obtain ⟨xa1, xa2, xa3, xa4, xa5, xa6, xa7, xa8, rfl⟩ := hu.shape
       obtain ⟨xb1, xb2, xb3, xb4, xb5, xb6, xb7, xb8, rfl⟩ := hu'.shape
       exact hK.out _ W2 (Keeps.steps hs) ⟨jst j0 hs, jk.then_ hs, jsz jn hs, b_s.steps hs, fun h => by obtain ⟨g, e1, e2, e3, e4, e5⟩ := a_10 h; exact ⟨g, e1, e2, Nat.lt_of_lt_of_le e3 (hs).size, fun h => (e4 h).steps hs, fun h => Bool.noConfusion ((hc.2 12 (by decide)).symm.trans h)⟩, fun h => by obtain ⟨g, e1, e2, e3, e4, e5⟩ := a_11 h; exact ⟨g, e1, e2, Nat.lt_of_lt_of_le e3 (hs).size, fun h => (e4 h).steps hs, fun h => Bool.noConfusion ((hc.2 13 (by decide)).symm.trans h)⟩, q_10_11⟩ ⟨_, _, rfl, hu, hu'⟩ ⟨_, _, _, _, _, _, _, _, _, _, _, _, _, _, _, _, rfl⟩
      rintro _ ⟨xa1, xa2, xa3, xa4, xa5, xa6, xa7, xa8, xb1, xb2, xb3, xb4, xb5, xb6, xb7, xb8, rfl⟩
      refine Reg.RC_at (b := ⟨#[_,_,_,_,_,_,_,_,_,_,_,_,_,_,_,_,_,_,_,_,_,_,_,_,_,_,_,_,_,_,_,_,_,_,_,_,_,_,_,_,_,_,_,_,_,_,_,_,_,_,_,_,_,_,_,_,_,_,_,_,_,_,_,_,_,_,_,_,_,_,_,_,_,_,_,_,_,_,_,_,_,_,_,_,_,_,_,_,_,_,_,_,_,_,_,_,_,_,_,_,_,_,_,_,_,_,_,_,_,_,_,_,_,_,_,_,_,_,_,_,_,_,_,_,_,_,_,_,_,_,_,_,_,_,_,_,_,_,_,_,_,_,_,_,_,_,_,_,_,_,_,_,_,_,_,_,_,_,_,_,_,_,_,_,_,_,_,_,_,_,_,_,_,_,_,_,_,_,_,_,_,_], _⟩) rfl ?_
      apply Reg.RP rfl rfl rfl 76 rfl rfl
      ·
       intro D v' W' hc hj hf K hK
       go_step
       exact hK.out
      · rfl
      apply Reg.RP rfl rfl rfl 83 rfl rfl
      ·
       intro D v' W' hc hj hf K hK
       go_step
       exact hK.out
      · rfl
      apply Reg.RP rfl rfl rfl 84 rfl rfl
      ·
       intro D v' W' hc hj hf K hK
       go_step
       exact hK.out
      · rfl
      apply Reg.RP rfl rfl rfl 85 rfl rfl
      ·
       intro D v' W' hc hj hf K hK
       go_step
       exact hK.out
      · rfl
      refine Reg.RC_call rfl (tlt rfl) rfl (fun D v' W' hc hj hf K hK => ?_) ?_
      ·
       obtain ⟨j0, jk, jn, b_s, a_10, a_11, q_10_11⟩ := hj
       go_step
       have hs : ∀ o : Obj, Steps W' (W'.alloc o) := fun o => (Below.refl _ _).alloc (Nat.le_refl _) o
       exact hK.out _ _ (Keeps.steps (hs _)) ⟨jst j0 (hs _), jk.then_ (hs _), jsz jn (hs _), b_s.steps (hs _), fun _ => ⟨W'.heap.size, rfl, jn, by rw [World.size_alloc]; omega, fun _ => Blk.new _ _ _, fun h => Bool.noConfusion ((hc.2 12 (by decide)).symm.trans h)⟩, fun h => by obtain ⟨g, e1, e2, e3, e4, e5⟩ := a_11 h; exact ⟨g, e1, e2, Nat.lt_of_lt_of_le e3 ((hs _)).size, fun h => (e4 h).steps (hs _), fun h => by obtain ⟨d, cs, e, hb⟩ := e5 h; exact ⟨d, cs, e, hb.steps (hs _)⟩⟩, fun _ h' => by obtain ⟨g, e1, e2, e3, e4, e5⟩ := a_11 h'; exact fun e => Reg.ptr_ne e3 (e.trans e1)⟩ trivial ⟨_, rfl⟩
      rintro _ ⟨p13, rfl⟩
      refine Reg.RC_at (b := ⟨#[_,_,_,_,_,_,_,_,_,_,_,_,_,_,_,_,_,_,_,_,_,_,_,_,_,_,_,_,_,_,_,_,_,_,_,_,_,_,_,_,_,_,_,_,_,_,_,_,_,_,_,_,_,_,_,_,_,_,_,_,_,_,_,_,_,_,_,_,_,_,_,_,_,_,_,_,_,_,_,_,_,_,_,_,_,_,_,_,_,_,_,_,_,_,_,_,_,_,_,_,_,_,_,_,_,_,_,_,_,_,_,_,_,_,_,_,_,_,_,_,_,_,_,_,_,_,_,_,_,_,_,_,_,_,_,_,_,_,_,_,_,_,_,_,_,_,_,_,_,_,_,_,_,_,_,_,_,_,_,_,_,_,_,_,_,_,_,_,_,_,_,_,_,_,_,_,_,_,_,_,_,_], _⟩) rfl ?_
      refine Reg.RC_call rfl (tlt rfl) rfl (fun D v' W' hc hj hf K hK => ?_) ?_
      ·
       obtain ⟨j0, jk, jn, b_s, a_10, a_11, q_10_11⟩ := hj
       go_step
       have hs : ∀ o : Obj, Steps W' (W'.alloc o) := fun o => (Below.refl _ _).alloc (Nat.le_refl _) o
       exact hK.out _ _ (Keeps.steps (hs _)) ⟨jst j0 (hs _), jk.then_ (hs _), jsz jn (hs _), b_s.steps (hs _), fun h => by obtain ⟨g, e1, e2, e3, e4, e5⟩ := a_10 h; exact ⟨g, e1, e2, Nat.lt_of_lt_of_le e3 ((hs _)).size, fun h => (e4 h).steps (hs _), fun h => by obtain ⟨d, cs, e, hb⟩ := e5 h; exact ⟨d, cs, e, hb.steps (hs _)⟩⟩, fun _ => ⟨W'.heap.size, rfl, jn, by rw [World.size_alloc]; omega, fun _ => Blk.new _ _ _, fun h => Bool.noConfusion ((hc.2 13 (by decide)).symm.trans h)⟩, fun h _ => by obtain ⟨g, e1, e2, e3, e4, e5⟩ := a_10 h; exact fun e => Reg.ptr_ne e3 (e.symm.trans e1)⟩ trivial ⟨_, rfl⟩
      rintro _ ⟨p14, rfl⟩
      refine Reg.RC_at (b := ⟨#[_,_,_,_,_,_,_,_,_,_,_,_,_,_,_,_,_,_,_,_,_,_,_,_,_,_,_,_,_,_,_,_,_,_,_,_,_,_,_,_,_,_,_,_,_,_,_,_,_,_,_,_,_,_,_,_,_,_,_,_,_,_,_,_,_,_,_,_,_,_,_,_,_,_,_,_,_,_,_,_,_,_,_,_,_,_,_,_,_,_,_,_,_,_,_,_,_,_,_,_,_,_,_,_,_,_,_,_,_,_,_,_,_,_,_,_,_,_,_,_,_,_,_,_,_,_,_,_,_,_,_,_,_,_,_,_,_,_,_,_,_,_,_,_,_,_,_,_,_,_,_,_,_,_,_,_,_,_,_,_,_,_,_,_,_,_,_,_,_,_,_,_,_,_,_,_,_,_,_,_,_,_], _⟩) rfl ?_
      refine Reg.RC_call rfl (by intro t ht; cases ht) rfl (fun D v' W' hc hj hf K hK => ?_) (fun _ _ => Reg.RC_at (b := ⟨_, _⟩) rfl ?_)
      ·
       obtain ⟨j0, jk, jn, b_s, a_10, a_11, q_10_11⟩ := hj
       have f := hf (10, some 13) (.tail _ (.head _)) rfl
       have e6 : v' 10 = .pointer (some ⟨p13, 0, none⟩) := f.2.1
       obtain ⟨g, e1, e2, e3, e4, e5⟩ := a_10 f.1
       obtain rfl : p13 = g := Reg.ptr_eq (e6.symm.trans e1)
       have hb := e4 hc.1
       clear e4 e5
       have fc := hf (5, some 82) (.head _) rfl
       have ec : tupAt 0 (v' 5) = .agg #[.bool xa1, .slice xa2 xa3 xa4, .bool xa5, .slice xa6 xa7 xa8] := by rw [fc.2.1]; rfl
       have ff := hb.fr
       have cc0 : W'.cell? ⟨p13, 0, none⟩ = some (.bool false) := hb.c 0 rfl
       have cc1 : W'.cell? ⟨p13, 1, none⟩ = some (.slice none 0 0) := hb.c 1 rfl
       have cc2 : W'.cell? ⟨p13, 2, none⟩ = some (.bool false) := hb.c 2 rfl
       have cc3 : W'.cell? ⟨p13, 3, none⟩ = some (.slice none 0 0) := hb.c 3 rfl
       go_step
       exact hK.out undef _ (keeps4 hb rfl) ⟨(below4 j0 (by show w3.heap.size ≤ p13; omega)), jk.trans (keeps4 hb rfl), by simpa using jn, (b_s).far4 (show w.heap.size ≠ p13 by omega), fun _ => ⟨p13, e1, e2, by simpa using e3, fun h => Bool.noConfusion h, fun _ => ⟨fc.1, _, ec, (Blk.set2 (cs' := #[.bool xa1, .slice xa2 xa3 xa4, .bool xa5, .slice xa6 xa7 xa8]) (Blk.set2 (cs' := #[.bool xa1, .slice xa2 xa3 xa4, .bool xa5, .slice none 0 0]) (Blk.set2 (cs' := #[.bool xa1, .slice xa2 xa3 xa4, .bool false, .slice none 0 0]) (Blk.set2 (cs' := #[.bool xa1, .slice none 0 0, .bool false, .slice none 0 0]) hb (i := 0) rfl) (i := 1) rfl) (i := 2) rfl) (i := 3) rfl)⟩⟩, fun h => by obtain ⟨g, k1, k2, k3, k4, k5⟩ := a_11 h; have hne : g ≠ p13 := fun e => (q_10_11 f.1 h) (by rw [e6, k1, e]); exact ⟨g, k1, k2, by simpa using k3, fun h => (k4 h).far4 hne, fun h => by obtain ⟨d, cs, e, hb2⟩ := k5 h; exact ⟨d, cs, e, (hb2).far4 hne⟩⟩, q_10_11⟩ trivial trivial
      refine Reg.RC_call rfl (by intro t ht; cases ht) rfl (fun D v' W' hc hj hf K hK => ?_) (fun _ _ => Reg.RC_at (b := ⟨_, _⟩) rfl ?_)
      ·
       obtain ⟨j0, jk, jn, b_s, a_10, a_11, q_10_11⟩ := hj
       have f := hf (11, some 14) (.tail _ (.head _)) rfl
       have e6 : v' 11 = .pointer (some ⟨p14, 0, none⟩) := f.2.1
       obtain ⟨g, e1, e2, e3, e4, e5⟩ := a_11 f.1
       obtain rfl : p14 = g := Reg.ptr_eq (e6.symm.trans e1)
       have hb := e4 hc.1
       clear e4 e5
       have fc := hf (5, some 82) (.head _) rfl
       have ec : tupAt 1 (v' 5) = .agg #[.bool xb1, .slice xb2 xb3 xb4, .bool xb5, .slice xb6 xb7 xb8] := by rw [fc.2.1]; rfl
       have ff := hb.fr
       have cc0 : W'.cell? ⟨p14, 0, none⟩ = some (.bool false) := hb.c 0 rfl
       have cc1 : W'.cell? ⟨p14, 1, none⟩ = some (.slice none 0 0) := hb.c 1 rfl
       have cc2 : W'.cell? ⟨p14, 2, none⟩ = some (.bool false) := hb.c 2 rfl
       have cc3 : W'.cell? ⟨p14, 3, none⟩ = some (.slice none 0 0) := hb.c 3 rfl
       go_step
       exact hK.out undef _ (keeps4 hb rfl) ⟨(below4 j0 (by show w3.heap.size ≤ p14; omega)), jk.trans (keeps4 hb rfl), by simpa using jn, (b_s).far4 (show w.heap.size ≠ p14 by omega), fun h => by obtain ⟨g, k1, k2, k3, k4, k5⟩ := a_10 h; have hne : g ≠ p14 := fun e => (q_10_11 h f.1) (by rw [e6, k1, e]); exact ⟨g, k1, k2, by simpa using k3, fun h => (k4 h).far4 hne, fun h => by obtain ⟨d, cs, e, hb2⟩ := k5 h; exact ⟨d, cs, e, (hb2).far4 hne⟩⟩, fun _ => ⟨p14, e1, e2, by simpa using e3, fun h => Bool.noConfusion h, fun _ => ⟨fc.1, _, ec, (Blk.set2 (cs' := #[.bool xb1, .slice xb2 xb3 xb4, .bool xb5, .slice xb6 xb7 xb8]) (Blk.set2 (cs' := #[.bool xb1, .slice xb2 xb3 xb4, .bool xb5, .slice none 0 0]) (Blk.set2 (cs' := #[.bool xb1, .slice xb2 xb3 xb4, .bool false, .slice none 0 0]) (Blk.set2 (cs' := #[.bool xb1, .slice none 0 0, .bool false, .slice none 0 0]) hb (i := 0) rfl) (i := 1) rfl) (i := 2) rfl) (i := 3) rfl)⟩⟩, q_10_11⟩ trivial trivial
      apply Reg.RP rfl rfl rfl 15 rfl rfl
      ·
       intro D v' W' hc hj hf K hK
       go_step
       exact hK.out
      · rfl
      refine Reg.RC_end (fun Dn v' w11 hd hj hf => ?_)
      obtain ⟨j0, jk, jn, b_s, a_10, a_11, q_10_11⟩ := hj
      have B := j0
      have os := b_s
      clear b_s
      have f := hf (10, some 13) (.tail _ (.head _)) rfl
      have e6_ : v' 10 = .pointer (some ⟨p13, 0, none⟩) := f.2.1
      obtain ⟨g, e1_, zvx, -, -, e5_⟩ := a_10 f.1
      obtain rfl : p13 = g := Reg.ptr_eq (e6_.symm.trans e1_)
      obtain ⟨-, cs_, ee, ovx⟩ := e5_ (hd 12 (Nat.le_of_ble_eq_true rfl))
      have ef : tupAt 0 (v' 5) = .agg #[.bool xa1, .slice xa2 xa3 xa4, .bool xa5, .slice xa6 xa7 xa8] := by rw [(hf (5, some 82) (.head _) rfl).2.1]; rfl
      obtain rfl : #[.bool xa1, .slice xa2 xa3 xa4, .bool xa5, .slice xa6 xa7 xa8] = cs_ := by have := ef.symm.trans ee; simpa only [Value.tuple.injEq, Value.agg.injEq, Array.mk.injEq, List.cons.injEq, and_true, true_and] using this
      clear ee ef f e5_ e1_ e6_
      have f := hf (11, some 14) (.tail _ (.tail _ (.head _))) rfl
      have e6_ : v' 11 = .pointer (some ⟨p14, 0, none⟩) := f.2.1
      obtain ⟨g, e1_, zvy, -, -, e5_⟩ := a_11 f.1
      obtain rfl : p14 = g := Reg.ptr_eq (e6_.symm.trans e1_)
      obtain ⟨-, cs_, ee, ovy⟩ := e5_ (hd 13 (Nat.le_of_ble_eq_true rfl))
      have ef : tupAt 1 (v' 5) = .agg #[.bool xb1, .slice xb2 xb3 xb4, .bool xb5, .slice xb6 xb7 xb8] := by rw [(hf (5, some 82) (.head _) rfl).2.1]; rfl
      obtain rfl : #[.bool xb1, .slice xb2 xb3 xb4, .bool xb5, .slice xb6 xb7 xb8] = cs_ := by have := ef.symm.trans ee; simpa only [Value.tuple.injEq, Value.agg.injEq, Array.mk.injEq, List.cons.injEq, and_true, true_and] using this
      clear ee ef f e5_ e1_ e6_
      have y_10_11 : p13 ≠ p14 := fun e => q_10_11 (hf (10, some 13) (.tail _ (.head _)) rfl).1 (hf (11, some 14) (.tail _ (.tail _ (.head _))) rfl).1 (by have h1 := (hf (10, some 13) (.tail _ (.head _)) rfl).2.1; have h2 := (hf (11, some 14) (.tail _ (.tail _ (.head _))) rfl).2.1; rw [h1, h2]; show Value.pointer _ = .pointer _; rw [e])
      have F2_ := GFr2E.get (r := (XX i)) (s := (YY i)) (u := .agg #[.bool xa1, .slice xa2 xa3 xa4, .bool xa5, .slice xa6 xa7 xa8]) (v := .agg #[.bool xb1, .slice xb2 xb3 xb4, .bool xb5, .slice xb6 xb7 xb8]) (hf (5, some 82) (.head _) rfl).2.2
      have Fxa := Hid.mk_ F2_.1
      have Fxb := Hid.mk_ F2_.2
      clear F2_
      replace kk := kk.trans jk
      clear hd hf jk j0 q_10_11
      refine hQ _ _ ?_
      clear hQ hops Q' ops'
      have cp0 : w11.cell? ⟨b3, of3 + i, none⟩ = some (.int .i64 pk) := (B.cell (p := ⟨b3, _, none⟩) hb3).trans hp0
      go_wp2_with fail
      refine (OF _).mono ?_
      rintro e w12 ⟨vxr, rfl, hvxr, hb12⟩
      have st : Steps _ w12 := hb12
      have sk : Below w11.heap.size w11 w12 := belowA st
      replace B := below_steps B (Nat.le_refl _) sk
      replace os := os.steps sk
      replace ovx := ovx.steps sk
      replace ovy := ovy.steps sk
      replace Fxa := Hid.mk_ (Fxa.out.steps sk)
      replace Fxb := Hid.mk_ (Fxb.out.steps sk)
      replace kk := kk.then_ sk
      clear st sk  cp0
      obtain ⟨cvx0, cvx1, cvx2, cvx3⟩ := ovx.r3
      have lvx := ovx.lt
      obtain ⟨cvy0, cvy1, cvy2, cvy3⟩ := ovy.r3
      have lvy := ovy.lt
      obtain ⟨xr1, xr2, xr3, xr4, xr5, xr6, xr7, xr8, rfl⟩ := hvxr.shape
      have Fxr := Hid.mk_ hvxr
      clear hvxr
      have zvy_12 : p14 < w12.heap.size := ovy.lt
      have zvx_12 : p13 < w12.heap.size := ovx.lt
      have zz12 := B.size
      have cp2 : w12.cell? ⟨b3, of3 + i, none⟩ = some (.int .i64 pk) := (B.cell (p := ⟨b3, _, none⟩) hb3).trans hp0
      have lp3 : b3 < w12.heap.size := Nat.lt_of_lt_of_le hb3 B.size
      dsimp only
      by_cases p0 : 0 ≤ pk
      ·
       obtain ⟨q, rfl⟩ : ∃ q : Nat, pk = q := ⟨pk.toNat, by omega⟩
       have q4 : q < M := by omega
       obtain ⟨b', of', rfl, hbl', hmx, hmy⟩ := HMm.out.at (a := q) (by have := HM.out; omega)
       have diq := di q q4
       have eD : DD i q = LS := n3 (by omega)
       rw [eD] at diq
       have crq := cr
       obtain ⟨c1, hc1⟩ : ∃ c, cmpQ LS RQ = c := ⟨_, rfl⟩
       rw [hc1] at crq n5
       have dz : decide (0 < c1) = false := decide_eq_false (by omega)
       clear eD hc1 cr
       have dp : decide (0 ≤ (q : Int)) = true := decide_eq_true (by omega)
       go_wp2_with fail
       go_upto_region 17 with fail
       refine Reg.wp_chain_n (fun N0 D v W => Below w3.heap.size w3 W ∧ Keeps w12 W ∧ N0 ≤ W.heap.size ∧ Blk W (w.heap.size) 30 #[.bool ka1, .slice ka2 ka3 ka4, .bool ka5, .slice ka6 ka7 ka8, .bool kb1, .slice kb2 kb3 kb4, .bool kb5, .slice kb6 kb7 kb8, .bool kc1, .slice kc2 kc3 kc4, .bool kc5, .slice kc6 kc7 kc8, .bool kd1, .slice kd2 kd3 kd4, .bool kd5, .slice kd6 kd7 kd8] ∧ Blk W (p13) 28 #[.bool xa1, .slice xa2 xa3 xa4, .bool xa5, .slice xa6 xa7 xa8] ∧ Blk W (p14) 28 #[.bool xb1, .slice xb2 xb3 xb4, .bool xb5, .slice xb6 xb7 xb8] ∧ ((D 10 = false → Blk W (w12.heap.size) 28 #[.bool xr1, .slice xr2 xr3 xr4, .bool xr5, .slice xr6 xr7 xr8]) ∧ (D 10 = true → D 9 = true ∧ ∃ cs, v 9 = .agg cs ∧ Blk W (w12.heap.size) 28 cs)))
        (Reg.inl [9, 10]) (Reg.gv [(9, IsFr)]) (gw [(9, GFr (LS))]) (fun _ => Keeps) (fun _ _ => False) (Reg.pl [(10, [(9, some 120)]), (11, [(9, some 120)])]) (Reg.pl [(9, [10])])
        (by kernel_rfl) (by kernel_rfl) (by kernel_rfl) (Reg.gvA _) (fun N0 hN0 => ⟨fun v => ?_, fun D v v' W hv hj => ?_, fun D v k j W W' x _ _ _ _ hk hg => gwA hk hg, fun _ _ _ _ h => h.elim, fun ops' Q' hops hQ => ?_⟩)
       · exact ⟨belowB, keepsB, by first | with_reducible exact Nat.le_of_eq hN0.out | (simp only [World.size_drew]; with_reducible exact Nat.le_of_eq hN0.out), ownK, ownK, ownK, ⟨fun _ => ownK, (fun h => Bool.noConfusion h)⟩⟩
       ·
        obtain ⟨j0, jk, jn, b_s, b_vx, b_vy, b_vl⟩ := hj
        exact ⟨j0, jk, jn, b_s, b_vx, b_vy, ⟨b_vl.1, fun h => by obtain ⟨d, cs, e, hb⟩ := b_vl.2 h; exact ⟨d, cs, (hv 9 d) ▸ e, hb⟩⟩⟩
       have eN := hN0.out
       try simp only [World.size_alloc, World.size_setCell, World.size_drew, World.heap_drewN] at eN
       have i_s : w.heap.size < N0 := by first | omega | (have h := os.lt; omega)
       have i_vx : p13 < N0 := by first | omega | (have h := ovx.lt; omega)
       have i_vy : p14 < N0 := by first | omega | (have h := ovy.lt; omega)
       have i_vl : w12.heap.size < N0 := by first | omega | (have h := ovl.lt; omega)
       have iw : w3.heap.size ≤ N0 := by first | omega | (have h := B.size; omega)
       clear cvx0 cvx1 cvx2 cvx3 lvx cvy0 cvy1 cvy2 cvy3 lvy
       clear hN0
       apply Reg.RP rfl rfl rfl 111 rfl rfl
       ·
        intro D v' W' hc hj hf K hK
        obtain ⟨j0, jk, jn, b_s, b_vx, b_vy, b_vl⟩ := hj
        have c0 : W'.cell? ⟨p13, 0, none⟩ = some (.bool xa1) := b_vx.c 0 rfl
        have c1 : W'.cell? ⟨p13, 1, none⟩ = some (.slice xa2 xa3 xa4) := b_vx.c 1 rfl
        have c2 : W'.cell? ⟨p13, 2, none⟩ = some (.bool xa5) := b_vx.c 2 rfl
        have c3 : W'.cell? ⟨p13, 3, none⟩ = some (.slice xa6 xa7 xa8) := b_vx.c 3 rfl
        go_step
        exact hK.out
       · rfl
       apply Reg.RP rfl rfl rfl 112 rfl rfl
       ·
        intro D v' W' hc hj hf K hK
        obtain ⟨j0, jk, jn, b_s, b_vx, b_vy, b_vl⟩ := hj
        have c0 : W'.cell? ⟨p14, 0, none⟩ = some (.bool xb1) := b_vy.c 0 rfl
        have c1 : W'.cell? ⟨p14, 1, none⟩ = some (.slice xb2 xb3 xb4) := b_vy.c 1 rfl
        have c2 : W'.cell? ⟨p14, 2, none⟩ = some (.bool xb5) := b_vy.c 2 rfl
        have c3 : W'.cell? ⟨p14, 3, none⟩ = some (.slice xb6 xb7 xb8) := b_vy.c 3 rfl
        go_step
        exact hK.out
       · rfl
       apply Reg.RP rfl rfl rfl 113 rfl rfl
       ·
        intro D v' W' hc hj hf K hK
        go_step
        exact hK.out
       · rfl
       apply Reg.RP rfl rfl rfl 114 rfl rfl
       ·
        intro D v' W' hc hj hf K hK
        go_step
        exact hK.out
       · rfl
       apply Reg.RP rfl rfl rfl 115 rfl rfl
       ·
        intro D v' W' hc hj hf K hK
        go_step
        exact hK.out
       · rfl
       apply Reg.RP rfl rfl rfl 116 rfl rfl
       ·
        intro D v' W' hc hj hf K hK
        go_step
        exact hK.out
       · rfl
       apply Reg.RP rfl rfl rfl 117 rfl rfl
       ·
        intro D v' W' hc hj hf K hK
        obtain ⟨j0, jk, jn, b_s, b_vx, b_vy, b_vl⟩ := hj
        have x0_ : W'.cell? ⟨b3, of3 + i, none⟩ = some (.int .i64 (q : Int)) := (j0.cell (p := ⟨b3, _, none⟩) hb3).trans hp0
        go_step
        exact hK.out
       · rfl
       apply Reg.RP rfl rfl rfl 118 rfl rfl
       ·
        intro D v' W' hc hj hf K hK
        go_step
        exact hK.out
       · rfl
       apply Reg.RP rfl rfl rfl 119 rfl rfl
       ·
        intro D v' W' hc hj hf K hK
        obtain ⟨j0, jk, jn, b_s, b_vx, b_vy, b_vl⟩ := hj
        have x0_ : W'.cell? ⟨b', of' + q * 2, none⟩ = some (.int .i64 (pt m q).1) := (j0.cell (p := ⟨b', _, none⟩) hbl').trans hmx
        have x1_ : W'.cell? ⟨b', of' + q * 2 + 1, none⟩ = some (.int .i64 (pt m q).2) := (j0.cell (p := ⟨b', _, none⟩) hbl').trans hmy
        go_step
        exact hK.out
       · rfl
       refine Reg.RC_call rfl (tlt rfl) rfl (fun D v' W' hc hj hf K hK => ?_) ?_
       ·
        obtain ⟨j0, jk, jn, b_s, b_vx, b_vy, b_vl⟩ := hj
        clear hf
        go_step
        refine (diq W' _ _ (Fxa.out.keeps jk) (Fxb.out.keeps jk)).mono ?_
        rintro e W2 ⟨u, rfl, hu, hs⟩
        obtain ⟨xl1, xl2, xl3, xl4, xl5, xl6, xl7, xl8, rfl⟩ := hu.shape
        exact hK.out _ W2 (Keeps.steps hs) ⟨jst j0 hs, jk.then_ hs, jsz jn hs, b_s.steps hs, b_vx.steps hs, b_vy.steps hs, ⟨fun h => (b_vl.1 h).steps hs, fun h => Bool.noConfusion ((hc.2 10 (by decide)).symm.trans h)⟩⟩ hu ⟨_, _, _, _, _, _, _, _, rfl⟩
       rintro _ ⟨xl1, xl2, xl3, xl4, xl5, xl6, xl7, xl8, rfl⟩
       refine Reg.RC_at (b := ⟨#[_,_,_,_,_,_,_,_,_,_,_,_,_,_,_,_,_,_,_,_,_,_,_,_,_,_,_,_,_,_,_,_,_,_,_,_,_,_,_,_,_,_,_,_,_,_,_,_,_,_,_,_,_,_,_,_,_,_,_,_,_,_,_,_,_,_,_,_,_,_,_,_,_,_,_,_,_,_,_,_,_,_,_,_,_,_,_,_,_,_,_,_,_,_,_,_,_,_,_,_,_,_,_,_,_,_,_,_,_,_,_,_,_,_,_,_,_,_,_,_,_,_,_,_,_,_,_,_,_,_,_,_,_,_,_,_,_,_,_,_,_,_,_,_,_,_,_,_,_,_,_,_,_,_,_,_,_,_,_,_,_,_,_,_,_,_,_,_,_,_,_,_,_,_,_,_,_,_,_,_,_,_], _⟩) rfl ?_
       refine Reg.RC_call rfl (by intro t ht; cases ht) rfl (fun D v' W' hc hj hf K hK => ?_) (fun _ _ => Reg.RC_at (b := ⟨_, _⟩) rfl ?_)
       ·
        obtain ⟨j0, jk, jn, b_s, b_vx, b_vy, b_vl⟩ := hj
        have hb := b_vl.1 hc.1
        have e2 : w3.heap.size ≤ w12.heap.size := by omega
        have fc := hf (9, some 120) (.head _) rfl
        have ec : v' 9 = .agg #[.bool xl1, .slice xl2 xl3 xl4, .bool xl5, .slice xl6 xl7 xl8] := fc.2.1
        have ff := hb.fr
        have cc0 : W'.cell? ⟨w12.heap.size, 0, none⟩ = some (.bool xr1) := hb.c 0 rfl
        have cc1 : W'.cell? ⟨w12.heap.size, 1, none⟩ = some (.slice xr2 xr3 xr4) := hb.c 1 rfl
        have cc2 : W'.cell? ⟨w12.heap.size, 2, none⟩ = some (.bool xr5) := hb.c 2 rfl
        have cc3 : W'.cell? ⟨w12.heap.size, 3, none⟩ = some (.slice xr6 xr7 xr8) := hb.c 3 rfl
        go_step
        exact hK.out undef _ (keeps4 hb rfl) ⟨(below4 j0 (by show w3.heap.size ≤ w12.heap.size; omega)), jk.trans (keeps4 hb rfl), by simpa using jn, (b_s).far4 (show w.heap.size ≠ w12.heap.size by omega), (b_vx).far4 (show p13 ≠ w12.heap.size by omega), (b_vy).far4 (show p14 ≠ w12.heap.size by omega), ⟨fun h => Bool.noConfusion h, fun _ => ⟨fc.1, _, ec, (Blk.set2 (cs' := #[.bool xl1, .slice xl2 xl3 xl4, .bool xl5, .slice xl6 xl7 xl8]) (Blk.set2 (cs' := #[.bool xl1, .slice xl2 xl3 xl4, .bool xl5, .slice xr6 xr7 xr8]) (Blk.set2 (cs' := #[.bool xl1, .slice xl2 xl3 xl4, .bool xr5, .slice xr6 xr7 xr8]) (Blk.set2 (cs' := #[.bool xl1, .slice xr2 xr3 xr4, .bool xr5, .slice xr6 xr7 xr8]) hb (i := 0) rfl) (i := 1) rfl) (i := 2) rfl) (i := 3) rfl)⟩⟩⟩ trivial trivial
       refine Reg.RC_end (fun Dn v' w13 hd hj hf => ?_)
       obtain ⟨j0, jk, jn, b_s, b_vx, b_vy, b_vl⟩ := hj
       have B := j0
       have os := b_s
       clear b_s
       have ovx := b_vx
       clear b_vx
       have ovy := b_vy
       clear b_vy
       obtain ⟨-, cs_, ee, ovl⟩ := b_vl.2 (hd 10 (Nat.le_of_ble_eq_true rfl))
       have ef : v' 9 = .agg #[.bool xl1, .slice xl2 xl3 xl4, .bool xl5, .slice xl6 xl7 xl8] := (hf (9, some 120) (.head _) rfl).2.1
       obtain rfl : #[.bool xl1, .slice xl2 xl3 xl4, .bool xl5, .slice xl6 xl7 xl8] = cs_ := by have := ef.symm.trans ee; simpa only [Value.tuple.injEq, Value.agg.injEq, Array.mk.injEq, List.cons.injEq, and_true, true_and] using this
       clear b_vl ee ef
       have Fxl : Hid (FR w13 (.agg #[.bool xl1, .slice xl2 xl3 xl4, .bool xl5, .slice xl6 xl7 xl8]) (LS)) := (hf (9, some 120) (.head _) rfl).2.2
       replace Fxa := Hid.mk_ (Fxa.out.keeps jk)
       replace Fxb := Hid.mk_ (Fxb.out.keeps jk)
       replace Fxr := Hid.mk_ (Fxr.out.keeps jk)
       replace kk := kk.trans jk
       clear hd hf jk j0
       refine hQ _ _ ?_
       clear hQ hops Q' ops'
       obtain ⟨cvl0, cvl1, cvl2, cvl3⟩ := ovl.r3
       have lvl := ovl.lt
       go_wp2_with fail
       have zvl_13 : w12.heap.size < w13.heap.size := ovl.lt
       have zvx_13 : p13 < w13.heap.size := ovx.lt
       have zvy_13 : p14 < w13.heap.size := ovy.lt
       have zz13 := B.size
       go_upto_region 18 with fail
       refine Reg.wp_chain_n (fun N0 D v W => Below w3.heap.size w3 W ∧ Keeps w13 W ∧ N0 ≤ W.heap.size ∧ Blk W (w.heap.size) 30 #[.bool ka1, .slice ka2 ka3 ka4, .bool ka5, .slice ka6 ka7 ka8, .bool kb1, .slice kb2 kb3 kb4, .bool kb5, .slice kb6 kb7 kb8, .bool kc1, .slice kc2 kc3 kc4, .bool kc5, .slice kc6 kc7 kc8, .bool kd1, .slice kd2 kd3 kd4, .bool kd5, .slice kd6 kd7 kd8] ∧ Blk W (p13) 28 #[.bool xa1, .slice xa2 xa3 xa4, .bool xa5, .slice xa6 xa7 xa8] ∧ Blk W (p14) 28 #[.bool xb1, .slice xb2 xb3 xb4, .bool xb5, .slice xb6 xb7 xb8] ∧ Blk W (w12.heap.size) 28 #[.bool xl1, .slice xl2 xl3 xl4, .bool xl5, .slice xl6 xl7 xl8])
        (Reg.inl [2, 3]) (Reg.gv [(2, IsFr), (3, fun z_ => z_ = .tuple #[.int .i64 c1, .int .i64 0])]) (gw [(2, GFr (RQ))]) (fun _ => Keeps) (fun _ _ => False) (Reg.pl [(3, [(2, some 124)]), (9, [(2, some 124), (3, some 125)])]) (Reg.pl [])
        (by kernel_rfl) (by kernel_rfl) (by kernel_rfl) (Reg.gvA _) (fun N0 hN0 => ⟨fun v => ?_, fun D v v' W hv hj => ?_, fun D v k j W W' x _ _ _ _ hk hg => gwA hk hg, fun _ _ _ _ h => h.elim, fun ops' Q' hops hQ => ?_⟩)
       · exact ⟨belowB, keepsB, by first | with_reducible exact Nat.le_of_eq hN0.out | (simp only [World.size_drew]; with_reducible exact Nat.le_of_eq hN0.out), ownK, ownK, ownK, ownK⟩
       ·
        obtain ⟨j0, jk, jn, b_s, b_vx, b_vy, b_vl⟩ := hj
        exact ⟨j0, jk, jn, b_s, b_vx, b_vy, b_vl⟩
       have eN := hN0.out
       try simp only [World.size_alloc, World.size_setCell, World.size_drew, World.heap_drewN] at eN
       have i_s : w.heap.size < N0 := by first | omega | (have h := os.lt; omega)
       have i_vx : p13 < N0 := by first | omega | (have h := ovx.lt; omega)
       have i_vy : p14 < N0 := by first | omega | (have h := ovy.lt; omega)
       have i_vl : w12.heap.size < N0 := by first | omega | (have h := ovl.lt; omega)
       have iw : w3.heap.size ≤ N0 := by first | omega | (have h := B.size; omega)
       clear cvl0 cvl1 cvl2 cvl3 lvl
       clear hN0
       apply Reg.RP rfl rfl rfl 122 rfl rfl
       ·
        intro D v' W' hc hj hf K hK
        obtain ⟨j0, jk, jn, b_s, b_vx, b_vy, b_vl⟩ := hj
        have c0 : W'.cell? ⟨w12.heap.size, 0, none⟩ = some (.bool xl1) := b_vl.c 0 rfl
        have c1 : W'.cell? ⟨w12.heap.size, 1, none⟩ = some (.slice xl2 xl3 xl4) := b_vl.c 1 rfl
        have c2 : W'.cell? ⟨w12.heap.size, 2, none⟩ = some (.bool xl5) := b_vl.c 2 rfl
        have c3 : W'.cell? ⟨w12.heap.size, 3, none⟩ = some (.slice xl6 xl7 xl8) := b_vl.c 3 rfl
        go_step
        exact hK.out
       · rfl
       apply Reg.RP rfl rfl rfl 123 rfl rfl
       ·
        intro D v' W' hc hj hf K hK
        go_step
        exact hK.out
       · rfl
       refine Reg.RC_call rfl (tlt rfl) rfl (fun D v' W' hc hj hf K hK => ?_) ?_
       ·
        obtain ⟨j0, jk, jn, b_s, b_vx, b_vy, b_vl⟩ := hj
        clear hf
        go_step
        refine (OF W').mono ?_
        rintro e W2 ⟨u, rfl, hu, hs⟩
        obtain ⟨xo1, xo2, xo3, xo4, xo5, xo6, xo7, xo8, rfl⟩ := hu.shape
        exact hK.out _ W2 (Keeps.steps hs) ⟨jst j0 hs, jk.then_ hs, jsz jn hs, b_s.steps hs, b_vx.steps hs, b_vy.steps hs, b_vl.steps hs⟩ hu ⟨_, _, _, _, _, _, _, _, rfl⟩
       rintro _ ⟨xo1, xo2, xo3, xo4, xo5, xo6, xo7, xo8, rfl⟩
       refine Reg.RC_at (b := ⟨#[_,_,_,_,_,_,_,_,_,_,_,_,_,_,_,_,_,_,_,_,_,_,_,_,_,_,_,_,_,_,_,_,_,_,_,_,_,_,_,_,_,_,_,_,_,_,_,_,_,_,_,_,_,_,_,_,_,_,_,_,_,_,_,_,_,_,_,_,_,_,_,_,_,_,_,_,_,_,_,_,_,_,_,_,_,_,_,_,_,_,_,_,_,_,_,_,_,_,_,_,_,_,_,_,_,_,_,_,_,_,_,_,_,_,_,_,_,_,_,_,_,_,_,_,_,_,_,_,_,_,_,_,_,_,_,_,_,_,_,_,_,_,_,_,_,_,_,_,_,_,_,_,_,_,_,_,_,_,_,_,_,_,_,_,_,_,_,_,_,_,_,_,_,_,_,_,_,_,_,_,_,_], _⟩) rfl ?_
       refine Reg.RC_call rfl (tlt rfl) rfl (fun D v' W' hc hj hf K hK => ?_) ?_
       ·
        obtain ⟨j0, jk, jn, b_s, b_vx, b_vy, b_vl⟩ := hj
        have g2 : GFr (RQ) _ W' := (hf (2, some 124) (.head _) rfl).2.2
        have g2 : FR W' _ (RQ) := g2
        clear hf
        go_step
        refine (crq W' _ _ (Fxl.out.keeps jk) g2).mono ?_
        rintro e W2 ⟨rfl, hs⟩
        exact hK.out _ W2 (Keeps.steps hs) ⟨jst j0 hs, jk.then_ hs, jsz jn hs, b_s.steps hs, b_vx.steps hs, b_vy.steps hs, b_vl.steps hs⟩ trivial rfl
       rintro _ rfl
       refine Reg.RC_at (b := ⟨#[_,_,_,_,_,_,_,_,_,_,_,_,_,_,_,_,_,_,_,_,_,_,_,_,_,_,_,_,_,_,_,_,_,_,_,_,_,_,_,_,_,_,_,_,_,_,_,_,_,_,_,_,_,_,_,_,_,_,_,_,_,_,_,_,_,_,_,_,_,_,_,_,_,_,_,_,_,_,_,_,_,_,_,_,_,_,_,_,_,_,_,_,_,_,_,_,_,_,_,_,_,_,_,_,_,_,_,_,_,_,_,_,_,_,_,_,_,_,_,_,_,_,_,_,_,_,_,_,_,_,_,_,_,_,_,_,_,_,_,_,_,_,_,_,_,_,_,_,_,_,_,_,_,_,_,_,_,_,_,_,_,_,_,_,_,_,_,_,_,_,_,_,_,_,_,_,_,_,_,_,_,_], _⟩) rfl ?_
       apply Reg.RP rfl rfl rfl 121 rfl rfl
       ·
        intro D v' W' hc hj hf K hK
        go_step
        exact hK.out
       · rfl
       apply Reg.RP rfl rfl rfl 126 rfl rfl
       ·
        intro D v' W' hc hj hf K hK
        go_step
        exact hK.out
       · rfl
       apply Reg.RP rfl rfl rfl 127 rfl rfl
       ·
        intro D v' W' hc hj hf K hK
        go_step
        exact hK.out
       · rfl
       apply Reg.RP rfl rfl rfl 17 rfl rfl
       ·
        intro D v' W' hc hj hf K hK
        go_step
        exact hK.out
       · rfl
       apply Reg.RP rfl rfl rfl 18 rfl rfl
       ·
        intro D v' W' hc hj hf K hK
        go_step
        exact hK.out
       · rfl
       refine Reg.RC_end (fun Dn v' w14 hd hj hf => ?_)
       obtain ⟨j0, jk, jn, b_s, b_vx, b_vy, b_vl⟩ := hj
       have B := j0
       have os := b_s
       clear b_s
       have ovx := b_vx
       clear b_vx
       have ovy := b_vy
       clear b_vy
       have ovl := b_vl
       clear b_vl
       replace Fxa := Hid.mk_ (Fxa.out.keeps jk)
       replace Fxb := Hid.mk_ (Fxb.out.keeps jk)
       replace Fxr := Hid.mk_ (Fxr.out.keeps jk)
       replace Fxl := Hid.mk_ (Fxl.out.keeps jk)
       replace kk := kk.trans jk
       clear hd hf jk j0
       refine hQ _ _ ?_
       clear hQ hops Q' ops'
       go_wp2_with fail
       go_loopw [19] (fun sl0 wr => ∃ (k : Nat), k ≤ M ∧ sl0 = .int .i64 k ∧ Blk wr (w.heap.size) 30 #[.bool ka1, .slice ka2 ka3 ka4, .bool ka5, .slice ka6 ka7 ka8, .bool kb1, .slice kb2 kb3 kb4, .bool kb5, .slice kb6 kb7 kb8, .bool kc1, .slice kc2 kc3 kc4, .bool kc5, .slice kc6 kc7 kc8, .bool kd1, .slice kd2 kd3 kd4, .bool kd5, .slice kd6 kd7 kd8] ∧ Blk wr (p13) 28 #[.bool xa1, .slice xa2 xa3 xa4, .bool xa5, .slice xa6 xa7 xa8] ∧ Blk wr (p14) 28 #[.bool xb1, .slice xb2 xb3 xb4, .bool xb5, .slice xb6 xb7 xb8] ∧ Blk wr (w12.heap.size) 28 #[.bool xl1, .slice xl2 xl3 xl4, .bool xl5, .slice xl6 xl7 xl8] ∧ Below w3.heap.size w3 wr ∧ Keeps w14 wr) (fun sl0 _ => M - (intOf sl0).toNat)
       case atStart => exact ⟨0, by omega, rfl, ownK, ownK, ownK, ownK, belowB, keepsB⟩
       case round =>
        clear os ovx ovy ovl
        try clear B
        have kko := kk.trans keepsB
        try clear kk
        obtain ⟨k, hk, rfl, os, ovx, ovy, ovl, B, kk⟩ := hrel
        replace Fxa := Hid.mk_ (Fxa.out.keeps kk)
        replace Fxb := Hid.mk_ (Fxb.out.keeps kk)
        replace Fxr := Hid.mk_ (Fxr.out.keeps kk)
        replace Fxl := Hid.mk_ (Fxl.out.keeps kk)
        obtain ⟨cvx0, cvx1, cvx2, cvx3⟩ := ovx.r3
        have lvx := ovx.lt
        obtain ⟨cvy0, cvy1, cvy2, cvy3⟩ := ovy.r3
        have lvy := ovy.lt
        obtain ⟨cvl0, cvl1, cvl2, cvl3⟩ := ovl.r3
        have lvl := ovl.lt
        rcases Nat.lt_or_ge k M with k4 | k4
        ·
         have hltM : decide ((k : Int) < (M : Int)) = true := decide_eq_true (by omega)
         obtain ⟨b5, o5, e9, hbl', hmx, hmy⟩ := HMm.out.at (a := k) (by have := HM.out; omega)
         cases e9
         have dik := di k k4
         have cik := cmp k k4
         obtain ⟨c, hcc⟩ : ∃ c, cmpQ (DD i k) LS = c := ⟨_, rfl⟩
         have sss := Hid.mk_ (n7.out k k4 c hcc)
         rw [hcc] at cik
         clear hcc
         have d0 : decide (c < 0) = false := decide_eq_false (by have := sss.out.1; omega)
         go_wp2_with fail
         have zvl_14 : w12.heap.size < wr.heap.size := ovl.lt
         have zvx_14 : p13 < wr.heap.size := ovx.lt
         have zvy_14 : p14 < wr.heap.size := ovy.lt
         have zz14 := B.size
         go_upto_region 24 with fail
         refine Reg.wp_chain_n (fun N0 D v W => Below w3.heap.size w3 W ∧ Keeps wr W ∧ N0 ≤ W.heap.size ∧ Blk W (w.heap.size) 30 #[.bool ka1, .slice ka2 ka3 ka4, .bool ka5, .slice ka6 ka7 ka8, .bool kb1, .slice kb2 kb3 kb4, .bool kb5, .slice kb6 kb7 kb8, .bool kc1, .slice kc2 kc3 kc4, .bool kc5, .slice kc6 kc7 kc8, .bool kd1, .slice kd2 kd3 kd4, .bool kd5, .slice kd6 kd7 kd8] ∧ Blk W (p13) 28 #[.bool xa1, .slice xa2 xa3 xa4, .bool xa5, .slice xa6 xa7 xa8] ∧ Blk W (p14) 28 #[.bool xb1, .slice xb2 xb3 xb4, .bool xb5, .slice xb6 xb7 xb8] ∧ Blk W (w12.heap.size) 28 #[.bool xl1, .slice xl2 xl3 xl4, .bool xl5, .slice xl6 xl7 xl8])
          (Reg.inl [6, 8]) (Reg.gv [(6, IsFr), (8, fun z_ => z_ = .tuple #[.int .i64 c, .int .i64 0])]) (gw [(6, GFr ((DD i k)))]) (fun _ => Keeps) (fun _ _ => False) (Reg.pl [(8, [(6, some 147)]), (14, [(6, some 147), (8, some 149)])]) (Reg.pl [])
          (by kernel_rfl) (by kernel_rfl) (by kernel_rfl) (Reg.gvA _) (fun N0 hN0 => ⟨fun v => ?_, fun D v v' W hv hj => ?_, fun D v k j W W' x _ _ _ _ hk hg => gwA hk hg, fun _ _ _ _ h => h.elim, fun ops' Q' hops hQ => ?_⟩)
         · exact ⟨belowB, keepsB, by first | with_reducible exact Nat.le_of_eq hN0.out | (simp only [World.size_drew]; with_reducible exact Nat.le_of_eq hN0.out), ownK, ownK, ownK, ownK⟩
         ·
          obtain ⟨j0, jk, jn, b_s, b_vx, b_vy, b_vl⟩ := hj
          exact ⟨j0, jk, jn, b_s, b_vx, b_vy, b_vl⟩
         have eN := hN0.out
         try simp only [World.size_alloc, World.size_setCell, World.size_drew, World.heap_drewN] at eN
         have i_s : w.heap.size < N0 := by first | omega | (have h := os.lt; omega)
         have i_vx : p13 < N0 := by first | omega | (have h := ovx.lt; omega)
         have i_vy : p14 < N0 := by first | omega | (have h := ovy.lt; omega)
         have i_vl : w12.heap.size < N0 := by first | omega | (have h := ovl.lt; omega)
         have iw : w3.heap.size ≤ N0 := by first | omega | (have h := B.size; omega)
         clear cvx0 cvx1 cvx2 cvx3 lvx cvy0 cvy1 cvy2 cvy3 lvy cvl0 cvl1 cvl2 cvl3 lvl
         clear hN0
         apply Reg.RP rfl rfl rfl 141 rfl rfl
         ·
          intro D v' W' hc hj hf K hK
          obtain ⟨j0, jk, jn, b_s, b_vx, b_vy, b_vl⟩ := hj
          have c0 : W'.cell? ⟨p13, 0, none⟩ = some (.bool xa1) := b_vx.c 0 rfl
          have c1 : W'.cell? ⟨p13, 1, none⟩ = some (.slice xa2 xa3 xa4) := b_vx.c 1 rfl
          have c2 : W'.cell? ⟨p13, 2, none⟩ = some (.bool xa5) := b_vx.c 2 rfl
          have c3 : W'.cell? ⟨p13, 3, none⟩ = some (.slice xa6 xa7 xa8) := b_vx.c 3 rfl
          go_step
          exact hK.out
         · rfl
         apply Reg.RP rfl rfl rfl 142 rfl rfl
         ·
          intro D v' W' hc hj hf K hK
          obtain ⟨j0, jk, jn, b_s, b_vx, b_vy, b_vl⟩ := hj
          have c0 : W'.cell? ⟨p14, 0, none⟩ = some (.bool xb1) := b_vy.c 0 rfl
          have c1 : W'.cell? ⟨p14, 1, none⟩ = some (.slice xb2 xb3 xb4) := b_vy.c 1 rfl
          have c2 : W'.cell? ⟨p14, 2, none⟩ = some (.bool xb5) := b_vy.c 2 rfl
          have c3 : W'.cell? ⟨p14, 3, none⟩ = some (.slice xb6 xb7 xb8) := b_vy.c 3 rfl
          go_step
          exact hK.out
         · rfl
         apply Reg.RP rfl rfl rfl 143 rfl rfl
         ·
          intro D v' W' hc hj hf K hK
          go_step
          exact hK.out
         · rfl
         apply Reg.RP rfl rfl rfl 144 rfl rfl
         ·
          intro D v' W' hc hj hf K hK
          go_step
          exact hK.out
         · rfl
         apply Reg.RP rfl rfl rfl 145 rfl rfl
         ·
          intro D v' W' hc hj hf K hK
          go_step
          exact hK.out
         · rfl
         apply Reg.RP rfl rfl rfl 146 rfl rfl
         ·
          intro D v' W' hc hj hf K hK
          obtain ⟨j0, jk, jn, b_s, b_vx, b_vy, b_vl⟩ := hj
          have x0_ : W'.cell? ⟨b', of' + k * 2, none⟩ = some (.int .i64 (pt m k).1) := (j0.cell (p := ⟨b', _, none⟩) hbl').trans hmx
          have x1_ : W'.cell? ⟨b', of' + k * 2 + 1, none⟩ = some (.int .i64 (pt m k).2) := (j0.cell (p := ⟨b', _, none⟩) hbl').trans hmy
          go_step
          exact hK.out
         · rfl
         refine Reg.RC_call rfl (tlt rfl) rfl (fun D v' W' hc hj hf K hK => ?_) ?_
         ·
          obtain ⟨j0, jk, jn, b_s, b_vx, b_vy, b_vl⟩ := hj
          clear hf
          go_step
          refine (dik W' _ _ (Fxa.out.keeps jk) (Fxb.out.keeps jk)).mono ?_
          rintro e W2 ⟨u, rfl, hu, hs⟩
          obtain ⟨xe1, xe2, xe3, xe4, xe5, xe6, xe7, xe8, rfl⟩ := hu.shape
          exact hK.out _ W2 (Keeps.steps hs) ⟨jst j0 hs, jk.then_ hs, jsz jn hs, b_s.steps hs, b_vx.steps hs, b_vy.steps hs, b_vl.steps hs⟩ hu ⟨_, _, _, _, _, _, _, _, rfl⟩
         rintro _ ⟨xe1, xe2, xe3, xe4, xe5, xe6, xe7, xe8, rfl⟩
         refine Reg.RC_at (b := ⟨#[_,_,_,_,_,_,_,_,_,_,_,_,_,_,_,_,_,_,_,_,_,_,_,_,_,_,_,_,_,_,_,_,_,_,_,_,_,_,_,_,_,_,_,_,_,_,_,_,_,_,_,_,_,_,_,_,_,_,_,_,_,_,_,_,_,_,_,_,_,_,_,_,_,_,_,_,_,_,_,_,_,_,_,_,_,_,_,_,_,_,_,_,_,_,_,_,_,_,_,_,_,_,_,_,_,_,_,_,_,_,_,_,_,_,_,_,_,_,_,_,_,_,_,_,_,_,_,_,_,_,_,_,_,_,_,_,_,_,_,_,_,_,_,_,_,_,_,_,_,_,_,_,_,_,_,_,_,_,_,_,_,_,_,_,_,_,_,_,_,_,_,_,_,_,_,_,_,_,_,_,_,_], _⟩) rfl ?_
         apply Reg.RP rfl rfl rfl 148 rfl rfl
         ·
          intro D v' W' hc hj hf K hK
          obtain ⟨j0, jk, jn, b_s, b_vx, b_vy, b_vl⟩ := hj
          have c0 : W'.cell? ⟨w12.heap.size, 0, none⟩ = some (.bool xl1) := b_vl.c 0 rfl
          have c1 : W'.cell? ⟨w12.heap.size, 1, none⟩ = some (.slice xl2 xl3 xl4) := b_vl.c 1 rfl
          have c2 : W'.cell? ⟨w12.heap.size, 2, none⟩ = some (.bool xl5) := b_vl.c 2 rfl
          have c3 : W'.cell? ⟨w12.heap.size, 3, none⟩ = some (.slice xl6 xl7 xl8) := b_vl.c 3 rfl
          go_step
          exact hK.out
         · rfl
         refine Reg.RC_call rfl (tlt rfl) rfl (fun D v' W' hc hj hf K hK => ?_) ?_
         ·
          obtain ⟨j0, jk, jn, b_s, b_vx, b_vy, b_vl⟩ := hj
          have g6 : GFr ((DD i k)) _ W' := (hf (6, some 147) (.head _) rfl).2.2
          have g6 : FR W' _ ((DD i k)) := g6
          clear hf
          go_step
          refine (cik W' _ _ g6 (Fxl.out.keeps jk)).mono ?_
          rintro e W2 ⟨rfl, hs⟩
          exact hK.out _ W2 (Keeps.steps hs) ⟨jst j0 hs, jk.then_ hs, jsz jn hs, b_s.steps hs, b_vx.steps hs, b_vy.steps hs, b_vl.steps hs⟩ trivial rfl
         rintro _ rfl
         refine Reg.RC_at (b := ⟨#[_,_,_,_,_,_,_,_,_,_,_,_,_,_,_,_,_,_,_,_,_,_,_,_,_,_,_,_,_,_,_,_,_,_,_,_,_,_,_,_,_,_,_,_,_,_,_,_,_,_,_,_,_,_,_,_,_,_,_,_,_,_,_,_,_,_,_,_,_,_,_,_,_,_,_,_,_,_,_,_,_,_,_,_,_,_,_,_,_,_,_,_,_,_,_,_,_,_,_,_,_,_,_,_,_,_,_,_,_,_,_,_,_,_,_,_,_,_,_,_,_,_,_,_,_,_,_,_,_,_,_,_,_,_,_,_,_,_,_,_,_,_,_,_,_,_,_,_,_,_,_,_,_,_,_,_,_,_,_,_,_,_,_,_,_,_,_,_,_,_,_,_,_,_,_,_,_,_,_,_,_,_], _⟩) rfl ?_
         apply Reg.RP rfl rfl rfl 140 rfl rfl
         ·
          intro D v' W' hc hj hf K hK
          go_step
          exact hK.out
         · rfl
         apply Reg.RP rfl rfl rfl 150 rfl rfl
         ·
          intro D v' W' hc hj hf K hK
          go_step
          exact hK.out
         · rfl
         apply Reg.RP rfl rfl rfl 151 rfl rfl
         ·
          intro D v' W' hc hj hf K hK
          go_step
          exact hK.out
         · rfl
         apply Reg.RP rfl rfl rfl 20 rfl rfl
         ·
          intro D v' W' hc hj hf K hK
          go_step
          exact hK.out
         · rfl
         apply Reg.RP rfl rfl rfl 21 rfl rfl
         ·
          intro D v' W' hc hj hf K hK
          go_step
          exact hK.out
         · rfl
         refine Reg.RC_end (fun Dn v' w15 hd hj hf => ?_)
         obtain ⟨j0, jk, jn, b_s, b_vx, b_vy, b_vl⟩ := hj
         have B := j0
         have os := b_s
         clear b_s
         have ovx := b_vx
         clear b_vx
         have ovy := b_vy
         clear b_vy
         have ovl := b_vl
         clear b_vl
         replace Fxa := Hid.mk_ (Fxa.out.keeps jk)
         replace Fxb := Hid.mk_ (Fxb.out.keeps jk)
         replace Fxr := Hid.mk_ (Fxr.out.keeps jk)
         replace Fxl := Hid.mk_ (Fxl.out.keeps jk)
         replace kk := kk.trans jk
         clear hd hf jk j0
         refine hQ _ _ ?_
         clear hQ hops Q' ops'
         have cp1 : w15.cell? ⟨b3, of3 + i, none⟩ = some (.int .i64 (q : Int)) := (B.cell (p := ⟨b3, _, none⟩) hb3).trans hp0
         by_cases c0 : c = 0
         ·
          subst c0
          have d1 : q ≤ k := by have h := sss.out.2.1; have h2 : ¬ (k : Int) < (q : Int) := fun g => h ⟨rfl, g⟩; omega
          have d2 : decide ((q : Int) < 0) = false := decide_eq_false (by omega)
          go_wp2_with fail
          go_roundw
          case rel => exact ⟨k + 1, by omega, by go_num, ownK, ownK, ownK, ownK, belowB, kk.trans keepsB⟩
          case measure => simp [intOf]; omega
         ·
          have d3 : (c == 0) = false := by simpa using c0
          go_wp2_with fail
          go_roundw
          case rel => exact ⟨k + 1, by omega, by go_num, ownK, ownK, ownK, ownK, belowB, kk.trans keepsB⟩
          case measure => simp [intOf]; omega
        ·
         have hltM : decide ((k : Int) < (M : Int)) = false := decide_eq_false (by omega)
         go_wp2_with fail
         go_roundw
         case rel => exact ⟨i + 1, by omega, by go_num, ownK, belowB, kko.trans (kk.trans keepsB)⟩
         case measure => simp [intOf]; omega
      ·
       have dp : decide (0 ≤ pk) = false := decide_eq_false p0
       have eL : RQ = LS := n4 (by omega)
       rw [eL] at Fxr
       clear cr
       go_wp2_with fail
       go_loopw [19] (fun sl0 wr => ∃ (k : Nat), k ≤ M ∧ sl0 = .int .i64 k ∧ Blk wr (w.heap.size) 30 #[.bool ka1, .slice ka2 ka3 ka4, .bool ka5, .slice ka6 ka7 ka8, .bool kb1, .slice kb2 kb3 kb4, .bool kb5, .slice kb6 kb7 kb8, .bool kc1, .slice kc2 kc3 kc4, .bool kc5, .slice kc6 kc7 kc8, .bool kd1, .slice kd2 kd3 kd4, .bool kd5, .slice kd6 kd7 kd8] ∧ Blk wr (p13) 28 #[.bool xa1, .slice xa2 xa3 xa4, .bool xa5, .slice xa6 xa7 xa8] ∧ Blk wr (p14) 28 #[.bool xb1, .slice xb2 xb3 xb4, .bool xb5, .slice xb6 xb7 xb8] ∧ Blk wr (w12.heap.size) 28 #[.bool xr1, .slice xr2 xr3 xr4, .bool xr5, .slice xr6 xr7 xr8] ∧ Below w3.heap.size w3 wr ∧ Keeps w12 wr) (fun sl0 _ => M - (intOf sl0).toNat)
       case atStart => exact ⟨0, by omega, rfl, ownK, ownK, ownK, ownK, belowB, keepsB⟩
       case round =>
        clear cvx0 cvx1 cvx2 cvx3 lvx cvy0 cvy1 cvy2 cvy3 lvy
        clear os ovx ovy
        try clear B
        have kko := kk.trans keepsB
        try clear kk
        obtain ⟨k, hk, rfl, os, ovx, ovy, ovl, B, kk⟩ := hrel
        replace Fxa := Hid.mk_ (Fxa.out.keeps kk)
        replace Fxb := Hid.mk_ (Fxb.out.keeps kk)
        replace Fxr := Hid.mk_ (Fxr.out.keeps kk)
        obtain ⟨cvx0, cvx1, cvx2, cvx3⟩ := ovx.r3
        have lvx := ovx.lt
        obtain ⟨cvy0, cvy1, cvy2, cvy3⟩ := ovy.r3
        have lvy := ovy.lt
        obtain ⟨cvl0, cvl1, cvl2, cvl3⟩ := ovl.r3
        have lvl := ovl.lt
        rcases Nat.lt_or_ge k M with k4 | k4
        ·
         have hltM : decide ((k : Int) < (M : Int)) = true := decide_eq_true (by omega)
         obtain ⟨b', of', rfl, hbl', hmx, hmy⟩ := HMm.out.at (a := k) (by have := HM.out; omega)
         have dik := di k k4
         have cik := cmp k k4
         obtain ⟨c, hcc⟩ : ∃ c, cmpQ (DD i k) LS = c := ⟨_, rfl⟩
         have sss := Hid.mk_ (n7.out k k4 c hcc)
         rw [hcc] at cik
         clear hcc
         have d0 : decide (c < 0) = false := decide_eq_false (by have := sss.out.1; omega)
         go_wp2_with fail
         have zvl_12 : w12.heap.size < wr.heap.size := ovl.lt
         have zvx_12 : p13 < wr.heap.size := ovx.lt
         have zvy_12 : p14 < wr.heap.size := ovy.lt
         have zz12 := B.size
         go_upto_region 24 with fail
         refine Reg.wp_chain_n (fun N0 D v W => Below w3.heap.size w3 W ∧ Keeps wr W ∧ N0 ≤ W.heap.size ∧ Blk W (w.heap.size) 30 #[.bool ka1, .slice ka2 ka3 ka4, .bool ka5, .slice ka6 ka7 ka8, .bool kb1, .slice kb2 kb3 kb4, .bool kb5, .slice kb6 kb7 kb8, .bool kc1, .slice kc2 kc3 kc4, .bool kc5, .slice kc6 kc7 kc8, .bool kd1, .slice kd2 kd3 kd4, .bool kd5, .slice kd6 kd7 kd8] ∧ Blk W (p13) 28 #[.bool xa1, .slice xa2 xa3 xa4, .bool xa5, .slice xa6 xa7 xa8] ∧ Blk W (p14) 28 #[.bool xb1, .slice xb2 xb3 xb4, .bool xb5, .slice xb6 xb7 xb8] ∧ Blk W (w12.heap.size) 28 #[.bool xr1, .slice xr2 xr3 xr4, .bool xr5, .slice xr6 xr7 xr8])
          (Reg.inl [6, 8]) (Reg.gv [(6, IsFr), (8, fun z_ => z_ = .tuple #[.int .i64 c, .int .i64 0])]) (gw [(6, GFr ((DD i k)))]) (fun _ => Keeps) (fun _ _ => False) (Reg.pl [(8, [(6, some 147)]), (14, [(6, some 147), (8, some 149)])]) (Reg.pl [])
          (by kernel_rfl) (by kernel_rfl) (by kernel_rfl) (Reg.gvA _) (fun N0 hN0 => ⟨fun v => ?_, fun D v v' W hv hj => ?_, fun D v k j W W' x _ _ _ _ hk hg => gwA hk hg, fun _ _ _ _ h => h.elim, fun ops' Q' hops hQ => ?_⟩)
         · exact ⟨belowB, keepsB, by first | with_reducible exact Nat.le_of_eq hN0.out | (simp only [World.size_drew]; with_reducible exact Nat.le_of_eq hN0.out), ownK, ownK, ownK, ownK⟩
         ·
          obtain ⟨j0, jk, jn, b_s, b_vx, b_vy, b_vl⟩ := hj
          exact ⟨j0, jk, jn, b_s, b_vx, b_vy, b_vl⟩
         have eN := hN0.out
         try simp only [World.size_alloc, World.size_setCell, World.size_drew, World.heap_drewN] at eN
         have i_s : w.heap.size < N0 := by first | omega | (have h := os.lt; omega)
         have i_vx : p13 < N0 := by first | omega | (have h := ovx.lt; omega)
         have i_vy : p14 < N0 := by first | omega | (have h := ovy.lt; omega)
         have i_vl : w12.heap.size < N0 := by first | omega | (have h := ovl.lt; omega)
         have iw : w3.heap.size ≤ N0 := by first | omega | (have h := B.size; omega)
         clear cvx0 cvx1 cvx2 cvx3 lvx cvy0 cvy1 cvy2 cvy3 lvy cvl0 cvl1 cvl2 cvl3 lvl
         clear hN0
         apply Reg.RP rfl rfl rfl 141 rfl rfl
         ·
          intro D v' W' hc hj hf K hK
          obtain ⟨j0, jk, jn, b_s, b_vx, b_vy, b_vl⟩ := hj
          have c0 : W'.cell? ⟨p13, 0, none⟩ = some (.bool xa1) := b_vx.c 0 rfl
          have c1 : W'.cell? ⟨p13, 1, none⟩ = some (.slice xa2 xa3 xa4) := b_vx.c 1 rfl
          have c2 : W'.cell? ⟨p13, 2, none⟩ = some (.bool xa5) := b_vx.c 2 rfl
          have c3 : W'.cell? ⟨p13, 3, none⟩ = some (.slice xa6 xa7 xa8) := b_vx.c 3 rfl
          go_step
          exact hK.out
         · rfl
         apply Reg.RP rfl rfl rfl 142 rfl rfl
         ·
          intro D v' W' hc hj hf K hK
          obtain ⟨j0, jk, jn, b_s, b_vx, b_vy, b_vl⟩ := hj
          have c0 : W'.cell? ⟨p14, 0, none⟩ = some (.bool xb1) := b_vy.c 0 rfl
          have c1 : W'.cell? ⟨p14, 1, none⟩ = some (.slice xb2 xb3 xb4) := b_vy.c 1 rfl
          have c2 : W'.cell? ⟨p14, 2, none⟩ = some (.bool xb5) := b_vy.c 2 rfl
          have c3 : W'.cell? ⟨p14, 3, none⟩ = some (.slice xb6 xb7 xb8) := b_vy.c 3 rfl
          go_step
          exact hK.out
         · rfl
         apply Reg.RP rfl rfl rfl 143 rfl rfl
         ·
          intro D v' W' hc hj hf K hK
          go_step
          exact hK.out
         · rfl
         apply Reg.RP rfl rfl rfl 144 rfl rfl
         ·
          intro D v' W' hc hj hf K hK
          go_step
          exact hK.out
         · rfl
         apply Reg.RP rfl rfl rfl 145 rfl rfl
         ·
          intro D v' W' hc hj hf K hK
          go_step
          exact hK.out
         · rfl
         apply Reg.RP rfl rfl rfl 146 rfl rfl
         ·
          intro D v' W' hc hj hf K hK
          obtain ⟨j0, jk, jn, b_s, b_vx, b_vy, b_vl⟩ := hj
          have x0_ : W'.cell? ⟨b', of' + k * 2, none⟩ = some (.int .i64 (pt m k).1) := (j0.cell (p := ⟨b', _, none⟩) hbl').trans hmx
          have x1_ : W'.cell? ⟨b', of' + k * 2 + 1, none⟩ = some (.int .i64 (pt m k).2) := (j0.cell (p := ⟨b', _, none⟩) hbl').trans hmy
          go_step
          exact hK.out
         · rfl
         refine Reg.RC_call rfl (tlt rfl) rfl (fun D v' W' hc hj hf K hK => ?_) ?_
         ·
          obtain ⟨j0, jk, jn, b_s, b_vx, b_vy, b_vl⟩ := hj
          clear hf
          go_step
          refine (dik W' _ _ (Fxa.out.keeps jk) (Fxb.out.keeps jk)).mono ?_
          rintro e W2 ⟨u, rfl, hu, hs⟩
          obtain ⟨xe1, xe2, xe3, xe4, xe5, xe6, xe7, xe8, rfl⟩ := hu.shape
          exact hK.out _ W2 (Keeps.steps hs) ⟨jst j0 hs, jk.then_ hs, jsz jn hs, b_s.steps hs, b_vx.steps hs, b_vy.steps hs, b_vl.steps hs⟩ hu ⟨_, _, _, _, _, _, _, _, rfl⟩
         rintro _ ⟨xe1, xe2, xe3, xe4, xe5, xe6, xe7, xe8, rfl⟩
         refine Reg.RC_at (b := ⟨#[_,_,_,_,_,_,_,_,_,_,_,_,_,_,_,_,_,_,_,_,_,_,_,_,_,_,_,_,_,_,_,_,_,_,_,_,_,_,_,_,_,_,_,_,_,_,_,_,_,_,_,_,_,_,_,_,_,_,_,_,_,_,_,_,_,_,_,_,_,_,_,_,_,_,_,_,_,_,_,_,_,_,_,_,_,_,_,_,_,_,_,_,_,_,_,_,_,_,_,_,_,_,_,_,_,_,_,_,_,_,_,_,_,_,_,_,_,_,_,_,_,_,_,_,_,_,_,_,_,_,_,_,_,_,_,_,_,_,_,_,_,_,_,_,_,_,_,_,_,_,_,_,_,_,_,_,_,_,_,_,_,_,_,_,_,_,_,_,_,_,_,_,_,_,_,_,_,_,_,_,_,_], _⟩) rfl ?_
         apply Reg.RP rfl rfl rfl 148 rfl rfl
         ·
          intro D v' W' hc hj hf K hK
          obtain ⟨j0, jk, jn, b_s, b_vx, b_vy, b_vl⟩ := hj
          have c0 : W'.cell? ⟨w12.heap.size, 0, none⟩ = some (.bool xr1) := b_vl.c 0 rfl
          have c1 : W'.cell? ⟨w12.heap.size, 1, none⟩ = some (.slice xr2 xr3 xr4) := b_vl.c 1 rfl
          have c2 : W'.cell? ⟨w12.heap.size, 2, none⟩ = some (.bool xr5) := b_vl.c 2 rfl
          have c3 : W'.cell? ⟨w12.heap.size, 3, none⟩ = some (.slice xr6 xr7 xr8) := b_vl.c 3 rfl
          go_step
          exact hK.out
         · rfl
         refine Reg.RC_call rfl (tlt rfl) rfl (fun D v' W' hc hj hf K hK => ?_) ?_
         ·
          obtain ⟨j0, jk, jn, b_s, b_vx, b_vy, b_vl⟩ := hj
          have g6 : GFr ((DD i k)) _ W' := (hf (6, some 147) (.head _) rfl).2.2
          have g6 : FR W' _ ((DD i k)) := g6
          clear hf
          go_step
          refine (cik W' _ _ g6 (Fxr.out.keeps jk)).mono ?_
          rintro e W2 ⟨rfl, hs⟩
          exact hK.out _ W2 (Keeps.steps hs) ⟨jst j0 hs, jk.then_ hs, jsz jn hs, b_s.steps hs, b_vx.steps hs, b_vy.steps hs, b_vl.steps hs⟩ trivial rfl
         rintro _ rfl
         refine Reg.RC_at (b := ⟨#[_,_,_,_,_,_,_,_,_,_,_,_,_,_,_,_,_,_,_,_,_,_,_,_,_,_,_,_,_,_,_,_,_,_,_,_,_,_,_,_,_,_,_,_,_,_,_,_,_,_,_,_,_,_,_,_,_,_,_,_,_,_,_,_,_,_,_,_,_,_,_,_,_,_,_,_,_,_,_,_,_,_,_,_,_,_,_,_,_,_,_,_,_,_,_,_,_,_,_,_,_,_,_,_,_,_,_,_,_,_,_,_,_,_,_,_,_,_,_,_,_,_,_,_,_,_,_,_,_,_,_,_,_,_,_,_,_,_,_,_,_,_,_,_,_,_,_,_,_,_,_,_,_,_,_,_,_,_,_,_,_,_,_,_,_,_,_,_,_,_,_,_,_,_,_,_,_,_,_,_,_,_], _⟩) rfl ?_
         apply Reg.RP rfl rfl rfl 140 rfl rfl
         ·
          intro D v' W' hc hj hf K hK
          go_step
          exact hK.out
         · rfl
         apply Reg.RP rfl rfl rfl 150 rfl rfl
         ·
          intro D v' W' hc hj hf K hK
          go_step
          exact hK.out
         · rfl
         apply Reg.RP rfl rfl rfl 151 rfl rfl
         ·
          intro D v' W' hc hj hf K hK
          go_step
          exact hK.out
         · rfl
         apply Reg.RP rfl rfl rfl 20 rfl rfl
         ·
          intro D v' W' hc hj hf K hK
          go_step
          exact hK.out
         · rfl
         apply Reg.RP rfl rfl rfl 21 rfl rfl
         ·
          intro D v' W' hc hj hf K hK
          go_step
          exact hK.out
         · rfl
         refine Reg.RC_end (fun Dn v' w13 hd hj hf => ?_)
         obtain ⟨j0, jk, jn, b_s, b_vx, b_vy, b_vl⟩ := hj
         have B := j0
         have os := b_s
         clear b_s
         have ovx := b_vx
         clear b_vx
         have ovy := b_vy
         clear b_vy
         have ovl := b_vl
         clear b_vl
         replace Fxa := Hid.mk_ (Fxa.out.keeps jk)
         replace Fxb := Hid.mk_ (Fxb.out.keeps jk)
         replace Fxr := Hid.mk_ (Fxr.out.keeps jk)
         replace kk := kk.trans jk
         clear hd hf jk j0
         refine hQ _ _ ?_
         clear hQ hops Q' ops'
         have cp1 : w13.cell? ⟨b3, of3 + i, none⟩ = some (.int .i64 pk) := (B.cell (p := ⟨b3, _, none⟩) hb3).trans hp0
         have c0 : ¬ c = 0 := fun h => sss.out.2.2 ⟨h, by omega⟩
         have d3 : (c == 0) = false := by simpa using c0
         go_wp2_with fail
         go_roundw
         case rel => exact ⟨k + 1, by omega, by go_num, ownK, ownK, ownK, ownK, belowB, kk.trans keepsB⟩
         case measure => simp [intOf]; omega
        ·
         have hltM : decide ((k : Int) < (M : Int)) = false := decide_eq_false (by omega)
         go_wp2_with fail
         go_roundw
         case rel => exact ⟨i + 1, by omega, by go_num, ownK, belowB, kko.trans (kk.trans keepsB)⟩
         case measure => simp [intOf]; omega
     ·
      have hltN : decide ((i : Int) < (N : Int)) = false := decide_eq_false (by omega)
      go_wp2_with fail
      refine bodyPost_ret (by simp [results, Tryz.results6, go_sem, cs0, cs1, cs2, cs3, cs4, cs5, cs6, cs7, cs8, cs9, cs10, cs11, cs12, cs13, cs14, cs15, ls]; rfl) rfl ?_
      exact ⟨rfl, below_steps BP (Nat.le_refl _) belowB⟩
end Go.Proofs.YtffmbepfbienaaaGreat
