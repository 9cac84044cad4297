import Derived.Test.YtffmbepfbienaaaGreatDMf
import Derived.Test.YtffmbepfbienaaaGreatDMs
import Derived.Test.YtffmbepfbienaaaGreatDGluQ
import Derived.Test.YtffmbepfbienaaaGreatDVg
set_option linter.unusedVariables false
set_option linter.unusedSimpArgs false
namespace Go.Proofs.YtffmbepfbienaaaGreat
open Go.RowKit
theorem wp_build_bigO {P : Program} {o : Oper} {a : Act} {w : World} {K : Act → World → Prop} {Q : Exit → Act → World → Prop} (t : TypeId) (parts : Array (Nat × Operand)) (ho : o.op = .build t parts) (v : Array Value) (hv : P.built t (parts.map fun (i, x) => (i, a.eval x)).toList = some v)
  (h : K (a.put o.dst (.agg v)) w) : o.wp P a w K Q := wp_build t parts ho (by rw [hv]; rfl) (by rw [hv]; exact h)
set_option maxHeartbeats 6400000 in
set_option maxRecDepth 1000000 in
theorem pairs_walk {ka1 ka5 kb1 kb5 kc1 kc5 kd1 kd5 : Bool} {ka2 ka6 kb2 kb6 kc2 kc6 kd2 kd6 : Option Addr} {ka3 ka4 ka7 ka8 kb3 kb4 kb7 kb8 kc3 kc4 kc7 kc8 kd3 kd4 kd7 kd8 : Nat} {ua1 ua5 ub1 ub5 uc1 uc5 : Bool} {ua2 ua6 ub2 ub6 uc2 uc6 : Option Addr} {ua3 ua4 ua7 ua8 ub3 ub4 ub7 ub8 uc3 uc4 uc7 uc8 : Nat} {O OU : Nat → Option Rat} {vl vm vp : Value} {l m : PL} {p : List Int} {RR RA : Int} (rad n : Int) (w : World) (b0 : FB w (.agg #[.bool ka1, .slice ka2 ka3 ka4, .bool ka5, .slice ka6 ka7 ka8]) (O 0)) (b1 : FB w (.agg #[.bool kb1, .slice kb2 kb3 kb4, .bool kb5, .slice kb6 kb7 kb8]) (O 1)) (b2 : FB w (.agg #[.bool kc1, .slice kc2 kc3 kc4, .bool kc5, .slice kc6 kc7 kc8]) (O 2)) (b3 : FB w (.agg #[.bool kd1, .slice kd2 kd3 kd4, .bool kd5, .slice kd6 kd7 kd8]) (O 3)) (fw : FewL O (f4v ka3 kb3 kc3 kd3) (f4v ka7 kb7 kc7 kd7) 4) (hl : Pts w vl l) (hm : Pts w vm m) (c0 : FB w (.agg #[.bool ua1, .slice ua2 ua3 ua4, .bool ua5, .slice ua6 ua7 ua8]) (OU 0)) (c1 : FB w (.agg #[.bool ub1, .slice ub2 ub3 ub4, .bool ub5, .slice ub6 ub7 ub8]) (OU 1)) (c2 : FB w (.agg #[.bool uc1, .slice uc2 uc3 uc4, .bool uc5, .slice uc6 uc7 uc8]) (OU 2)) (fu : FewL OU (f4v ua3 ub3 uc3 uc3) (f4v ua7 ub7 uc7 uc7) 3) (hp : IntsR w vp p) :
  Calls Tryz.prog 5 #[.agg #[.bool ka1, .slice ka2 ka3 ka4, .bool ka5, .slice ka6 ka7 ka8, .bool kb1, .slice kb2 kb3 kb4, .bool kb5, .slice kb6 kb7 kb8, .bool kc1, .slice kc2 kc3 kc4, .bool kc5, .slice kc6 kc7 kc8, .bool kd1, .slice kd2 kd3 kd4, .bool kd5, .slice kd6 kd7 kd8], vl, vm, .int .i64 rad, .agg #[.bool ua1, .slice ua2 ua3 ua4, .bool ua5, .slice ua6 ua7 ua8, .int .i64 RR, .int .i64 RA, .bool ub1, .slice ub2 ub3 ub4, .bool ub5, .slice ub6 ub7 ub8, .bool uc1, .slice uc2 uc3 uc4, .bool uc5, .slice uc6 uc7 uc8], vp, .int .i64 n] w fun e w' => e = .returned (.bool true) ∧ Steps w w' := by
 have GR := fun w' (k : Keeps w w') => rGreat21 w' (b0.keeps k) (b1.keeps k) (b2.keeps k) (b3.keeps k)
 obtain ⟨o3, c3, -⟩ := raw_fb (w := w) (gx := false) (gy := false) (Lim.nil w) (Lim.nil w)
 have GU := fun w' (k : Keeps w w') => rGreat21 (O := f4v (OU 0) (OU 1) (OU 2) o3) w' (c0.keeps k) (c1.keeps k) (c2.keeps k) (c3.keeps k)
 have LL := fun w' (s : Steps w w') => llong 12 w' (hl.steps s)
 have LM := fun w' (s : Steps w w') => llong 12 w' (hm.steps s)
 have NL : ∀ k : Nat, longB 12 k = false → k ≤ 1000 := fun k h => by
  unfold longB at h
  rcases Nat.lt_or_ge 210 k with g | g
  · rw [decide_eq_true (show (210 : Int) < (k : Int) by omega), Bool.or_true] at h; cases h
  · omega
 have PA := fun (h1 : longB 12 l.length = false) (h2 : longB 12 m.length = false) w' (s : Steps w w') => mPairs rad w' (b0.keeps (Keeps.steps s)) (b1.keeps (Keeps.steps s)) (b2.keeps (Keeps.steps s)) (b3.keeps (Keeps.steps s)) fw (hl.steps s) (hm.steps s) (NL _ h1) (NL _ h2)
 have PB := fun (h1 : longB 12 l.length = false) (h2 : longB 12 m.length = false) w' (s : Steps w w') => prPairs rad w' (b0.keeps (Keeps.steps s)) (b1.keeps (Keeps.steps s)) (b2.keeps (Keeps.steps s)) (b3.keeps (Keeps.steps s)) fw (hl.steps s) (hm.steps s) (NL _ h1) (NL _ h2)
 have OA := fun w' (s : Steps w w') => mOdds (R := RR) (A := RA) (n := n) w' (c0.keeps (Keeps.steps s)) (c1.keeps (Keeps.steps s)) (c2.keeps (Keeps.steps s)) fu (hp.steps s)
 have OB := fun w' (s : Steps w w') => prOdds (R := RR) (A := RA) (n := n) w' (c0.keeps (Keeps.steps s)) (c1.keeps (Keeps.steps s)) (c2.keeps (Keeps.steps s)) fu (hp.steps s)
 have CA := fun w' (k : Keeps w w') => mCheck (R := RR) (A := RA) w' (c0.keeps k) (c1.keeps k) (c2.keeps k) fu
 have CB := fun w' (k : Keeps w w') => prCheck (R := RR) (A := RA) w' (c0.keeps k) (c1.keeps k) (c2.keeps k) fu
 have PZ : (pairsR (pairsE (chkP l) (chkP m) (limL 16 O (f4v ka3 kb3 kc3 kd3) (f4v ka7 kb7 kc7 kd7) 4) rad) (partners (fun i => (O i).getD 0) (rad : Rat) l m l.length)).length ≤ 100000 := by
  unfold pairsR
  split
  ·
   next h =>
   rw [partners_len]
   have hc : chkP l = 0 := by
    unfold pairsE at h
    by_cases hc : chkP l = 0
    · exact hc
    · rw [if_pos hc] at h; exact absurd h hc
   have := chk_short hc
   omega
  · simp
 generalize pairsR (pairsE (chkP l) (chkP m) (limL 16 O (f4v ka3 kb3 kc3 kd3) (f4v ka7 kb7 kc7 kd7) 4) rad) (partners (fun i => (O i).getD 0) (rad : Rat) l m l.length) = PQ at *
 generalize pairsE (chkP l) (chkP m) (limL 16 O (f4v ka3 kb3 kc3 kd3) (f4v ka7 kb7 kc7 kd7) 4) rad = PE at *
 generalize oddsR (oddsE (ruleOk OU (f4v ua3 ub3 uc3 uc3) (f4v ua7 ub7 uc7 uc7) RR RA ua1) p.length (okK p n p.length) n (decide (chanceQ RR RA n < 1))) (oddsQ (withQ ((OU 1).getD 0) (chanceQ RR RA n)) ((OU 1).getD 0) p noOut p.length) = OR at *
 generalize (oddsE (ruleOk OU (f4v ua3 ub3 uc3 uc3) (f4v ua7 ub7 uc7 uc7) RR RA ua1) p.length (okK p n p.length) n (decide (chanceQ RR RA n < 1))) = OE at *
 generalize apErr (ruleOk OU (f4v ua3 ub3 uc3 uc3) (f4v ua7 ub7 uc7 uc7) RR RA ua1) = AE at *
 obtain ⟨G1, hG1⟩ : ∃ z, grL (f4v ka3 kb3 kc3 kd3) (f4v ka7 kb7 kc7 kd7) 4 = z := ⟨_, rfl⟩
 obtain ⟨G2, hG2⟩ : ∃ z, grL (f4v ua3 ub3 uc3 0) (f4v ua7 ub7 uc7 0) 4 = z := ⟨_, rfl⟩
 rw [hG1] at GR
 rw [hG2] at GU
 generalize longB 12 l.length = B1 at *
 generalize longB 12 m.length = B2 at *
 obtain ⟨la, lc, rfl⟩ := hl.shape
 obtain ⟨ma, mc, rfl⟩ := hm.shape
 obtain ⟨pa, pc, rfl⟩ := hp.shape
 generalize l.length = N at *
 generalize m.length = M at *
 obtain ⟨Z, hZ⟩ : ∃ z, p.length = z := ⟨_, rfl⟩
 rw [hZ] at OA OB ⊢
 clear b0 b1 b2 b3 c0 c1 c2 c3 fw fu hl hm hp NL hZ hG1 hG2
 go_enter Tryz.func5, Tryz.ntmps5
 have kk := Keeps.refl w
 go_upto_region 1 with fail
 go_cut [57] (fun sl0  wx => (sl0 = .bool true ∨ (sl0 = .bool false ∧ B1 = false ∧ B2 = false)) ∧ Keeps w wx ∧ Blk wx (w.heap.size) 30 #[.bool ka1, .slice ka2 ka3 ka4, .bool ka5, .slice ka6 ka7 ka8, .bool kb1, .slice kb2 kb3 kb4, .bool kb5, .slice kb6 kb7 kb8, .bool kc1, .slice kc2 kc3 kc4, .bool kc5, .slice kc6 kc7 kc8, .bool kd1, .slice kd2 kd3 kd4, .bool kd5, .slice kd6 kd7 kd8] ∧ Blk wx (w.heap.size + 1) 45 #[.bool ua1, .slice ua2 ua3 ua4, .bool ua5, .slice ua6 ua7 ua8, .int .i64 RR, .int .i64 RA, .bool ub1, .slice ub2 ub3 ub4, .bool ub5, .slice ub6 ub7 ub8, .bool uc1, .slice uc2 uc3 uc4, .bool uc5, .slice uc6 uc7 uc8] ∧ Below w.heap.size w wx)
 case first =>
  have kk := Keeps.refl w
  clear PA PB OA OB CA CB PZ
  go_wp2_with (first
   | (
     (with_reducible show wpList _ _ _ (⟨some 23, _, _, _, _, _⟩ :: _) _ _)
     refine load_big rfl 30 (.tmp 7) rfl (w.heap.size) rfl 30 #[.bool ka1, .slice ka2 ka3 ka4, .bool ka5, .slice ka6 ka7 ka8, .bool kb1, .slice kb2 kb3 kb4, .bool kb5, .slice kb6 kb7 kb8, .bool kc1, .slice kc2 kc3 kc4, .bool kc5, .slice kc6 kc7 kc8, .bool kd1, .slice kd2 kd3 kd4, .bool kd5, .slice kd6 kd7 kd8] _ ownK Tryz.underlying30 rfl (by kernel_rfl) ?_
     skip)
   )
  refine (GR _ (kk.trans keepsB)).mono ?_
  rintro e w1 ⟨rfl, hb1⟩
  have st : Steps _ w1 := hb1
  have B : Below w.heap.size w w1 := belowA st
  have kp : Keeps w w1 := Keeps.then_ keepsB st
  replace kk := kk.trans kp
  have os : Blk w1 (w.heap.size) 30 #[.bool ka1, .slice ka2 ka3 ka4, .bool ka5, .slice ka6 ka7 ka8, .bool kb1, .slice kb2 kb3 kb4, .bool kb5, .slice kb6 kb7 kb8, .bool kc1, .slice kc2 kc3 kc4, .bool kc5, .slice kc6 kc7 kc8, .bool kd1, .slice kd2 kd3 kd4, .bool kd5, .slice kd6 kd7 kd8] := Blk.stepsK st
  have ou : Blk w1 (w.heap.size + 1) 45 #[.bool ua1, .slice ua2 ua3 ua4, .bool ua5, .slice ua6 ua7 ua8, .int .i64 RR, .int .i64 RA, .bool ub1, .slice ub2 ub3 ub4, .bool ub5, .slice ub6 ub7 ub8, .bool uc1, .slice uc2 uc3 uc4, .bool uc5, .slice uc6 uc7 uc8] := Blk.stepsK st
  clear kp
  clear st
  cases G1 with
  | true =>
   go_wp2_with fail
   go_meet
   exact ⟨.inl rfl, kk.trans keepsB, ownK, ownK, belowB⟩
  | false =>
   go_wp2_with fail
   refine (LL _ belowB).mono ?_
   rintro e w2 ⟨rfl, hb2⟩
   have st : Steps _ w2 := hb2
   have sk : Below w1.heap.size w1 w2 := belowA st
   replace B := below_steps B (Nat.le_refl _) sk
   replace os := os.steps sk
   replace ou := ou.steps sk
   replace kk := kk.then_ sk
   clear st sk
   cases B1 with
   | true =>
    go_wp2_with fail
    go_meet
    exact ⟨.inl rfl, kk.trans keepsB, ownK, ownK, belowB⟩
   | false =>
    go_wp2_with fail
    refine (LM _ belowB).mono ?_
    rintro e w3 ⟨rfl, hb3⟩
    have st : Steps _ w3 := hb3
    have sk : Below w2.heap.size w2 w3 := belowA st
    replace B := below_steps B (Nat.le_refl _) sk
    replace os := os.steps sk
    replace ou := ou.steps sk
    replace kk := kk.then_ sk
    clear st sk
    have ls := os.lt
    obtain ⟨cu0, cu1, cu2, cu3, cu4, cu5, cu6, cu7, cu8, cu9, cu10, cu11, cu12, cu13⟩ := ou.r13
    have lu := ou.lt
    cases B2 with
    | true =>
     go_wp2_with fail
     go_meet
     exact ⟨.inl rfl, kk.trans keepsB, ownK, ownK, belowB⟩
    | false =>
     dsimp only
     repeat' (first | ((with_reducible show Oper.wp _ ⟨some 40, _, _, _, _, _⟩ _ _ _ _); refine wp_build_bigO 30 #[(0, .tmp 35), (1, .tmp 37), (2, .tmp 39)] rfl #[.bool ua1, .slice ua2 ua3 ua4, .bool ua5, .slice ua6 ua7 ua8, .bool ub1, .slice ub2 ub3 ub4, .bool ub5, .slice ub6 ub7 ub8, .bool uc1, .slice uc2 uc3 uc4, .bool uc5, .slice uc6 uc7 uc8, .bool false, .slice none 0 0, .bool false, .slice none 0 0] (by kernel_rfl) ?_) | go_values | go_skip | go_guarded | go_step | go_upon)
     refine (GU _ (kk.trans keepsB)).mono ?_
     rintro e w4 ⟨rfl, hb4⟩
     have st : Steps _ w4 := hb4
     have sk : Below w3.heap.size w3 w4 := belowA st
     replace B := below_steps B (Nat.le_refl _) sk
     replace os := os.steps sk
     replace ou := ou.steps sk
     replace kk := kk.then_ sk
     clear st sk ls cu0 cu1 cu2 cu3 cu4 cu5 cu6 cu7 cu8 cu9 cu10 cu11 cu12 cu13 lu
     cases G2 with
     | true =>
      go_wp2_with fail
      go_meet
      exact ⟨.inl rfl, kk.trans keepsB, ownK, ownK, belowB⟩
     | false =>
      rcases (show (20 < (Z : Int) ∧ (Z : Int) ≤ 200) ∨ 210 < (Z : Int) ∨ (¬ 20 < (Z : Int) ∧ ¬ 210 < (Z : Int)) ∨ (20 < (Z : Int) ∧ ¬ (Z : Int) ≤ 200 ∧ ¬ 210 < (Z : Int)) by omega) with ⟨z1, z2⟩ | z1 | ⟨z1, z2⟩ | ⟨z1, z2, z3⟩
      ·
       go_wp2_with fail
       go_meet
       exact ⟨.inl rfl, kk.trans keepsB, ownK, ownK, belowB⟩
      ·
       have z2 : 20 < (Z : Int) := by omega
       have z3 : ¬ (Z : Int) ≤ 200 := by omega
       go_wp2_with fail
       go_meet
       exact ⟨.inl rfl, kk.trans keepsB, ownK, ownK, belowB⟩
      ·
       go_wp2_with fail
       go_meet
       exact ⟨.inr (by simp; omega), kk.trans keepsB, ownK, ownK, belowB⟩
      ·
       go_wp2_with fail
       go_meet
       exact ⟨.inr (by simp; omega), kk.trans keepsB, ownK, ownK, belowB⟩
 case rest =>
  obtain ⟨hz, kp, os, ou, B⟩ := hcut
  obtain ⟨w1, hw_⟩ : ∃ x, x = wc := ⟨_, rfl⟩
  subst hw_
  replace kk := kk.trans kp
  clear kp
  rcases hz with rfl | ⟨rfl, rfl, rfl⟩
  ·
   clear PA PB OA OB CA CB PZ
   go_wp2_with fail
   refine bodyPost_ret (by simp [results, Tryz.results5, go_sem, ]; rfl) rfl ?_
   exact ⟨rfl, belowB⟩
  ·
   go_wp2_with (first
    | (
      (with_reducible show wpList _ _ _ (⟨some 59, _, _, _, _, _⟩ :: _) _ _)
      refine load_big rfl 30 (.tmp 7) rfl (w.heap.size) rfl 30 #[.bool ka1, .slice ka2 ka3 ka4, .bool ka5, .slice ka6 ka7 ka8, .bool kb1, .slice kb2 kb3 kb4, .bool kb5, .slice kb6 kb7 kb8, .bool kc1, .slice kc2 kc3 kc4, .bool kc5, .slice kc6 kc7 kc8, .bool kd1, .slice kd2 kd3 kd4, .bool kd5, .slice kd6 kd7 kd8] _ ownK Tryz.underlying30 rfl (by kernel_rfl) ?_
      skip)
    )
   refine (PA (by simp) (by simp) _ belowB).mono ?_
   rintro e w2 ⟨vx, rfl, hvx, hb2⟩
   have st : Steps _ w2 := hb2
   have sk : Below w1.heap.size w1 w2 := belowA st
   replace B := below_steps B (Nat.le_refl _) sk
   replace os := os.steps sk
   replace ou := ou.steps sk
   replace kk := kk.then_ sk
   clear st sk
   obtain ⟨xa, xc, rfl⟩ := hvx.shape
   have HX := Hid.mk_ hvx
   clear hvx
   go_wp2_with (first
    | (
      (with_reducible show wpList _ _ _ (⟨some 67, _, _, _, _, _⟩ :: _) _ _)
      refine load_big rfl 30 (.tmp 7) rfl (w.heap.size) rfl 30 #[.bool ka1, .slice ka2 ka3 ka4, .bool ka5, .slice ka6 ka7 ka8, .bool kb1, .slice kb2 kb3 kb4, .bool kb5, .slice kb6 kb7 kb8, .bool kc1, .slice kc2 kc3 kc4, .bool kc5, .slice kc6 kc7 kc8, .bool kd1, .slice kd2 kd3 kd4, .bool kd5, .slice kd6 kd7 kd8] _ ownK Tryz.underlying30 rfl (by kernel_rfl) ?_
      skip)
    )
   refine (PB (by simp) (by simp) _ belowB).mono ?_
   rintro e w3 ⟨vy, rfl, hvy, hb3⟩
   have st : Steps _ w3 := hb3
   have sk : Below w2.heap.size w2 w3 := belowA st
   replace B := below_steps B (Nat.le_refl _) sk
   replace os := os.steps sk
   replace ou := ou.steps sk
   replace HX := Hid.mk_ (HX.out.steps sk)
   replace kk := kk.then_ sk
   clear st sk
   obtain ⟨ya, yc, rfl⟩ := hvy.shape
   have HY := Hid.mk_ hvy
   clear hvy
   go_wp2_with (first
    | (
      (with_reducible show wpList _ _ _ (⟨some 75, _, _, _, _, _⟩ :: _) _ _)
      refine load_big rfl 45 (.tmp 11) rfl (w.heap.size + 1) rfl 45 #[.bool ua1, .slice ua2 ua3 ua4, .bool ua5, .slice ua6 ua7 ua8, .int .i64 RR, .int .i64 RA, .bool ub1, .slice ub2 ub3 ub4, .bool ub5, .slice ub6 ub7 ub8, .bool uc1, .slice uc2 uc3 uc4, .bool uc5, .slice uc6 uc7 uc8] _ ownK Tryz.underlying45 rfl (by kernel_rfl) ?_
      skip)
    )
   refine (OA _ belowB).mono ?_
   rintro e w4 ⟨vxo, rfl, hvxo, hb4⟩
   have st : Steps _ w4 := hb4
   have sk : Below w3.heap.size w3 w4 := belowA st
   replace B := below_steps B (Nat.le_refl _) sk
   replace os := os.steps sk
   replace ou := ou.steps sk
   replace HX := Hid.mk_ (HX.out.steps sk)
   replace HY := Hid.mk_ (HY.out.steps sk)
   replace kk := kk.then_ sk
   clear st sk
   obtain ⟨xo1, xo2, xo3, xo4, xo5, xo6, xo7, xo8, rfl⟩ := FO.shape hvxo
   have Fxo := Hid.mk_ hvxo
   clear hvxo
   have zu_4 : w.heap.size + 1 < w4.heap.size := ou.lt
   have zz4 := B.size
   go_wp2_with (first
    | (
      (with_reducible show wpList _ _ _ (⟨some 82, _, _, _, _, _⟩ :: _) _ _)
      refine load_big rfl 45 (.tmp 11) rfl (w.heap.size + 1) rfl 45 #[.bool ua1, .slice ua2 ua3 ua4, .bool ua5, .slice ua6 ua7 ua8, .int .i64 RR, .int .i64 RA, .bool ub1, .slice ub2 ub3 ub4, .bool ub5, .slice ub6 ub7 ub8, .bool uc1, .slice uc2 uc3 uc4, .bool uc5, .slice uc6 uc7 uc8] _ ownK Tryz.underlying45 rfl (by kernel_rfl) ?_
      skip)
    )
   refine (OB _ belowB).mono ?_
   rintro e w5 ⟨vxp, rfl, hvxp, hb5⟩
   have st : Steps _ w5 := hb5
   have sk : Below w4.heap.size w4 w5 := belowA st
   replace B := below_steps B (Nat.le_refl _) sk
   have ovo : Blk w5 (w4.heap.size) 28 #[.bool xo1, .slice xo2 xo3 xo4, .bool xo5, .slice xo6 xo7 xo8] := Blk.stepsK st
   replace os := os.steps sk
   replace ou := ou.steps sk
   replace HX := Hid.mk_ (HX.out.steps sk)
   replace HY := Hid.mk_ (HY.out.steps sk)
   replace Fxo := Hid.mk_ (Fxo.out.steps sk)
   replace kk := kk.then_ sk
   clear st sk
   obtain ⟨xp1, xp2, xp3, xp4, xp5, xp6, xp7, xp8, rfl⟩ := FO.shape hvxp
   have Fxp := Hid.mk_ hvxp
   clear hvxp
   have zvo_5 : w4.heap.size < w5.heap.size := ovo.lt
   have zz5 := B.size
   go_wp2_with fail
   have SX : ∀ w', Steps w5 w' → Calls Tryz.prog 27 #[.slice xa PQ.length xc, .slice ya PQ.length yc] w' fun e w2 => e = .returned (.bool true) ∧ Steps w' w2 := fun w' s => rsameInts w' (HX.out.steps s) (HY.out.steps s) PZ
   clear HX HY PZ
   have hS : Blk (w5.alloc (.cells #[.bool xp1, .slice xp2 xp3 xp4, .bool xp5, .slice xp6 xp7 xp8] 28)) (w.heap.size) 30 #[.bool ka1, .slice ka2 ka3 ka4, .bool ka5, .slice ka6 ka7 ka8, .bool kb1, .slice kb2 kb3 kb4, .bool kb5, .slice kb6 kb7 kb8, .bool kc1, .slice kc2 kc3 kc4, .bool kc5, .slice kc6 kc7 kc8, .bool kd1, .slice kd2 kd3 kd4, .bool kd5, .slice kd6 kd7 kd8] ∧ Blk (w5.alloc (.cells #[.bool xp1, .slice xp2 xp3 xp4, .bool xp5, .slice xp6 xp7 xp8] 28)) (w.heap.size + 1) 45 #[.bool ua1, .slice ua2 ua3 ua4, .bool ua5, .slice ua6 ua7 ua8, .int .i64 RR, .int .i64 RA, .bool ub1, .slice ub2 ub3 ub4, .bool ub5, .slice ub6 ub7 ub8, .bool uc1, .slice uc2 uc3 uc4, .bool uc5, .slice uc6 uc7 uc8] ∧ Blk (w5.alloc (.cells #[.bool xp1, .slice xp2 xp3 xp4, .bool xp5, .slice xp6 xp7 xp8] 28)) (w4.heap.size) 28 #[.bool xo1, .slice xo2 xo3 xo4, .bool xo5, .slice xo6 xo7 xo8] ∧ Blk (w5.alloc (.cells #[.bool xp1, .slice xp2 xp3 xp4, .bool xp5, .slice xp6 xp7 xp8] 28)) (w5.heap.size) 28 #[.bool xp1, .slice xp2 xp3 xp4, .bool xp5, .slice xp6 xp7 xp8] ∧ Below w.heap.size w (w5.alloc (.cells #[.bool xp1, .slice xp2 xp3 xp4, .bool xp5, .slice xp6 xp7 xp8] 28)) ∧ Keeps w5 (w5.alloc (.cells #[.bool xp1, .slice xp2 xp3 xp4, .bool xp5, .slice xp6 xp7 xp8] 28)) ∧ Steps w5 (w5.alloc (.cells #[.bool xp1, .slice xp2 xp3 xp4, .bool xp5, .slice xp6 xp7 xp8] 28)) := ⟨ownK, ownK, ownK, ownK, belowB, keepsB, belowB⟩
   generalize w5.alloc (.cells #[.bool xp1, .slice xp2 xp3 xp4, .bool xp5, .slice xp6 xp7 xp8] 28) = wS at hS ⊢
   obtain ⟨ps, pu, pvo, pvp, BP, kS, sS⟩ := hS
   clear os ou ovo B
   have os := ps
   have ys : w.heap.size < wS.heap.size := os.lt
   have ou := pu
   have yu : w.heap.size + 1 < wS.heap.size := ou.lt
   have ovo := pvo
   have yvo : w4.heap.size < wS.heap.size := ovo.lt
   have ovp := pvp
   have yvp : w5.heap.size < wS.heap.size := ovp.lt
   clear ps pu pvo pvp
   replace Fxo := Hid.mk_ (Fxo.out.keeps kS)
   replace Fxp := Hid.mk_ (Fxp.out.keeps kS)
   replace SX := fun w' (s : Steps wS w') => SX w' (below_steps sS (Nat.le_refl _) s)
   have kw := kk.trans kS
   clear kk kS sS
   have kk := Keeps.refl wS
   have B := Below.refl wS.heap.size wS
   have ls := os.lt
   obtain ⟨cu0, cu1, cu2, cu3, cu4, cu5, cu6, cu7, cu8, cu9, cu10, cu11, cu12, cu13⟩ := ou.r13
   have lu := ou.lt
   obtain ⟨cvo0, cvo1, cvo2, cvo3⟩ := ovo.r3
   have lvo := ovo.lt
   obtain ⟨cvp0, cvp1, cvp2, cvp3⟩ := ovp.r3
   have lvp := ovp.lt
   go_upto_region 7 with fail
   refine Reg.wp_chain_n (fun N0 D v W => Below wS.heap.size wS W ∧ Keeps wS W ∧ N0 ≤ W.heap.size ∧ Blk W (w.heap.size) 30 #[.bool ka1, .slice ka2 ka3 ka4, .bool ka5, .slice ka6 ka7 ka8, .bool kb1, .slice kb2 kb3 kb4, .bool kb5, .slice kb6 kb7 kb8, .bool kc1, .slice kc2 kc3 kc4, .bool kc5, .slice kc6 kc7 kc8, .bool kd1, .slice kd2 kd3 kd4, .bool kd5, .slice kd6 kd7 kd8] ∧ Blk W (w.heap.size + 1) 45 #[.bool ua1, .slice ua2 ua3 ua4, .bool ua5, .slice ua6 ua7 ua8, .int .i64 RR, .int .i64 RA, .bool ub1, .slice ub2 ub3 ub4, .bool ub5, .slice ub6 ub7 ub8, .bool uc1, .slice uc2 uc3 uc4, .bool uc5, .slice uc6 uc7 uc8] ∧ Blk W (w4.heap.size) 28 #[.bool xo1, .slice xo2 xo3 xo4, .bool xo5, .slice xo6 xo7 xo8] ∧ Blk W (w5.heap.size) 28 #[.bool xp1, .slice xp2 xp3 xp4, .bool xp5, .slice xp6 xp7 xp8])
    (Reg.inl [1, 3, 8, 18]) (Reg.gv [(1, fun z_ => z_ = .int .i64 AE), (3, fun z_ => z_ = .int .i64 AE), (8, fun z_ => z_ = .bool true), (18, fun z_ => z_ = .bool true)]) (gw []) (fun _ => Keeps) (fun _ _ => False) (Reg.pl [(26, [(1, some 89), (3, some 91), (8, some 96), (18, some 106)])]) (Reg.pl [])
    (by kernel_rfl) (by kernel_rfl) (by kernel_rfl) (Reg.gvA _) (fun N0 hN0 => ⟨fun v => ?_, fun D v v' W hv hj => ?_, fun D v k j W W' x _ _ _ _ hk hg => gw_keeps _ (by intro p hp; cases hp) hk hg, fun _ _ _ _ h => h.elim, fun ops' Q' hops hQ => ?_⟩)
   · exact ⟨belowB, keepsB, by first | with_reducible exact Nat.le_of_eq hN0.out | (simp only [World.size_drew]; with_reducible exact Nat.le_of_eq hN0.out), ownK, ownK, ownK, ownK⟩
   ·
    obtain ⟨j0, jk, jn, b_s, b_u, b_vo, b_vp⟩ := hj
    exact ⟨j0, jk, jn, b_s, b_u, b_vo, b_vp⟩
   have eN := hN0.out
   try simp only [World.size_alloc, World.size_setCell, World.size_drew, World.heap_drewN] at eN
   have i_s : w.heap.size < N0 := by first | omega | (have h := os.lt; omega)
   have i_u : w.heap.size + 1 < N0 := by first | omega | (have h := ou.lt; omega)
   have i_vo : w4.heap.size < N0 := by first | omega | (have h := ovo.lt; omega)
   have i_vp : w5.heap.size < N0 := by first | omega | (have h := ovp.lt; omega)
   have iw : wS.heap.size ≤ N0 := by first | omega | (have h := B.size; omega)
   clear ls cu0 cu1 cu2 cu3 cu4 cu5 cu6 cu7 cu8 cu9 cu10 cu11 cu12 cu13 lu cvo0 cvo1 cvo2 cvo3 lvo cvp0 cvp1 cvp2 cvp3 lvp
   clear hN0
   apply Reg.RP rfl rfl rfl 88 rfl rfl
   ·
    intro D v' W' hc hj hf K hK
    obtain ⟨j0, jk, jn, b_s, b_u, b_vo, b_vp⟩ := hj
    obtain ⟨c0, c1, c2, c3, c4, c5, c6, c7, c8, c9, c10, c11, c12, c13⟩ := b_u.r13
    go_step
    exact hK.out
   · rfl
   refine Reg.RC_call rfl (tlt rfl) rfl (fun D v' W' hc hj hf K hK => ?_) ?_
   ·
    obtain ⟨j0, jk, jn, b_s, b_u, b_vo, b_vp⟩ := hj
    clear hf
    go_step
    refine (CA W' (kw.trans jk)).mono ?_
    rintro e W2 ⟨rfl, hs⟩
    exact hK.out _ W2 (Keeps.steps hs) ⟨jst j0 hs, jk.then_ hs, jsz jn hs, b_s.steps hs, b_u.steps hs, b_vo.steps hs, b_vp.steps hs⟩ trivial rfl
   rintro _ rfl
   refine Reg.RC_at (b := ⟨#[_,_,_,_,_,_,_,_,_,_,_,_,_,_,_,_,_,_,_,_,_,_,_,_,_,_,_,_,_,_,_,_,_,_,_,_,_,_,_,_,_,_,_,_,_,_,_,_,_,_,_,_,_,_,_,_,_,_,_,_,_,_,_,_,_,_,_,_,_,_,_,_,_,_,_,_,_,_,_,_,_,_,_,_,_,_,_,_,_,_,_,_,_,_,_,_,_,_,_,_,_,_,_,_,_,_,_,_,_,_,_,_,_], _⟩) rfl ?_
   apply Reg.RP rfl rfl rfl 90 rfl rfl
   ·
    intro D v' W' hc hj hf K hK
    obtain ⟨j0, jk, jn, b_s, b_u, b_vo, b_vp⟩ := hj
    obtain ⟨c0, c1, c2, c3, c4, c5, c6, c7, c8, c9, c10, c11, c12, c13⟩ := b_u.r13
    go_step
    exact hK.out
   · rfl
   refine Reg.RC_call rfl (tlt rfl) rfl (fun D v' W' hc hj hf K hK => ?_) ?_
   ·
    obtain ⟨j0, jk, jn, b_s, b_u, b_vo, b_vp⟩ := hj
    clear hf
    go_step
    refine (CB W' (kw.trans jk)).mono ?_
    rintro e W2 ⟨rfl, hs⟩
    exact hK.out _ W2 (Keeps.steps hs) ⟨jst j0 hs, jk.then_ hs, jsz jn hs, b_s.steps hs, b_u.steps hs, b_vo.steps hs, b_vp.steps hs⟩ trivial rfl
   rintro _ rfl
   refine Reg.RC_at (b := ⟨#[_,_,_,_,_,_,_,_,_,_,_,_,_,_,_,_,_,_,_,_,_,_,_,_,_,_,_,_,_,_,_,_,_,_,_,_,_,_,_,_,_,_,_,_,_,_,_,_,_,_,_,_,_,_,_,_,_,_,_,_,_,_,_,_,_,_,_,_,_,_,_,_,_,_,_,_,_,_,_,_,_,_,_,_,_,_,_,_,_,_,_,_,_,_,_,_,_,_,_,_,_,_,_,_,_,_,_,_,_,_,_,_,_], _⟩) rfl ?_
   refine Reg.RP0 92 ?_
   refine Reg.RP0 93 ?_
   apply Reg.RP rfl rfl (by rw [hops]; rfl) 94 rfl rfl
   ·
    intro D v' W' hc hj hf K hK
    go_step
    exact hK.out
   · rfl
   apply Reg.RP rfl rfl (by rw [hops]; rfl) 95 rfl rfl
   ·
    intro D v' W' hc hj hf K hK
    go_step
    exact hK.out
   · rfl
   refine Reg.RC_call rfl (tlt rfl) (by rw [hops]; rfl) (fun D v' W' hc hj hf K hK => ?_) ?_
   ·
    obtain ⟨j0, jk, jn, b_s, b_u, b_vo, b_vp⟩ := hj
    clear hf
    go_step
    refine (SX W' j0).mono ?_
    rintro e W2 ⟨rfl, hs⟩
    exact hK.out _ W2 (Keeps.steps hs) ⟨jst j0 hs, jk.then_ hs, jsz jn hs, b_s.steps hs, b_u.steps hs, b_vo.steps hs, b_vp.steps hs⟩ trivial rfl
   rintro _ rfl
   refine Reg.RC_at (b := ⟨#[_,_,_,_,_,_,_,_,_,_,_,_,_,_,_,_,_,_,_,_,_,_,_,_,_,_,_,_,_,_,_,_,_,_,_,_,_,_,_,_,_,_,_,_,_,_,_,_,_,_,_,_,_,_,_,_,_,_,_,_,_,_,_,_,_,_,_,_,_,_,_,_,_,_,_,_,_,_,_,_,_,_,_,_,_,_,_,_,_,_,_,_,_,_,_,_,_,_,_,_,_,_,_,_,_,_,_,_,_,_,_,_,_], _⟩) rfl ?_
   refine Reg.RP0 97 ?_
   refine Reg.RP0 98 ?_
   apply Reg.RP rfl rfl (by rw [hops]; rfl) 99 rfl rfl
   ·
    intro D v' W' hc hj hf K hK
    go_step
    exact hK.out
   · rfl
   apply Reg.RP rfl rfl (by rw [hops]; rfl) 100 rfl rfl
   ·
    intro D v' W' hc hj hf K hK
    go_step
    exact hK.out
   · rfl
   apply Reg.RP rfl rfl (by rw [hops]; rfl) 101 rfl rfl
   ·
    intro D v' W' hc hj hf K hK
    go_step
    exact hK.out
   · rfl
   refine Reg.RP0 102 ?_
   refine Reg.RP0 103 ?_
   apply Reg.RP rfl rfl (by rw [hops]; rfl) 104 rfl rfl
   ·
    intro D v' W' hc hj hf K hK
    obtain ⟨j0, jk, jn, b_s, b_u, b_vo, b_vp⟩ := hj
    obtain ⟨c0, c1, c2, c3⟩ := b_vo.r3
    go_step
    exact hK.out
   · rfl
   apply Reg.RP rfl rfl (by rw [hops]; rfl) 105 rfl rfl
   ·
    intro D v' W' hc hj hf K hK
    obtain ⟨j0, jk, jn, b_s, b_u, b_vo, b_vp⟩ := hj
    obtain ⟨c0, c1, c2, c3⟩ := b_vp.r3
    go_step
    exact hK.out
   · rfl
   refine Reg.RC_call rfl (tlt rfl) (by rw [hops]; rfl) (fun D v' W' hc hj hf K hK => ?_) ?_
   ·
    obtain ⟨j0, jk, jn, b_s, b_u, b_vo, b_vp⟩ := hj
    clear hf
    go_step
    refine (rsameFO W' (Fxo.out.keeps jk) (Fxp.out.keeps jk)).mono ?_
    rintro e W2 ⟨rfl, hs⟩
    exact hK.out _ W2 (Keeps.steps hs) ⟨jst j0 hs, jk.then_ hs, jsz jn hs, b_s.steps hs, b_u.steps hs, b_vo.steps hs, b_vp.steps hs⟩ trivial rfl
   rintro _ rfl
   refine Reg.RC_at (b := ⟨#[_,_,_,_,_,_,_,_,_,_,_,_,_,_,_,_,_,_,_,_,_,_,_,_,_,_,_,_,_,_,_,_,_,_,_,_,_,_,_,_,_,_,_,_,_,_,_,_,_,_,_,_,_,_,_,_,_,_,_,_,_,_,_,_,_,_,_,_,_,_,_,_,_,_,_,_,_,_,_,_,_,_,_,_,_,_,_,_,_,_,_,_,_,_,_,_,_,_,_,_,_,_,_,_,_,_,_,_,_,_,_,_,_], _⟩) rfl ?_
   refine Reg.RP0 107 ?_
   refine Reg.RP0 108 ?_
   apply Reg.RP rfl rfl (by rw [hops]; rfl) 109 rfl rfl
   ·
    intro D v' W' hc hj hf K hK
    go_step
    exact hK.out
   · rfl
   apply Reg.RP rfl rfl (by rw [hops]; rfl) 110 rfl rfl
   ·
    intro D v' W' hc hj hf K hK
    go_step
    exact hK.out
   · rfl
   apply Reg.RP rfl rfl (by rw [hops]; rfl) 111 rfl rfl
   ·
    intro D v' W' hc hj hf K hK
    go_step
    exact hK.out
   · rfl
   refine Reg.RP0 112 ?_
   refine Reg.RP0 14 ?_
   refine Reg.RC_end (fun Dn v' w21 hd hj hf => ?_)
   obtain ⟨j0, jk, jn, b_s, b_u, b_vo, b_vp⟩ := hj
   have B := j0
   have os := b_s
   clear b_s
   have ou := b_u
   clear b_u
   have ovo := b_vo
   clear b_vo
   have ovp := b_vp
   clear b_vp
   replace Fxo := Hid.mk_ (Fxo.out.keeps jk)
   replace Fxp := Hid.mk_ (Fxp.out.keeps jk)
   replace kk := kk.trans jk
   clear hd hf jk j0
   refine hQ _ _ ?_
   clear hQ hops Q' ops'
   go_wp2_with fail
   refine bodyPost_ret (by simp [results, Tryz.results5, go_sem, ]; rfl) rfl ?_
   exact ⟨rfl, below_steps BP (Nat.le_refl _) belowB⟩
end Go.Proofs.YtffmbepfbienaaaGreat
