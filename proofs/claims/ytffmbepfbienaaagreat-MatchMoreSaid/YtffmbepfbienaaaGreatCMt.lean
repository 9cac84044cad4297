import Derived.Test.YtffmbepfbienaaaGreatCMf
namespace Go.Proofs.YtffmbepfbienaaaGreat
open Go.RowKit
set_option maxHeartbeats 6400000 in
set_option maxRecDepth 1000000 in
theorem prCheck {ua1 ua5 ub1 ub5 uc1 uc5 : Bool} {ua2 ua6 ub2 ub6 uc2 uc6 : Option Addr} {ua3 ua4 ua7 ua8 ub3 ub4 ub7 ub8 uc3 uc4 uc7 uc8 : Nat} {R A : Int} {O : Nat → Option Rat} (w : World) (b0 : FB w (.agg #[.bool ua1, .slice ua2 ua3 ua4, .bool ua5, .slice ua6 ua7 ua8]) (O 0)) (b1 : FB w (.agg #[.bool ub1, .slice ub2 ub3 ub4, .bool ub5, .slice ub6 ub7 ub8]) (O 1)) (b2 : FB w (.agg #[.bool uc1, .slice uc2 uc3 uc4, .bool uc5, .slice uc6 uc7 uc8]) (O 2)) (fw : FewL O (f4v ua3 ub3 uc3 uc3) (f4v ua7 ub7 uc7 uc7) 3) :
    Calls Tryz.prog 18 #[.agg #[.bool ua1, .slice ua2 ua3 ua4, .bool ua5, .slice ua6 ua7 ua8, .int .i64 R, .int .i64 A, .bool ub1, .slice ub2 ub3 ub4, .bool ub5, .slice ub6 ub7 ub8, .bool uc1, .slice uc2 uc3 uc4, .bool uc5, .slice uc6 uc7 uc8]] w fun e w' => e = .returned (.int .i64 (apErr (ruleOk O (f4v ua3 ub3 uc3 uc3) (f4v ua7 ub7 uc7 uc7) R A ua1))) ∧ Steps w w' := by
  obtain ⟨K, hK⟩ : ∃ k, ruleOk O (f4v ua3 ub3 uc3 uc3) (f4v ua7 ub7 uc7 uc7) R A ua1 = k := ⟨_, rfl⟩
  have KF : ∀ (P : Prop), (ruleOk O (f4v ua3 ub3 uc3 uc3) (f4v ua7 ub7 uc7 uc7) R A ua1 = true → P) → ¬ P → K = false := fun P h1 h2 => by
    cases hk : K with
    | false => rfl
    | true => exact absurd (h1 (hK.trans hk)) h2
  have KL := fun (h : limL 2 O (f4v ua3 ub3 uc3 uc3) (f4v ua7 ub7 uc7 uc7) 3 = false) => KF (limL 2 O (f4v ua3 ub3 uc3 uc3) (f4v ua7 ub7 uc7 uc7) 3 = true) (fun g => (ruleOk_iff.1 g).1) (by rw [h]; decide)
  have KR := KF _ (fun g => (ruleOk_iff.1 g).2.1)
  have KN := fun (h : ua1 = true) => KF (ua1 = false) (fun g => (ruleOk_iff.1 g).2.2.1) (by rw [h]; decide)
  have K1 := fun (h : cmpQ ((O 1).getD 0) 0 ≤ 0) => KF _ (fun g => (ruleOk_iff.1 g).2.2.2.1) (fun g => absurd (cmpQ_gt.2 g) (by omega))
  have K2 := fun (h : ¬ cmpQ ((O 1).getD 0) 1 < 0) => KF _ (fun g => (ruleOk_iff.1 g).2.2.2.2.1) (fun g => h (cmpQ_lt.2 g))
  have K3 := fun (h : cmpQ ((O 2).getD 0) 0 ≤ 0) => KF _ (fun g => (ruleOk_iff.1 g).2.2.2.2.2) (fun g => absurd (cmpQ_gt.2 g) (by omega))
  have KT : limL 2 O (f4v ua3 ub3 uc3 uc3) (f4v ua7 ub7 uc7 uc7) 3 = true → (1 ≤ R ∧ R ≤ 65536 ∧ 1 ≤ A ∧ A ≤ 17592186044416) → ua1 = false → ¬ cmpQ ((O 1).getD 0) 0 ≤ 0 → cmpQ ((O 1).getD 0) 1 < 0 → ¬ cmpQ ((O 2).getD 0) 0 ≤ 0 → K = true := fun h1 h2 h3 h4 h5 h6 => hK.symm.trans (ruleOk_iff.2 ⟨h1, h2, h3, cmpQ_gt.1 (by omega), cmpQ_lt.1 h5, cmpQ_gt.1 (by omega)⟩)
  have FQ : limL 2 O (f4v ua3 ub3 uc3 uc3) (f4v ua7 ub7 uc7 uc7) 3 = true → (∃ r, O 1 = some r ∧ (O 1).getD 0 = r ∧ sz r 2) ∧ ∃ r, O 2 = some r ∧ (O 2).getD 0 = r ∧ sz r 2 := fun h => by
    obtain ⟨r1, e1, z1⟩ := limL_sz h fw 1 (by omega)
    obtain ⟨r2, e2, z2⟩ := limL_sz h fw 2 (by omega)
    exact ⟨⟨r1, e1, by rw [e1]; rfl, z1⟩, ⟨r2, e2, by rw [e2]; rfl, z2⟩⟩
  have S0 : ∀ w', Keeps w w' → Calls Tryz.prog 45 #[.agg #[.bool ua1, .slice ua2 ua3 ua4, .bool ua5, .slice ua6 ua7 ua8]] w' fun e w2 => e = .returned (.bool (limF 2 (O 0) ua3 ua7)) ∧ Steps w' w2 := fun w' k => pshort w' (b0.keeps k)
  have S1 : ∀ w', Keeps w w' → Calls Tryz.prog 45 #[.agg #[.bool ub1, .slice ub2 ub3 ub4, .bool ub5, .slice ub6 ub7 ub8]] w' fun e w2 => e = .returned (.bool (limF 2 (O 1) ub3 ub7)) ∧ Steps w' w2 := fun w' k => pshort w' (b1.keeps k)
  have S2 : ∀ w', Keeps w w' → Calls Tryz.prog 45 #[.agg #[.bool uc1, .slice uc2 uc3 uc4, .bool uc5, .slice uc6 uc7 uc8]] w' fun e w2 => e = .returned (.bool (limF 2 (O 2) uc3 uc7)) ∧ Steps w' w2 := fun w' k => pshort w' (b2.keeps k)
  have WH : ∀ x : Int, -9223372036854775808 ≤ x → x ≤ 9223372036854775807 → ∀ w', Calls Tryz.prog 47 #[.int .i64 x] w' fun e w2 => ∃ v, e = .returned v ∧ FR w2 v (x : Rat) ∧ Steps w' w2 := fun x h0 h1 w' => rwhole x w' h0 h1
  have O0 := fun w' => by have := WH 0 (by decide) (by decide) w'; rw [zero_cast] at this; exact this
  have O1 := fun w' => by have := WH 1 (by decide) (by decide) w'; rw [one_cast] at this; exact this
  clear WH
  have LE : limL 2 O (f4v ua3 ub3 uc3 uc3) (f4v ua7 ub7 uc7 uc7) 3 = ((limF 2 (O 0) ua3 ua7) && (limF 2 (O 1) ub3 ub7) && (limF 2 (O 2) uc3 uc7)) := limL3
  rw [LE] at KL KT FQ
  rw [hK]
  generalize limF 2 (O 0) ua3 ua7 = l0 at *
  generalize limF 2 (O 1) ub3 ub7 = l1 at *
  generalize limF 2 (O 2) uc3 uc7 = l2 at *
  clear LE KF hK
  go_enter Tryz.func18, Tryz.ntmps18
  have kk := Keeps.refl w
  go_wp2_with fail
  refine (S0 _ (kk.trans keepsB)).mono ?_
  rintro e w1 ⟨rfl, hb1⟩
  have st : Steps _ w1 := hb1
  have B : Below w.heap.size w w1 := belowA st
  have kp : Keeps w w1 := Keeps.then_ keepsB st
  replace kk := kk.trans kp
  have nu : Blk w1 (w.heap.size) 45 #[.bool ua1, .slice ua2 ua3 ua4, .bool ua5, .slice ua6 ua7 ua8, .int .i64 R, .int .i64 A, .bool ub1, .slice ub2 ub3 ub4, .bool ub5, .slice ub6 ub7 ub8, .bool uc1, .slice uc2 uc3 uc4, .bool uc5, .slice uc6 uc7 uc8] := Blk.stepsK st
  have ou := nu
  clear nu
  clear kp
  clear st
  have cu0 := ou.q0
  have cu1 := ou.q1
  have cu2 := ou.q2
  have cu3 := ou.q3
  have cu4 := ou.q4
  have cu5 := ou.q5
  have cu6 := ou.q6
  have cu7 := ou.q7
  have cu8 := ou.q8
  have cu9 := ou.q9
  have cu10 := ou.q10
  have cu11 := ou.q11
  have cu12 := ou.q12
  have cu13 := ou.q13
  have lu := ou.lt
  cases l0 with
  | false =>
    have e0 := KL (by simp)
    subst e0
    clear KL KR KN K1 K2 K3 KT FQ O0 O1 b0 b1 b2 fw S0 S1 S2
    go_wp2
    go_returns
    exact ⟨rfl, belowB⟩
  | true =>
    go_wp2_with fail
    refine (S1 _ (kk.trans keepsB)).mono ?_
    rintro e w2 ⟨rfl, hb2⟩
    have st : Steps _ w2 := hb2
    have sk : Below w1.heap.size w1 w2 := belowA st
    replace B := below_steps B (Nat.le_refl _) sk
    replace ou := ou.steps sk
    replace kk := kk.then_ sk
    clear st sk cu0 cu1 cu2 cu3 cu4 cu5 cu6 cu7 cu8 cu9 cu10 cu11 cu12 cu13 lu
    have cu0 := ou.q0
    have cu1 := ou.q1
    have cu2 := ou.q2
    have cu3 := ou.q3
    have cu4 := ou.q4
    have cu5 := ou.q5
    have cu6 := ou.q6
    have cu7 := ou.q7
    have cu8 := ou.q8
    have cu9 := ou.q9
    have cu10 := ou.q10
    have cu11 := ou.q11
    have cu12 := ou.q12
    have cu13 := ou.q13
    have lu := ou.lt
    cases l1 with
    | false =>
      have e0 := KL (by simp)
      subst e0
      clear KL KR KN K1 K2 K3 KT FQ O0 O1 b0 b1 b2 fw S0 S1 S2
      go_wp2
      go_returns
      exact ⟨rfl, belowB⟩
    | true =>
      go_wp2_with fail
      refine (S2 _ (kk.trans keepsB)).mono ?_
      rintro e w3 ⟨rfl, hb3⟩
      have st : Steps _ w3 := hb3
      have sk : Below w2.heap.size w2 w3 := belowA st
      replace B := below_steps B (Nat.le_refl _) sk
      replace ou := ou.steps sk
      replace kk := kk.then_ sk
      clear st sk cu0 cu1 cu2 cu3 cu4 cu5 cu6 cu7 cu8 cu9 cu10 cu11 cu12 cu13 lu
      have cu0 := ou.q0
      have cu1 := ou.q1
      have cu2 := ou.q2
      have cu3 := ou.q3
      have cu4 := ou.q4
      have cu5 := ou.q5
      have cu6 := ou.q6
      have cu7 := ou.q7
      have cu8 := ou.q8
      have cu9 := ou.q9
      have cu10 := ou.q10
      have cu11 := ou.q11
      have cu12 := ou.q12
      have cu13 := ou.q13
      have lu := ou.lt
      cases l2 with
      | false =>
        have e0 := KL (by simp)
        subst e0
        clear KL KR KN K1 K2 K3 KT FQ O0 O1 b0 b1 b2 fw S0 S1 S2
        go_wp2
        go_returns
        exact ⟨rfl, belowB⟩
      | true =>
        have KT' := KT rfl
        obtain ⟨⟨r1, e1, q1, z1⟩, r2, e2, q2, z2⟩ := FQ rfl
        clear KT KL FQ
        rw [e1] at b1
        rw [e2] at b2
        rw [q1] at K1 K2 KT'
        rw [q2] at K3 KT'
        have F1 : Hid (FR w (.agg #[.bool ub1, .slice ub2 ub3 ub4, .bool ub5, .slice ub6 ub7 ub8]) r1) := Hid.mk_ b1
        have F2 : Hid (FR w (.agg #[.bool uc1, .slice uc2 uc3 uc4, .bool uc5, .slice uc6 uc7 uc8]) r2) := Hid.mk_ b2
        replace F1 := Hid.mk_ (F1.out.keeps (kk.trans keepsB))
        replace F2 := Hid.mk_ (F2.out.keeps (kk.trans keepsB))
        clear e1 e2 q1 q2 fw b0 b1 b2 S0 S1 S2
        obtain ⟨c1, hc1⟩ : ∃ c, cmpQ r1 0 = c := ⟨_, rfl⟩
        obtain ⟨c2, hc2⟩ : ∃ c, cmpQ r1 1 = c := ⟨_, rfl⟩
        obtain ⟨c3, hc3⟩ : ∃ c, cmpQ r2 0 = c := ⟨_, rfl⟩
        rw [hc1] at K1 KT'
        rw [hc2] at K2 KT'
        rw [hc3] at K3 KT'
        have CM1 : ∀ (w' : World) (u v : Value), FR w' u r1 → FR w' v 0 → Calls Tryz.prog 46 #[u, v] w' fun e w2 => e = .returned (.int .i64 c1) ∧ Steps w' w2 := fun w' u v h1 h2 => by have := prcmp w' h1 h2 z1 sz_nil (by omega); rw [hc1] at this; exact this
        have CM2 : ∀ (w' : World) (u v : Value), FR w' u r1 → FR w' v 1 → Calls Tryz.prog 46 #[u, v] w' fun e w2 => e = .returned (.int .i64 c2) ∧ Steps w' w2 := fun w' u v h1 h2 => by have := prcmp w' h1 h2 z1 sz_1 (by omega); rw [hc2] at this; exact this
        have CM3 : ∀ (w' : World) (u v : Value), FR w' u r2 → FR w' v 0 → Calls Tryz.prog 46 #[u, v] w' fun e w2 => e = .returned (.int .i64 c3) ∧ Steps w' w2 := fun w' u v h1 h2 => by have := prcmp w' h1 h2 z2 sz_nil (by omega); rw [hc3] at this; exact this
        clear hc1 hc2 hc3 z1 z2
        cases ua1 with
        | true =>
          have e0 := KN (by simp)
          subst e0
          clear KR KN K1 K2 K3 KT' O0 O1 CM1 CM2 CM3 F1 F2
          go_wp2
          go_returns
          exact ⟨rfl, belowB⟩
        | false =>
          clear KN
          rcases (show R < 1 ∨ (¬ R < 1 ∧ 65536 < R) ∨ (¬ R < 1 ∧ ¬ 65536 < R ∧ A < 1) ∨ (¬ R < 1 ∧ ¬ 65536 < R ∧ ¬ A < 1 ∧ 17592186044416 < A) ∨ (¬ R < 1 ∧ ¬ 65536 < R ∧ ¬ A < 1 ∧ ¬ 17592186044416 < A) by omega) with g1 | ⟨g1, g2⟩ | ⟨g1, g2, g3⟩ | ⟨g1, g2, g3, g4⟩ | ⟨g1, g2, g3, g4⟩
          · have e0 := KR (by omega)
            subst e0
            clear KR K1 K2 K3 KT' O0 O1 CM1 CM2 CM3 F1 F2
            go_wp2
            go_returns
            exact ⟨rfl, belowB⟩
          · have e0 := KR (by omega)
            subst e0
            clear KR K1 K2 K3 KT' O0 O1 CM1 CM2 CM3 F1 F2
            go_wp2
            go_returns
            exact ⟨rfl, belowB⟩
          · have e0 := KR (by omega)
            subst e0
            clear KR K1 K2 K3 KT' O0 O1 CM1 CM2 CM3 F1 F2
            go_wp2
            go_returns
            exact ⟨rfl, belowB⟩
          · have e0 := KR (by omega)
            subst e0
            clear KR K1 K2 K3 KT' O0 O1 CM1 CM2 CM3 F1 F2
            go_wp2
            go_returns
            exact ⟨rfl, belowB⟩
          · skip
            have KT2 := KT' ⟨by omega, by omega, by omega, by omega⟩ rfl
            clear KT' KR
            go_wp2_with fail
            by_cases h1 : c1 ≤ 0
            · skip
              have e0 := K1 (by omega)
              subst e0
              clear K1 K2 K3 KT2
              have zu_3 : w.heap.size < w3.heap.size := ou.lt
              have zz3 := B.size
              go_upto_region 3 with fail
              refine Reg.wp_chain_n (fun N0 D v W => Below w.heap.size w W ∧ Keeps w3 W ∧ N0 ≤ W.heap.size ∧ Blk W (w.heap.size) 45 #[.bool false, .slice ua2 ua3 ua4, .bool ua5, .slice ua6 ua7 ua8, .int .i64 R, .int .i64 A, .bool ub1, .slice ub2 ub3 ub4, .bool ub5, .slice ub6 ub7 ub8, .bool uc1, .slice uc2 uc3 uc4, .bool uc5, .slice uc6 uc7 uc8])
                (Reg.inl [2, 3]) (Reg.gv [(2, IsFr), (3, fun z_ => z_ = .int .i64 c1)]) (gw [(2, GFr (0))]) (fun _ => Keeps) (fun _ _ => False) (Reg.pl [(3, [(2, some 47)]), (19, [(2, some 47), (3, some 48)])]) (Reg.pl [])
                (by kernel_rfl) (by kernel_rfl) (by kernel_rfl) (Reg.gv_some _ (by intro p hp; simp only [List.mem_cons, List.not_mem_nil, or_false] at hp; rcases hp with rfl | rfl <;> first | exact ⟨_, rfl⟩ | exact ⟨_, 0, rfl⟩ | exact ⟨_, none, 0, 0, rfl⟩ | exact ⟨_, false, none, 0, 0, rfl⟩ | exact ⟨_, false, none, 0, 0, false, none, 0, 0, rfl⟩)) (fun N0 hN0 => ⟨fun v => ?_, fun D v v' W hv hj => ?_, fun D v k j W W' x _ _ _ _ hk hg => gw_keeps _ (by intro p hp; simp only [List.mem_cons, List.not_mem_nil, or_false] at hp; rcases hp with rfl <;> first | exact GFr.keeps | exact GFrE.keeps | exact GNu.keeps | exact GNuE.keeps | exact GLi.keeps) hk hg, fun _ _ _ _ h => h.elim, fun ops' Q' hops hQ => ?_⟩)
              · exact ⟨belowB, keepsB, by first | with_reducible exact Nat.le_of_eq hN0.out | (simp only [World.size_drew]; with_reducible exact Nat.le_of_eq hN0.out), ownK⟩
              · obtain ⟨j0, jk, jn, b_u⟩ := hj
                exact ⟨j0, jk, jn, b_u⟩
              have i_u : w.heap.size < N0 := by have e := hN0.out; (try simp only [World.size_alloc, World.size_setCell, World.size_drew, World.heap_drewN] at e); first | omega | (have h := ou.lt; omega)
              have iw : w.heap.size ≤ N0 := by have e := hN0.out; (try simp only [World.size_alloc, World.size_setCell, World.size_drew, World.heap_drewN] at e); first | omega | (have h := B.size; omega)
              clear cu0 cu1 cu2 cu3 cu4 cu5 cu6 cu7 cu8 cu9 cu10 cu11 cu12 cu13 lu
              clear hN0
              apply Reg.RC_pure (hc := rfl) (hst := rfl) (hw := rfl) (t := 45) (hd := rfl) (ht := Nat.le_of_ble_eq_true rfl)
              · intro D v' W' hc hj hf K hK
                go_step
                exact hK.out
              · rfl
              apply Reg.RC_pure (hc := rfl) (hst := rfl) (hw := rfl) (t := 46) (hd := rfl) (ht := Nat.le_of_ble_eq_true rfl)
              · intro D v' W' hc hj hf K hK
                obtain ⟨j0, jk, jn, b_u⟩ := hj
                have c6 : W'.cell? ⟨w.heap.size, 6, none⟩ = some (.bool ub1) := b_u.c 6 rfl
                have c7 : W'.cell? ⟨w.heap.size, 7, none⟩ = some (.slice ub2 ub3 ub4) := b_u.c 7 rfl
                have c8 : W'.cell? ⟨w.heap.size, 8, none⟩ = some (.bool ub5) := b_u.c 8 rfl
                have c9 : W'.cell? ⟨w.heap.size, 9, none⟩ = some (.slice ub6 ub7 ub8) := b_u.c 9 rfl
                go_step
                exact hK.out
              · rfl
              refine Reg.RC_call rfl (by intro t ht; cases ht; exact Nat.le_of_ble_eq_true rfl) rfl (fun D v' W' hc hj hf K hK => ?_) ?_
              · obtain ⟨j0, jk, jn, b_u⟩ := hj
                clear hf
                go_step
                refine (O0 W').mono ?_
                rintro e W2 ⟨u, rfl, hu, hs⟩
                obtain ⟨wa1, wa2, wa3, wa4, wa5, wa6, wa7, wa8, rfl⟩ := hu.shape
                exact hK.out _ W2 (Keeps.steps hs) ⟨below_steps j0 (Nat.le_refl _) hs, jk.then_ hs, Nat.le_trans jn hs.size, b_u.steps hs⟩ hu ⟨_, _, _, _, _, _, _, _, rfl⟩
              rintro _ ⟨wa1, wa2, wa3, wa4, wa5, wa6, wa7, wa8, rfl⟩
              refine Reg.RC_at (b := ⟨#[_,_,_,_,_,_,_,_,_,_,_,_,_,_,_,_,_,_,_,_,_,_,_,_,_,_,_,_,_,_,_,_,_,_,_,_,_,_,_,_,_,_,_,_,_,_,_,_,_,_,_,_,_,_,_,_,_,_,_,_,_,_,_,_], _⟩) rfl ?_
              refine Reg.RC_call rfl (by intro t ht; cases ht; exact Nat.le_of_ble_eq_true rfl) rfl (fun D v' W' hc hj hf K hK => ?_) ?_
              · obtain ⟨j0, jk, jn, b_u⟩ := hj
                have g2 : GFr (0) _ W' := (hf (2, some 47) (.head _) rfl).2.2
                have g2 : FR W' _ (0) := g2
                clear hf
                go_step
                refine (CM1 W' _ _ (F1.out.keeps jk) g2).mono ?_
                rintro e W2 ⟨rfl, hs⟩
                exact hK.out _ W2 (Keeps.steps hs) ⟨below_steps j0 (Nat.le_refl _) hs, jk.then_ hs, Nat.le_trans jn hs.size, b_u.steps hs⟩ trivial rfl
              rintro _ rfl
              refine Reg.RC_at (b := ⟨#[_,_,_,_,_,_,_,_,_,_,_,_,_,_,_,_,_,_,_,_,_,_,_,_,_,_,_,_,_,_,_,_,_,_,_,_,_,_,_,_,_,_,_,_,_,_,_,_,_,_,_,_,_,_,_,_,_,_,_,_,_,_,_,_], _⟩) rfl ?_
              apply Reg.RC_pure (hc := rfl) (hst := rfl) (hw := rfl) (t := 49) (hd := rfl) (ht := Nat.le_of_ble_eq_true rfl)
              · intro D v' W' hc hj hf K hK
                go_step
                exact hK.out
              · rfl
              apply Reg.RC_pure (hc := rfl) (hst := rfl) (hw := rfl) (t := 50) (hd := rfl) (ht := Nat.le_of_ble_eq_true rfl)
              · intro D v' W' hc hj hf K hK
                go_step
                exact hK.out
              · rfl
              refine Reg.RC_skip rfl (by rw [hops]; rfl) ?_
              refine Reg.RC_at (b := ⟨#[_,_,_,_,_,_,_,_,_,_,_,_,_,_,_,_,_,_,_,_,_,_,_,_,_,_,_,_,_,_,_,_,_,_,_,_,_,_,_,_,_,_,_,_,_,_,_,_,_,_,_,_,_,_,_,_,_,_,_,_,_,_,_,_], _⟩) rfl ?_
              refine Reg.RC_skip rfl (by rw [hops]; rfl) ?_
              refine Reg.RC_at (b := ⟨#[_,_,_,_,_,_,_,_,_,_,_,_,_,_,_,_,_,_,_,_,_,_,_,_,_,_,_,_,_,_,_,_,_,_,_,_,_,_,_,_,_,_,_,_,_,_,_,_,_,_,_,_,_,_,_,_,_,_,_,_,_,_,_,_], _⟩) rfl ?_
              refine Reg.RC_skip rfl (by rw [hops]; rfl) ?_
              refine Reg.RC_at (b := ⟨#[_,_,_,_,_,_,_,_,_,_,_,_,_,_,_,_,_,_,_,_,_,_,_,_,_,_,_,_,_,_,_,_,_,_,_,_,_,_,_,_,_,_,_,_,_,_,_,_,_,_,_,_,_,_,_,_,_,_,_,_,_,_,_,_], _⟩) rfl ?_
              refine Reg.RC_skip rfl (by rw [hops]; rfl) ?_
              refine Reg.RC_at (b := ⟨#[_,_,_,_,_,_,_,_,_,_,_,_,_,_,_,_,_,_,_,_,_,_,_,_,_,_,_,_,_,_,_,_,_,_,_,_,_,_,_,_,_,_,_,_,_,_,_,_,_,_,_,_,_,_,_,_,_,_,_,_,_,_,_,_], _⟩) rfl ?_
              refine Reg.RC_skip rfl (by rw [hops]; rfl) ?_
              refine Reg.RC_at (b := ⟨#[_,_,_,_,_,_,_,_,_,_,_,_,_,_,_,_,_,_,_,_,_,_,_,_,_,_,_,_,_,_,_,_,_,_,_,_,_,_,_,_,_,_,_,_,_,_,_,_,_,_,_,_,_,_,_,_,_,_,_,_,_,_,_,_], _⟩) rfl ?_
              apply Reg.RC_pure (hc := rfl) (hst := rfl) (hw := rfl) (t := 56) (hd := rfl) (ht := Nat.le_of_ble_eq_true rfl)
              · intro D v' W' hc hj hf K hK
                go_step
                exact hK.out
              · rfl
              apply Reg.RC_pure (hc := rfl) (hst := rfl) (hw := rfl) (t := 57) (hd := rfl) (ht := Nat.le_of_ble_eq_true rfl)
              · intro D v' W' hc hj hf K hK
                go_step
                exact hK.out
              · rfl
              refine Reg.RC_skip rfl (by rw [hops]; rfl) ?_
              refine Reg.RC_at (b := ⟨#[_,_,_,_,_,_,_,_,_,_,_,_,_,_,_,_,_,_,_,_,_,_,_,_,_,_,_,_,_,_,_,_,_,_,_,_,_,_,_,_,_,_,_,_,_,_,_,_,_,_,_,_,_,_,_,_,_,_,_,_,_,_,_,_], _⟩) rfl ?_
              refine Reg.RC_skip rfl (by rw [hops]; rfl) ?_
              refine Reg.RC_at (b := ⟨#[_,_,_,_,_,_,_,_,_,_,_,_,_,_,_,_,_,_,_,_,_,_,_,_,_,_,_,_,_,_,_,_,_,_,_,_,_,_,_,_,_,_,_,_,_,_,_,_,_,_,_,_,_,_,_,_,_,_,_,_,_,_,_,_], _⟩) rfl ?_
              refine Reg.RC_skip rfl (by rw [hops]; rfl) ?_
              refine Reg.RC_at (b := ⟨#[_,_,_,_,_,_,_,_,_,_,_,_,_,_,_,_,_,_,_,_,_,_,_,_,_,_,_,_,_,_,_,_,_,_,_,_,_,_,_,_,_,_,_,_,_,_,_,_,_,_,_,_,_,_,_,_,_,_,_,_,_,_,_,_], _⟩) rfl ?_
              refine Reg.RC_skip rfl (by rw [hops]; rfl) ?_
              refine Reg.RC_at (b := ⟨#[_,_,_,_,_,_,_,_,_,_,_,_,_,_,_,_,_,_,_,_,_,_,_,_,_,_,_,_,_,_,_,_,_,_,_,_,_,_,_,_,_,_,_,_,_,_,_,_,_,_,_,_,_,_,_,_,_,_,_,_,_,_,_,_], _⟩) rfl ?_
              refine Reg.RC_skip rfl (by rw [hops]; rfl) ?_
              refine Reg.RC_at (b := ⟨#[_,_,_,_,_,_,_,_,_,_,_,_,_,_,_,_,_,_,_,_,_,_,_,_,_,_,_,_,_,_,_,_,_,_,_,_,_,_,_,_,_,_,_,_,_,_,_,_,_,_,_,_,_,_,_,_,_,_,_,_,_,_,_,_], _⟩) rfl ?_
              apply Reg.RC_pure (hc := rfl) (hst := rfl) (hw := rfl) (t := 63) (hd := rfl) (ht := Nat.le_of_ble_eq_true rfl)
              · intro D v' W' hc hj hf K hK
                go_step
                exact hK.out
              · rfl
              refine Reg.RC_end (fun Dn v' w4 hd hj hf => ?_)
              obtain ⟨j0, jk, jn, b_u⟩ := hj
              have B := j0
              have ou := b_u
              clear b_u
              replace F1 := Hid.mk_ (F1.out.keeps jk)
              replace F2 := Hid.mk_ (F2.out.keeps jk)
              replace kk := kk.trans jk
              clear hd hf jk j0
              refine hQ _ _ ?_
              clear hQ hops Q' ops'
              go_wp2_with fail
              refine bodyPost_ret (by simp [results, Tryz.results18, go_sem, ]; rfl) rfl ?_
              exact ⟨rfl, belowB⟩
            · skip
              by_cases h2 : ¬ c2 < 0
              · skip
                have e0 := K2 (by omega)
                subst e0
                clear K1 K2 K3 KT2
                have h2' : 0 ≤ c2 := by omega
                have zu_3 : w.heap.size < w3.heap.size := ou.lt
                have zz3 := B.size
                go_upto_region 3 with fail
                refine Reg.wp_chain_n (fun N0 D v W => Below w.heap.size w W ∧ Keeps w3 W ∧ N0 ≤ W.heap.size ∧ Blk W (w.heap.size) 45 #[.bool false, .slice ua2 ua3 ua4, .bool ua5, .slice ua6 ua7 ua8, .int .i64 R, .int .i64 A, .bool ub1, .slice ub2 ub3 ub4, .bool ub5, .slice ub6 ub7 ub8, .bool uc1, .slice uc2 uc3 uc4, .bool uc5, .slice uc6 uc7 uc8])
                  (Reg.inl [2, 3, 8, 9]) (Reg.gv [(2, IsFr), (3, fun z_ => z_ = .int .i64 c1), (8, IsFr), (9, fun z_ => z_ = .int .i64 c2)]) (gw [(2, GFr (0)), (8, GFr (1))]) (fun _ => Keeps) (fun _ _ => False) (Reg.pl [(3, [(2, some 47)]), (9, [(8, some 53)]), (19, [(2, some 47), (3, some 48), (8, some 53), (9, some 54)])]) (Reg.pl [])
                  (by kernel_rfl) (by kernel_rfl) (by kernel_rfl) (Reg.gv_some _ (by intro p hp; simp only [List.mem_cons, List.not_mem_nil, or_false] at hp; rcases hp with rfl | rfl | rfl | rfl <;> first | exact ⟨_, rfl⟩ | exact ⟨_, 0, rfl⟩ | exact ⟨_, none, 0, 0, rfl⟩ | exact ⟨_, false, none, 0, 0, rfl⟩ | exact ⟨_, false, none, 0, 0, false, none, 0, 0, rfl⟩)) (fun N0 hN0 => ⟨fun v => ?_, fun D v v' W hv hj => ?_, fun D v k j W W' x _ _ _ _ hk hg => gw_keeps _ (by intro p hp; simp only [List.mem_cons, List.not_mem_nil, or_false] at hp; rcases hp with rfl | rfl <;> first | exact GFr.keeps | exact GFrE.keeps | exact GNu.keeps | exact GNuE.keeps | exact GLi.keeps) hk hg, fun _ _ _ _ h => h.elim, fun ops' Q' hops hQ => ?_⟩)
                · exact ⟨belowB, keepsB, by first | with_reducible exact Nat.le_of_eq hN0.out | (simp only [World.size_drew]; with_reducible exact Nat.le_of_eq hN0.out), ownK⟩
                · obtain ⟨j0, jk, jn, b_u⟩ := hj
                  exact ⟨j0, jk, jn, b_u⟩
                have i_u : w.heap.size < N0 := by have e := hN0.out; (try simp only [World.size_alloc, World.size_setCell, World.size_drew, World.heap_drewN] at e); first | omega | (have h := ou.lt; omega)
                have iw : w.heap.size ≤ N0 := by have e := hN0.out; (try simp only [World.size_alloc, World.size_setCell, World.size_drew, World.heap_drewN] at e); first | omega | (have h := B.size; omega)
                clear cu0 cu1 cu2 cu3 cu4 cu5 cu6 cu7 cu8 cu9 cu10 cu11 cu12 cu13 lu
                clear hN0
                apply Reg.RC_pure (hc := rfl) (hst := rfl) (hw := rfl) (t := 45) (hd := rfl) (ht := Nat.le_of_ble_eq_true rfl)
                · intro D v' W' hc hj hf K hK
                  go_step
                  exact hK.out
                · rfl
                apply Reg.RC_pure (hc := rfl) (hst := rfl) (hw := rfl) (t := 46) (hd := rfl) (ht := Nat.le_of_ble_eq_true rfl)
                · intro D v' W' hc hj hf K hK
                  obtain ⟨j0, jk, jn, b_u⟩ := hj
                  have c6 : W'.cell? ⟨w.heap.size, 6, none⟩ = some (.bool ub1) := b_u.c 6 rfl
                  have c7 : W'.cell? ⟨w.heap.size, 7, none⟩ = some (.slice ub2 ub3 ub4) := b_u.c 7 rfl
                  have c8 : W'.cell? ⟨w.heap.size, 8, none⟩ = some (.bool ub5) := b_u.c 8 rfl
                  have c9 : W'.cell? ⟨w.heap.size, 9, none⟩ = some (.slice ub6 ub7 ub8) := b_u.c 9 rfl
                  go_step
                  exact hK.out
                · rfl
                refine Reg.RC_call rfl (by intro t ht; cases ht; exact Nat.le_of_ble_eq_true rfl) rfl (fun D v' W' hc hj hf K hK => ?_) ?_
                · obtain ⟨j0, jk, jn, b_u⟩ := hj
                  clear hf
                  go_step
                  refine (O0 W').mono ?_
                  rintro e W2 ⟨u, rfl, hu, hs⟩
                  obtain ⟨wa1, wa2, wa3, wa4, wa5, wa6, wa7, wa8, rfl⟩ := hu.shape
                  exact hK.out _ W2 (Keeps.steps hs) ⟨below_steps j0 (Nat.le_refl _) hs, jk.then_ hs, Nat.le_trans jn hs.size, b_u.steps hs⟩ hu ⟨_, _, _, _, _, _, _, _, rfl⟩
                rintro _ ⟨wa1, wa2, wa3, wa4, wa5, wa6, wa7, wa8, rfl⟩
                refine Reg.RC_at (b := ⟨#[_,_,_,_,_,_,_,_,_,_,_,_,_,_,_,_,_,_,_,_,_,_,_,_,_,_,_,_,_,_,_,_,_,_,_,_,_,_,_,_,_,_,_,_,_,_,_,_,_,_,_,_,_,_,_,_,_,_,_,_,_,_,_,_], _⟩) rfl ?_
                refine Reg.RC_call rfl (by intro t ht; cases ht; exact Nat.le_of_ble_eq_true rfl) rfl (fun D v' W' hc hj hf K hK => ?_) ?_
                · obtain ⟨j0, jk, jn, b_u⟩ := hj
                  have g2 : GFr (0) _ W' := (hf (2, some 47) (.head _) rfl).2.2
                  have g2 : FR W' _ (0) := g2
                  clear hf
                  go_step
                  refine (CM1 W' _ _ (F1.out.keeps jk) g2).mono ?_
                  rintro e W2 ⟨rfl, hs⟩
                  exact hK.out _ W2 (Keeps.steps hs) ⟨below_steps j0 (Nat.le_refl _) hs, jk.then_ hs, Nat.le_trans jn hs.size, b_u.steps hs⟩ trivial rfl
                rintro _ rfl
                refine Reg.RC_at (b := ⟨#[_,_,_,_,_,_,_,_,_,_,_,_,_,_,_,_,_,_,_,_,_,_,_,_,_,_,_,_,_,_,_,_,_,_,_,_,_,_,_,_,_,_,_,_,_,_,_,_,_,_,_,_,_,_,_,_,_,_,_,_,_,_,_,_], _⟩) rfl ?_
                apply Reg.RC_pure (hc := rfl) (hst := rfl) (hw := rfl) (t := 49) (hd := rfl) (ht := Nat.le_of_ble_eq_true rfl)
                · intro D v' W' hc hj hf K hK
                  go_step
                  exact hK.out
                · rfl
                apply Reg.RC_pure (hc := rfl) (hst := rfl) (hw := rfl) (t := 50) (hd := rfl) (ht := Nat.le_of_ble_eq_true rfl)
                · intro D v' W' hc hj hf K hK
                  go_step
                  exact hK.out
                · rfl
                apply Reg.RC_pure (hc := rfl) (hst := rfl) (hw := by rw [hops]; rfl) (t := 51) (hd := rfl) (ht := Nat.le_of_ble_eq_true rfl)
                · intro D v' W' hc hj hf K hK
                  go_step
                  exact hK.out
                · rfl
                apply Reg.RC_pure (hc := rfl) (hst := rfl) (hw := by rw [hops]; rfl) (t := 52) (hd := rfl) (ht := Nat.le_of_ble_eq_true rfl)
                · intro D v' W' hc hj hf K hK
                  obtain ⟨j0, jk, jn, b_u⟩ := hj
                  have c6 : W'.cell? ⟨w.heap.size, 6, none⟩ = some (.bool ub1) := b_u.c 6 rfl
                  have c7 : W'.cell? ⟨w.heap.size, 7, none⟩ = some (.slice ub2 ub3 ub4) := b_u.c 7 rfl
                  have c8 : W'.cell? ⟨w.heap.size, 8, none⟩ = some (.bool ub5) := b_u.c 8 rfl
                  have c9 : W'.cell? ⟨w.heap.size, 9, none⟩ = some (.slice ub6 ub7 ub8) := b_u.c 9 rfl
                  go_step
                  exact hK.out
                · rfl
                refine Reg.RC_call rfl (by intro t ht; cases ht; exact Nat.le_of_ble_eq_true rfl) (by rw [hops]; rfl) (fun D v' W' hc hj hf K hK => ?_) ?_
                · obtain ⟨j0, jk, jn, b_u⟩ := hj
                  clear hf
                  go_step
                  refine (O1 W').mono ?_
                  rintro e W2 ⟨u, rfl, hu, hs⟩
                  obtain ⟨wb1, wb2, wb3, wb4, wb5, wb6, wb7, wb8, rfl⟩ := hu.shape
                  exact hK.out _ W2 (Keeps.steps hs) ⟨below_steps j0 (Nat.le_refl _) hs, jk.then_ hs, Nat.le_trans jn hs.size, b_u.steps hs⟩ hu ⟨_, _, _, _, _, _, _, _, rfl⟩
                rintro _ ⟨wb1, wb2, wb3, wb4, wb5, wb6, wb7, wb8, rfl⟩
                refine Reg.RC_at (b := ⟨#[_,_,_,_,_,_,_,_,_,_,_,_,_,_,_,_,_,_,_,_,_,_,_,_,_,_,_,_,_,_,_,_,_,_,_,_,_,_,_,_,_,_,_,_,_,_,_,_,_,_,_,_,_,_,_,_,_,_,_,_,_,_,_,_], _⟩) rfl ?_
                refine Reg.RC_call rfl (by intro t ht; cases ht; exact Nat.le_of_ble_eq_true rfl) (by rw [hops]; rfl) (fun D v' W' hc hj hf K hK => ?_) ?_
                · obtain ⟨j0, jk, jn, b_u⟩ := hj
                  have g8 : GFr (1) _ W' := (hf (8, some 53) (.head _) rfl).2.2
                  have g8 : FR W' _ (1) := g8
                  clear hf
                  go_step
                  refine (CM2 W' _ _ (F1.out.keeps jk) g8).mono ?_
                  rintro e W2 ⟨rfl, hs⟩
                  exact hK.out _ W2 (Keeps.steps hs) ⟨below_steps j0 (Nat.le_refl _) hs, jk.then_ hs, Nat.le_trans jn hs.size, b_u.steps hs⟩ trivial rfl
                rintro _ rfl
                refine Reg.RC_at (b := ⟨#[_,_,_,_,_,_,_,_,_,_,_,_,_,_,_,_,_,_,_,_,_,_,_,_,_,_,_,_,_,_,_,_,_,_,_,_,_,_,_,_,_,_,_,_,_,_,_,_,_,_,_,_,_,_,_,_,_,_,_,_,_,_,_,_], _⟩) rfl ?_
                apply Reg.RC_pure (hc := rfl) (hst := rfl) (hw := by rw [hops]; rfl) (t := 55) (hd := rfl) (ht := Nat.le_of_ble_eq_true rfl)
                · intro D v' W' hc hj hf K hK
                  go_step
                  exact hK.out
                · rfl
                apply Reg.RC_pure (hc := rfl) (hst := rfl) (hw := rfl) (t := 56) (hd := rfl) (ht := Nat.le_of_ble_eq_true rfl)
                · intro D v' W' hc hj hf K hK
                  go_step
                  exact hK.out
                · rfl
                apply Reg.RC_pure (hc := rfl) (hst := rfl) (hw := rfl) (t := 57) (hd := rfl) (ht := Nat.le_of_ble_eq_true rfl)
                · intro D v' W' hc hj hf K hK
                  go_step
                  exact hK.out
                · rfl
                refine Reg.RC_skip rfl (by rw [hops]; rfl) ?_
                refine Reg.RC_at (b := ⟨#[_,_,_,_,_,_,_,_,_,_,_,_,_,_,_,_,_,_,_,_,_,_,_,_,_,_,_,_,_,_,_,_,_,_,_,_,_,_,_,_,_,_,_,_,_,_,_,_,_,_,_,_,_,_,_,_,_,_,_,_,_,_,_,_], _⟩) rfl ?_
                refine Reg.RC_skip rfl (by rw [hops]; rfl) ?_
                refine Reg.RC_at (b := ⟨#[_,_,_,_,_,_,_,_,_,_,_,_,_,_,_,_,_,_,_,_,_,_,_,_,_,_,_,_,_,_,_,_,_,_,_,_,_,_,_,_,_,_,_,_,_,_,_,_,_,_,_,_,_,_,_,_,_,_,_,_,_,_,_,_], _⟩) rfl ?_
                refine Reg.RC_skip rfl (by rw [hops]; rfl) ?_
                refine Reg.RC_at (b := ⟨#[_,_,_,_,_,_,_,_,_,_,_,_,_,_,_,_,_,_,_,_,_,_,_,_,_,_,_,_,_,_,_,_,_,_,_,_,_,_,_,_,_,_,_,_,_,_,_,_,_,_,_,_,_,_,_,_,_,_,_,_,_,_,_,_], _⟩) rfl ?_
                refine Reg.RC_skip rfl (by rw [hops]; rfl) ?_
                refine Reg.RC_at (b := ⟨#[_,_,_,_,_,_,_,_,_,_,_,_,_,_,_,_,_,_,_,_,_,_,_,_,_,_,_,_,_,_,_,_,_,_,_,_,_,_,_,_,_,_,_,_,_,_,_,_,_,_,_,_,_,_,_,_,_,_,_,_,_,_,_,_], _⟩) rfl ?_
                refine Reg.RC_skip rfl (by rw [hops]; rfl) ?_
                refine Reg.RC_at (b := ⟨#[_,_,_,_,_,_,_,_,_,_,_,_,_,_,_,_,_,_,_,_,_,_,_,_,_,_,_,_,_,_,_,_,_,_,_,_,_,_,_,_,_,_,_,_,_,_,_,_,_,_,_,_,_,_,_,_,_,_,_,_,_,_,_,_], _⟩) rfl ?_
                apply Reg.RC_pure (hc := rfl) (hst := rfl) (hw := rfl) (t := 63) (hd := rfl) (ht := Nat.le_of_ble_eq_true rfl)
                · intro D v' W' hc hj hf K hK
                  go_step
                  exact hK.out
                · rfl
                refine Reg.RC_end (fun Dn v' w4 hd hj hf => ?_)
                obtain ⟨j0, jk, jn, b_u⟩ := hj
                have B := j0
                have ou := b_u
                clear b_u
                replace F1 := Hid.mk_ (F1.out.keeps jk)
                replace F2 := Hid.mk_ (F2.out.keeps jk)
                replace kk := kk.trans jk
                clear hd hf jk j0
                refine hQ _ _ ?_
                clear hQ hops Q' ops'
                go_wp2_with fail
                refine bodyPost_ret (by simp [results, Tryz.results18, go_sem, ]; rfl) rfl ?_
                exact ⟨rfl, belowB⟩
              · skip
                have h2' : ¬ 0 ≤ c2 := by omega
                by_cases h3 : c3 ≤ 0
                · skip
                  have e0 := K3 (by omega)
                  subst e0
                  clear K1 K2 K3 KT2
                  have zu_3 : w.heap.size < w3.heap.size := ou.lt
                  have zz3 := B.size
                  go_upto_region 3 with fail
                  refine Reg.wp_chain_n (fun N0 D v W => Below w.heap.size w W ∧ Keeps w3 W ∧ N0 ≤ W.heap.size ∧ Blk W (w.heap.size) 45 #[.bool false, .slice ua2 ua3 ua4, .bool ua5, .slice ua6 ua7 ua8, .int .i64 R, .int .i64 A, .bool ub1, .slice ub2 ub3 ub4, .bool ub5, .slice ub6 ub7 ub8, .bool uc1, .slice uc2 uc3 uc4, .bool uc5, .slice uc6 uc7 uc8])
                    (Reg.inl [2, 3, 8, 9, 15, 16]) (Reg.gv [(2, IsFr), (3, fun z_ => z_ = .int .i64 c1), (8, IsFr), (9, fun z_ => z_ = .int .i64 c2), (15, IsFr), (16, fun z_ => z_ = .int .i64 c3)]) (gw [(2, GFr (0)), (8, GFr (1)), (15, GFr (0))]) (fun _ => Keeps) (fun _ _ => False) (Reg.pl [(3, [(2, some 47)]), (9, [(8, some 53)]), (16, [(15, some 60)]), (19, [(2, some 47), (3, some 48), (8, some 53), (9, some 54), (15, some 60), (16, some 61)])]) (Reg.pl [])
                    (by kernel_rfl) (by kernel_rfl) (by kernel_rfl) (Reg.gv_some _ (by intro p hp; simp only [List.mem_cons, List.not_mem_nil, or_false] at hp; rcases hp with rfl | rfl | rfl | rfl | rfl | rfl <;> first | exact ⟨_, rfl⟩ | exact ⟨_, 0, rfl⟩ | exact ⟨_, none, 0, 0, rfl⟩ | exact ⟨_, false, none, 0, 0, rfl⟩ | exact ⟨_, false, none, 0, 0, false, none, 0, 0, rfl⟩)) (fun N0 hN0 => ⟨fun v => ?_, fun D v v' W hv hj => ?_, fun D v k j W W' x _ _ _ _ hk hg => gw_keeps _ (by intro p hp; simp only [List.mem_cons, List.not_mem_nil, or_false] at hp; rcases hp with rfl | rfl | rfl <;> first | exact GFr.keeps | exact GFrE.keeps | exact GNu.keeps | exact GNuE.keeps | exact GLi.keeps) hk hg, fun _ _ _ _ h => h.elim, fun ops' Q' hops hQ => ?_⟩)
                  · exact ⟨belowB, keepsB, by first | with_reducible exact Nat.le_of_eq hN0.out | (simp only [World.size_drew]; with_reducible exact Nat.le_of_eq hN0.out), ownK⟩
                  · obtain ⟨j0, jk, jn, b_u⟩ := hj
                    exact ⟨j0, jk, jn, b_u⟩
                  have i_u : w.heap.size < N0 := by have e := hN0.out; (try simp only [World.size_alloc, World.size_setCell, World.size_drew, World.heap_drewN] at e); first | omega | (have h := ou.lt; omega)
                  have iw : w.heap.size ≤ N0 := by have e := hN0.out; (try simp only [World.size_alloc, World.size_setCell, World.size_drew, World.heap_drewN] at e); first | omega | (have h := B.size; omega)
                  clear cu0 cu1 cu2 cu3 cu4 cu5 cu6 cu7 cu8 cu9 cu10 cu11 cu12 cu13 lu
                  clear hN0
                  apply Reg.RC_pure (hc := rfl) (hst := rfl) (hw := rfl) (t := 45) (hd := rfl) (ht := Nat.le_of_ble_eq_true rfl)
                  · intro D v' W' hc hj hf K hK
                    go_step
                    exact hK.out
                  · rfl
                  apply Reg.RC_pure (hc := rfl) (hst := rfl) (hw := rfl) (t := 46) (hd := rfl) (ht := Nat.le_of_ble_eq_true rfl)
                  · intro D v' W' hc hj hf K hK
                    obtain ⟨j0, jk, jn, b_u⟩ := hj
                    have c6 : W'.cell? ⟨w.heap.size, 6, none⟩ = some (.bool ub1) := b_u.c 6 rfl
                    have c7 : W'.cell? ⟨w.heap.size, 7, none⟩ = some (.slice ub2 ub3 ub4) := b_u.c 7 rfl
                    have c8 : W'.cell? ⟨w.heap.size, 8, none⟩ = some (.bool ub5) := b_u.c 8 rfl
                    have c9 : W'.cell? ⟨w.heap.size, 9, none⟩ = some (.slice ub6 ub7 ub8) := b_u.c 9 rfl
                    go_step
                    exact hK.out
                  · rfl
                  refine Reg.RC_call rfl (by intro t ht; cases ht; exact Nat.le_of_ble_eq_true rfl) rfl (fun D v' W' hc hj hf K hK => ?_) ?_
                  · obtain ⟨j0, jk, jn, b_u⟩ := hj
                    clear hf
                    go_step
                    refine (O0 W').mono ?_
                    rintro e W2 ⟨u, rfl, hu, hs⟩
                    obtain ⟨wa1, wa2, wa3, wa4, wa5, wa6, wa7, wa8, rfl⟩ := hu.shape
                    exact hK.out _ W2 (Keeps.steps hs) ⟨below_steps j0 (Nat.le_refl _) hs, jk.then_ hs, Nat.le_trans jn hs.size, b_u.steps hs⟩ hu ⟨_, _, _, _, _, _, _, _, rfl⟩
                  rintro _ ⟨wa1, wa2, wa3, wa4, wa5, wa6, wa7, wa8, rfl⟩
                  refine Reg.RC_at (b := ⟨#[_,_,_,_,_,_,_,_,_,_,_,_,_,_,_,_,_,_,_,_,_,_,_,_,_,_,_,_,_,_,_,_,_,_,_,_,_,_,_,_,_,_,_,_,_,_,_,_,_,_,_,_,_,_,_,_,_,_,_,_,_,_,_,_], _⟩) rfl ?_
                  refine Reg.RC_call rfl (by intro t ht; cases ht; exact Nat.le_of_ble_eq_true rfl) rfl (fun D v' W' hc hj hf K hK => ?_) ?_
                  · obtain ⟨j0, jk, jn, b_u⟩ := hj
                    have g2 : GFr (0) _ W' := (hf (2, some 47) (.head _) rfl).2.2
                    have g2 : FR W' _ (0) := g2
                    clear hf
                    go_step
                    refine (CM1 W' _ _ (F1.out.keeps jk) g2).mono ?_
                    rintro e W2 ⟨rfl, hs⟩
                    exact hK.out _ W2 (Keeps.steps hs) ⟨below_steps j0 (Nat.le_refl _) hs, jk.then_ hs, Nat.le_trans jn hs.size, b_u.steps hs⟩ trivial rfl
                  rintro _ rfl
                  refine Reg.RC_at (b := ⟨#[_,_,_,_,_,_,_,_,_,_,_,_,_,_,_,_,_,_,_,_,_,_,_,_,_,_,_,_,_,_,_,_,_,_,_,_,_,_,_,_,_,_,_,_,_,_,_,_,_,_,_,_,_,_,_,_,_,_,_,_,_,_,_,_], _⟩) rfl ?_
                  apply Reg.RC_pure (hc := rfl) (hst := rfl) (hw := rfl) (t := 49) (hd := rfl) (ht := Nat.le_of_ble_eq_true rfl)
                  · intro D v' W' hc hj hf K hK
                    go_step
                    exact hK.out
                  · rfl
                  apply Reg.RC_pure (hc := rfl) (hst := rfl) (hw := rfl) (t := 50) (hd := rfl) (ht := Nat.le_of_ble_eq_true rfl)
                  · intro D v' W' hc hj hf K hK
                    go_step
                    exact hK.out
                  · rfl
                  apply Reg.RC_pure (hc := rfl) (hst := rfl) (hw := by rw [hops]; rfl) (t := 51) (hd := rfl) (ht := Nat.le_of_ble_eq_true rfl)
                  · intro D v' W' hc hj hf K hK
                    go_step
                    exact hK.out
                  · rfl
                  apply Reg.RC_pure (hc := rfl) (hst := rfl) (hw := by rw [hops]; rfl) (t := 52) (hd := rfl) (ht := Nat.le_of_ble_eq_true rfl)
                  · intro D v' W' hc hj hf K hK
                    obtain ⟨j0, jk, jn, b_u⟩ := hj
                    have c6 : W'.cell? ⟨w.heap.size, 6, none⟩ = some (.bool ub1) := b_u.c 6 rfl
                    have c7 : W'.cell? ⟨w.heap.size, 7, none⟩ = some (.slice ub2 ub3 ub4) := b_u.c 7 rfl
                    have c8 : W'.cell? ⟨w.heap.size, 8, none⟩ = some (.bool ub5) := b_u.c 8 rfl
                    have c9 : W'.cell? ⟨w.heap.size, 9, none⟩ = some (.slice ub6 ub7 ub8) := b_u.c 9 rfl
                    go_step
                    exact hK.out
                  · rfl
                  refine Reg.RC_call rfl (by intro t ht; cases ht; exact Nat.le_of_ble_eq_true rfl) (by rw [hops]; rfl) (fun D v' W' hc hj hf K hK => ?_) ?_
                  · obtain ⟨j0, jk, jn, b_u⟩ := hj
                    clear hf
                    go_step
                    refine (O1 W').mono ?_
                    rintro e W2 ⟨u, rfl, hu, hs⟩
                    obtain ⟨wb1, wb2, wb3, wb4, wb5, wb6, wb7, wb8, rfl⟩ := hu.shape
                    exact hK.out _ W2 (Keeps.steps hs) ⟨below_steps j0 (Nat.le_refl _) hs, jk.then_ hs, Nat.le_trans jn hs.size, b_u.steps hs⟩ hu ⟨_, _, _, _, _, _, _, _, rfl⟩
                  rintro _ ⟨wb1, wb2, wb3, wb4, wb5, wb6, wb7, wb8, rfl⟩
                  refine Reg.RC_at (b := ⟨#[_,_,_,_,_,_,_,_,_,_,_,_,_,_,_,_,_,_,_,_,_,_,_,_,_,_,_,_,_,_,_,_,_,_,_,_,_,_,_,_,_,_,_,_,_,_,_,_,_,_,_,_,_,_,_,_,_,_,_,_,_,_,_,_], _⟩) rfl ?_
                  refine Reg.RC_call rfl (by intro t ht; cases ht; exact Nat.le_of_ble_eq_true rfl) (by rw [hops]; rfl) (fun D v' W' hc hj hf K hK => ?_) ?_
                  · obtain ⟨j0, jk, jn, b_u⟩ := hj
                    have g8 : GFr (1) _ W' := (hf (8, some 53) (.head _) rfl).2.2
                    have g8 : FR W' _ (1) := g8
                    clear hf
                    go_step
                    refine (CM2 W' _ _ (F1.out.keeps jk) g8).mono ?_
                    rintro e W2 ⟨rfl, hs⟩
                    exact hK.out _ W2 (Keeps.steps hs) ⟨below_steps j0 (Nat.le_refl _) hs, jk.then_ hs, Nat.le_trans jn hs.size, b_u.steps hs⟩ trivial rfl
                  rintro _ rfl
                  refine Reg.RC_at (b := ⟨#[_,_,_,_,_,_,_,_,_,_,_,_,_,_,_,_,_,_,_,_,_,_,_,_,_,_,_,_,_,_,_,_,_,_,_,_,_,_,_,_,_,_,_,_,_,_,_,_,_,_,_,_,_,_,_,_,_,_,_,_,_,_,_,_], _⟩) rfl ?_
                  apply Reg.RC_pure (hc := rfl) (hst := rfl) (hw := by rw [hops]; rfl) (t := 55) (hd := rfl) (ht := Nat.le_of_ble_eq_true rfl)
                  · intro D v' W' hc hj hf K hK
                    go_step
                    exact hK.out
                  · rfl
                  apply Reg.RC_pure (hc := rfl) (hst := rfl) (hw := rfl) (t := 56) (hd := rfl) (ht := Nat.le_of_ble_eq_true rfl)
                  · intro D v' W' hc hj hf K hK
                    go_step
                    exact hK.out
                  · rfl
                  apply Reg.RC_pure (hc := rfl) (hst := rfl) (hw := rfl) (t := 57) (hd := rfl) (ht := Nat.le_of_ble_eq_true rfl)
                  · intro D v' W' hc hj hf K hK
                    go_step
                    exact hK.out
                  · rfl
                  apply Reg.RC_pure (hc := rfl) (hst := rfl) (hw := by rw [hops]; rfl) (t := 58) (hd := rfl) (ht := Nat.le_of_ble_eq_true rfl)
                  · intro D v' W' hc hj hf K hK
                    go_step
                    exact hK.out
                  · rfl
                  apply Reg.RC_pure (hc := rfl) (hst := rfl) (hw := by rw [hops]; rfl) (t := 59) (hd := rfl) (ht := Nat.le_of_ble_eq_true rfl)
                  · intro D v' W' hc hj hf K hK
                    obtain ⟨j0, jk, jn, b_u⟩ := hj
                    have c10 : W'.cell? ⟨w.heap.size, 10, none⟩ = some (.bool uc1) := b_u.c 10 rfl
                    have c11 : W'.cell? ⟨w.heap.size, 11, none⟩ = some (.slice uc2 uc3 uc4) := b_u.c 11 rfl
                    have c12 : W'.cell? ⟨w.heap.size, 12, none⟩ = some (.bool uc5) := b_u.c 12 rfl
                    have c13 : W'.cell? ⟨w.heap.size, 13, none⟩ = some (.slice uc6 uc7 uc8) := b_u.c 13 rfl
                    go_step
                    exact hK.out
                  · rfl
                  refine Reg.RC_call rfl (by intro t ht; cases ht; exact Nat.le_of_ble_eq_true rfl) (by rw [hops]; rfl) (fun D v' W' hc hj hf K hK => ?_) ?_
                  · obtain ⟨j0, jk, jn, b_u⟩ := hj
                    clear hf
                    go_step
                    refine (O0 W').mono ?_
                    rintro e W2 ⟨u, rfl, hu, hs⟩
                    obtain ⟨wc1, wc2, wc3, wc4, wc5, wc6, wc7, wc8, rfl⟩ := hu.shape
                    exact hK.out _ W2 (Keeps.steps hs) ⟨below_steps j0 (Nat.le_refl _) hs, jk.then_ hs, Nat.le_trans jn hs.size, b_u.steps hs⟩ hu ⟨_, _, _, _, _, _, _, _, rfl⟩
                  rintro _ ⟨wc1, wc2, wc3, wc4, wc5, wc6, wc7, wc8, rfl⟩
                  refine Reg.RC_at (b := ⟨#[_,_,_,_,_,_,_,_,_,_,_,_,_,_,_,_,_,_,_,_,_,_,_,_,_,_,_,_,_,_,_,_,_,_,_,_,_,_,_,_,_,_,_,_,_,_,_,_,_,_,_,_,_,_,_,_,_,_,_,_,_,_,_,_], _⟩) rfl ?_
                  refine Reg.RC_call rfl (by intro t ht; cases ht; exact Nat.le_of_ble_eq_true rfl) (by rw [hops]; rfl) (fun D v' W' hc hj hf K hK => ?_) ?_
                  · obtain ⟨j0, jk, jn, b_u⟩ := hj
                    have g15 : GFr (0) _ W' := (hf (15, some 60) (.head _) rfl).2.2
                    have g15 : FR W' _ (0) := g15
                    clear hf
                    go_step
                    refine (CM3 W' _ _ (F2.out.keeps jk) g15).mono ?_
                    rintro e W2 ⟨rfl, hs⟩
                    exact hK.out _ W2 (Keeps.steps hs) ⟨below_steps j0 (Nat.le_refl _) hs, jk.then_ hs, Nat.le_trans jn hs.size, b_u.steps hs⟩ trivial rfl
                  rintro _ rfl
                  refine Reg.RC_at (b := ⟨#[_,_,_,_,_,_,_,_,_,_,_,_,_,_,_,_,_,_,_,_,_,_,_,_,_,_,_,_,_,_,_,_,_,_,_,_,_,_,_,_,_,_,_,_,_,_,_,_,_,_,_,_,_,_,_,_,_,_,_,_,_,_,_,_], _⟩) rfl ?_
                  apply Reg.RC_pure (hc := rfl) (hst := rfl) (hw := by rw [hops]; rfl) (t := 62) (hd := rfl) (ht := Nat.le_of_ble_eq_true rfl)
                  · intro D v' W' hc hj hf K hK
                    go_step
                    exact hK.out
                  · rfl
                  apply Reg.RC_pure (hc := rfl) (hst := rfl) (hw := rfl) (t := 63) (hd := rfl) (ht := Nat.le_of_ble_eq_true rfl)
                  · intro D v' W' hc hj hf K hK
                    go_step
                    exact hK.out
                  · rfl
                  refine Reg.RC_end (fun Dn v' w4 hd hj hf => ?_)
                  obtain ⟨j0, jk, jn, b_u⟩ := hj
                  have B := j0
                  have ou := b_u
                  clear b_u
                  replace F1 := Hid.mk_ (F1.out.keeps jk)
                  replace F2 := Hid.mk_ (F2.out.keeps jk)
                  replace kk := kk.trans jk
                  clear hd hf jk j0
                  refine hQ _ _ ?_
                  clear hQ hops Q' ops'
                  go_wp2_with fail
                  refine bodyPost_ret (by simp [results, Tryz.results18, go_sem, ]; rfl) rfl ?_
                  exact ⟨rfl, belowB⟩
                · skip
                  have e0 := KT2 (by omega) (by omega) (by omega)
                  subst e0
                  clear K1 K2 K3 KT2
                  have zu_3 : w.heap.size < w3.heap.size := ou.lt
                  have zz3 := B.size
                  go_upto_region 3 with fail
                  refine Reg.wp_chain_n (fun N0 D v W => Below w.heap.size w W ∧ Keeps w3 W ∧ N0 ≤ W.heap.size ∧ Blk W (w.heap.size) 45 #[.bool false, .slice ua2 ua3 ua4, .bool ua5, .slice ua6 ua7 ua8, .int .i64 R, .int .i64 A, .bool ub1, .slice ub2 ub3 ub4, .bool ub5, .slice ub6 ub7 ub8, .bool uc1, .slice uc2 uc3 uc4, .bool uc5, .slice uc6 uc7 uc8])
                    (Reg.inl [2, 3, 8, 9, 15, 16]) (Reg.gv [(2, IsFr), (3, fun z_ => z_ = .int .i64 c1), (8, IsFr), (9, fun z_ => z_ = .int .i64 c2), (15, IsFr), (16, fun z_ => z_ = .int .i64 c3)]) (gw [(2, GFr (0)), (8, GFr (1)), (15, GFr (0))]) (fun _ => Keeps) (fun _ _ => False) (Reg.pl [(3, [(2, some 47)]), (9, [(8, some 53)]), (16, [(15, some 60)]), (19, [(2, some 47), (3, some 48), (8, some 53), (9, some 54), (15, some 60), (16, some 61)])]) (Reg.pl [])
                    (by kernel_rfl) (by kernel_rfl) (by kernel_rfl) (Reg.gv_some _ (by intro p hp; simp only [List.mem_cons, List.not_mem_nil, or_false] at hp; rcases hp with rfl | rfl | rfl | rfl | rfl | rfl <;> first | exact ⟨_, rfl⟩ | exact ⟨_, 0, rfl⟩ | exact ⟨_, none, 0, 0, rfl⟩ | exact ⟨_, false, none, 0, 0, rfl⟩ | exact ⟨_, false, none, 0, 0, false, none, 0, 0, rfl⟩)) (fun N0 hN0 => ⟨fun v => ?_, fun D v v' W hv hj => ?_, fun D v k j W W' x _ _ _ _ hk hg => gw_keeps _ (by intro p hp; simp only [List.mem_cons, List.not_mem_nil, or_false] at hp; rcases hp with rfl | rfl | rfl <;> first | exact GFr.keeps | exact GFrE.keeps | exact GNu.keeps | exact GNuE.keeps | exact GLi.keeps) hk hg, fun _ _ _ _ h => h.elim, fun ops' Q' hops hQ => ?_⟩)
                  · exact ⟨belowB, keepsB, by first | with_reducible exact Nat.le_of_eq hN0.out | (simp only [World.size_drew]; with_reducible exact Nat.le_of_eq hN0.out), ownK⟩
                  · obtain ⟨j0, jk, jn, b_u⟩ := hj
                    exact ⟨j0, jk, jn, b_u⟩
                  have i_u : w.heap.size < N0 := by have e := hN0.out; (try simp only [World.size_alloc, World.size_setCell, World.size_drew, World.heap_drewN] at e); first | omega | (have h := ou.lt; omega)
                  have iw : w.heap.size ≤ N0 := by have e := hN0.out; (try simp only [World.size_alloc, World.size_setCell, World.size_drew, World.heap_drewN] at e); first | omega | (have h := B.size; omega)
                  clear cu0 cu1 cu2 cu3 cu4 cu5 cu6 cu7 cu8 cu9 cu10 cu11 cu12 cu13 lu
                  clear hN0
                  apply Reg.RC_pure (hc := rfl) (hst := rfl) (hw := rfl) (t := 45) (hd := rfl) (ht := Nat.le_of_ble_eq_true rfl)
                  · intro D v' W' hc hj hf K hK
                    go_step
                    exact hK.out
                  · rfl
                  apply Reg.RC_pure (hc := rfl) (hst := rfl) (hw := rfl) (t := 46) (hd := rfl) (ht := Nat.le_of_ble_eq_true rfl)
                  · intro D v' W' hc hj hf K hK
                    obtain ⟨j0, jk, jn, b_u⟩ := hj
                    have c6 : W'.cell? ⟨w.heap.size, 6, none⟩ = some (.bool ub1) := b_u.c 6 rfl
                    have c7 : W'.cell? ⟨w.heap.size, 7, none⟩ = some (.slice ub2 ub3 ub4) := b_u.c 7 rfl
                    have c8 : W'.cell? ⟨w.heap.size, 8, none⟩ = some (.bool ub5) := b_u.c 8 rfl
                    have c9 : W'.cell? ⟨w.heap.size, 9, none⟩ = some (.slice ub6 ub7 ub8) := b_u.c 9 rfl
                    go_step
                    exact hK.out
                  · rfl
                  refine Reg.RC_call rfl (by intro t ht; cases ht; exact Nat.le_of_ble_eq_true rfl) rfl (fun D v' W' hc hj hf K hK => ?_) ?_
                  · obtain ⟨j0, jk, jn, b_u⟩ := hj
                    clear hf
                    go_step
                    refine (O0 W').mono ?_
                    rintro e W2 ⟨u, rfl, hu, hs⟩
                    obtain ⟨wa1, wa2, wa3, wa4, wa5, wa6, wa7, wa8, rfl⟩ := hu.shape
                    exact hK.out _ W2 (Keeps.steps hs) ⟨below_steps j0 (Nat.le_refl _) hs, jk.then_ hs, Nat.le_trans jn hs.size, b_u.steps hs⟩ hu ⟨_, _, _, _, _, _, _, _, rfl⟩
                  rintro _ ⟨wa1, wa2, wa3, wa4, wa5, wa6, wa7, wa8, rfl⟩
                  refine Reg.RC_at (b := ⟨#[_,_,_,_,_,_,_,_,_,_,_,_,_,_,_,_,_,_,_,_,_,_,_,_,_,_,_,_,_,_,_,_,_,_,_,_,_,_,_,_,_,_,_,_,_,_,_,_,_,_,_,_,_,_,_,_,_,_,_,_,_,_,_,_], _⟩) rfl ?_
                  refine Reg.RC_call rfl (by intro t ht; cases ht; exact Nat.le_of_ble_eq_true rfl) rfl (fun D v' W' hc hj hf K hK => ?_) ?_
                  · obtain ⟨j0, jk, jn, b_u⟩ := hj
                    have g2 : GFr (0) _ W' := (hf (2, some 47) (.head _) rfl).2.2
                    have g2 : FR W' _ (0) := g2
                    clear hf
                    go_step
                    refine (CM1 W' _ _ (F1.out.keeps jk) g2).mono ?_
                    rintro e W2 ⟨rfl, hs⟩
                    exact hK.out _ W2 (Keeps.steps hs) ⟨below_steps j0 (Nat.le_refl _) hs, jk.then_ hs, Nat.le_trans jn hs.size, b_u.steps hs⟩ trivial rfl
                  rintro _ rfl
                  refine Reg.RC_at (b := ⟨#[_,_,_,_,_,_,_,_,_,_,_,_,_,_,_,_,_,_,_,_,_,_,_,_,_,_,_,_,_,_,_,_,_,_,_,_,_,_,_,_,_,_,_,_,_,_,_,_,_,_,_,_,_,_,_,_,_,_,_,_,_,_,_,_], _⟩) rfl ?_
                  apply Reg.RC_pure (hc := rfl) (hst := rfl) (hw := rfl) (t := 49) (hd := rfl) (ht := Nat.le_of_ble_eq_true rfl)
                  · intro D v' W' hc hj hf K hK
                    go_step
                    exact hK.out
                  · rfl
                  apply Reg.RC_pure (hc := rfl) (hst := rfl) (hw := rfl) (t := 50) (hd := rfl) (ht := Nat.le_of_ble_eq_true rfl)
                  · intro D v' W' hc hj hf K hK
                    go_step
                    exact hK.out
                  · rfl
                  apply Reg.RC_pure (hc := rfl) (hst := rfl) (hw := by rw [hops]; rfl) (t := 51) (hd := rfl) (ht := Nat.le_of_ble_eq_true rfl)
                  · intro D v' W' hc hj hf K hK
                    go_step
                    exact hK.out
                  · rfl
                  apply Reg.RC_pure (hc := rfl) (hst := rfl) (hw := by rw [hops]; rfl) (t := 52) (hd := rfl) (ht := Nat.le_of_ble_eq_true rfl)
                  · intro D v' W' hc hj hf K hK
                    obtain ⟨j0, jk, jn, b_u⟩ := hj
                    have c6 : W'.cell? ⟨w.heap.size, 6, none⟩ = some (.bool ub1) := b_u.c 6 rfl
                    have c7 : W'.cell? ⟨w.heap.size, 7, none⟩ = some (.slice ub2 ub3 ub4) := b_u.c 7 rfl
                    have c8 : W'.cell? ⟨w.heap.size, 8, none⟩ = some (.bool ub5) := b_u.c 8 rfl
                    have c9 : W'.cell? ⟨w.heap.size, 9, none⟩ = some (.slice ub6 ub7 ub8) := b_u.c 9 rfl
                    go_step
                    exact hK.out
                  · rfl
                  refine Reg.RC_call rfl (by intro t ht; cases ht; exact Nat.le_of_ble_eq_true rfl) (by rw [hops]; rfl) (fun D v' W' hc hj hf K hK => ?_) ?_
                  · obtain ⟨j0, jk, jn, b_u⟩ := hj
                    clear hf
                    go_step
                    refine (O1 W').mono ?_
                    rintro e W2 ⟨u, rfl, hu, hs⟩
                    obtain ⟨wb1, wb2, wb3, wb4, wb5, wb6, wb7, wb8, rfl⟩ := hu.shape
                    exact hK.out _ W2 (Keeps.steps hs) ⟨below_steps j0 (Nat.le_refl _) hs, jk.then_ hs, Nat.le_trans jn hs.size, b_u.steps hs⟩ hu ⟨_, _, _, _, _, _, _, _, rfl⟩
                  rintro _ ⟨wb1, wb2, wb3, wb4, wb5, wb6, wb7, wb8, rfl⟩
                  refine Reg.RC_at (b := ⟨#[_,_,_,_,_,_,_,_,_,_,_,_,_,_,_,_,_,_,_,_,_,_,_,_,_,_,_,_,_,_,_,_,_,_,_,_,_,_,_,_,_,_,_,_,_,_,_,_,_,_,_,_,_,_,_,_,_,_,_,_,_,_,_,_], _⟩) rfl ?_
                  refine Reg.RC_call rfl (by intro t ht; cases ht; exact Nat.le_of_ble_eq_true rfl) (by rw [hops]; rfl) (fun D v' W' hc hj hf K hK => ?_) ?_
                  · obtain ⟨j0, jk, jn, b_u⟩ := hj
                    have g8 : GFr (1) _ W' := (hf (8, some 53) (.head _) rfl).2.2
                    have g8 : FR W' _ (1) := g8
                    clear hf
                    go_step
                    refine (CM2 W' _ _ (F1.out.keeps jk) g8).mono ?_
                    rintro e W2 ⟨rfl, hs⟩
                    exact hK.out _ W2 (Keeps.steps hs) ⟨below_steps j0 (Nat.le_refl _) hs, jk.then_ hs, Nat.le_trans jn hs.size, b_u.steps hs⟩ trivial rfl
                  rintro _ rfl
                  refine Reg.RC_at (b := ⟨#[_,_,_,_,_,_,_,_,_,_,_,_,_,_,_,_,_,_,_,_,_,_,_,_,_,_,_,_,_,_,_,_,_,_,_,_,_,_,_,_,_,_,_,_,_,_,_,_,_,_,_,_,_,_,_,_,_,_,_,_,_,_,_,_], _⟩) rfl ?_
                  apply Reg.RC_pure (hc := rfl) (hst := rfl) (hw := by rw [hops]; rfl) (t := 55) (hd := rfl) (ht := Nat.le_of_ble_eq_true rfl)
                  · intro D v' W' hc hj hf K hK
                    go_step
                    exact hK.out
                  · rfl
                  apply Reg.RC_pure (hc := rfl) (hst := rfl) (hw := rfl) (t := 56) (hd := rfl) (ht := Nat.le_of_ble_eq_true rfl)
                  · intro D v' W' hc hj hf K hK
                    go_step
                    exact hK.out
                  · rfl
                  apply Reg.RC_pure (hc := rfl) (hst := rfl) (hw := rfl) (t := 57) (hd := rfl) (ht := Nat.le_of_ble_eq_true rfl)
                  · intro D v' W' hc hj hf K hK
                    go_step
                    exact hK.out
                  · rfl
                  apply Reg.RC_pure (hc := rfl) (hst := rfl) (hw := by rw [hops]; rfl) (t := 58) (hd := rfl) (ht := Nat.le_of_ble_eq_true rfl)
                  · intro D v' W' hc hj hf K hK
                    go_step
                    exact hK.out
                  · rfl
                  apply Reg.RC_pure (hc := rfl) (hst := rfl) (hw := by rw [hops]; rfl) (t := 59) (hd := rfl) (ht := Nat.le_of_ble_eq_true rfl)
                  · intro D v' W' hc hj hf K hK
                    obtain ⟨j0, jk, jn, b_u⟩ := hj
                    have c10 : W'.cell? ⟨w.heap.size, 10, none⟩ = some (.bool uc1) := b_u.c 10 rfl
                    have c11 : W'.cell? ⟨w.heap.size, 11, none⟩ = some (.slice uc2 uc3 uc4) := b_u.c 11 rfl
                    have c12 : W'.cell? ⟨w.heap.size, 12, none⟩ = some (.bool uc5) := b_u.c 12 rfl
                    have c13 : W'.cell? ⟨w.heap.size, 13, none⟩ = some (.slice uc6 uc7 uc8) := b_u.c 13 rfl
                    go_step
                    exact hK.out
                  · rfl
                  refine Reg.RC_call rfl (by intro t ht; cases ht; exact Nat.le_of_ble_eq_true rfl) (by rw [hops]; rfl) (fun D v' W' hc hj hf K hK => ?_) ?_
                  · obtain ⟨j0, jk, jn, b_u⟩ := hj
                    clear hf
                    go_step
                    refine (O0 W').mono ?_
                    rintro e W2 ⟨u, rfl, hu, hs⟩
                    obtain ⟨wc1, wc2, wc3, wc4, wc5, wc6, wc7, wc8, rfl⟩ := hu.shape
                    exact hK.out _ W2 (Keeps.steps hs) ⟨below_steps j0 (Nat.le_refl _) hs, jk.then_ hs, Nat.le_trans jn hs.size, b_u.steps hs⟩ hu ⟨_, _, _, _, _, _, _, _, rfl⟩
                  rintro _ ⟨wc1, wc2, wc3, wc4, wc5, wc6, wc7, wc8, rfl⟩
                  refine Reg.RC_at (b := ⟨#[_,_,_,_,_,_,_,_,_,_,_,_,_,_,_,_,_,_,_,_,_,_,_,_,_,_,_,_,_,_,_,_,_,_,_,_,_,_,_,_,_,_,_,_,_,_,_,_,_,_,_,_,_,_,_,_,_,_,_,_,_,_,_,_], _⟩) rfl ?_
                  refine Reg.RC_call rfl (by intro t ht; cases ht; exact Nat.le_of_ble_eq_true rfl) (by rw [hops]; rfl) (fun D v' W' hc hj hf K hK => ?_) ?_
                  · obtain ⟨j0, jk, jn, b_u⟩ := hj
                    have g15 : GFr (0) _ W' := (hf (15, some 60) (.head _) rfl).2.2
                    have g15 : FR W' _ (0) := g15
                    clear hf
                    go_step
                    refine (CM3 W' _ _ (F2.out.keeps jk) g15).mono ?_
                    rintro e W2 ⟨rfl, hs⟩
                    exact hK.out _ W2 (Keeps.steps hs) ⟨below_steps j0 (Nat.le_refl _) hs, jk.then_ hs, Nat.le_trans jn hs.size, b_u.steps hs⟩ trivial rfl
                  rintro _ rfl
                  refine Reg.RC_at (b := ⟨#[_,_,_,_,_,_,_,_,_,_,_,_,_,_,_,_,_,_,_,_,_,_,_,_,_,_,_,_,_,_,_,_,_,_,_,_,_,_,_,_,_,_,_,_,_,_,_,_,_,_,_,_,_,_,_,_,_,_,_,_,_,_,_,_], _⟩) rfl ?_
                  apply Reg.RC_pure (hc := rfl) (hst := rfl) (hw := by rw [hops]; rfl) (t := 62) (hd := rfl) (ht := Nat.le_of_ble_eq_true rfl)
                  · intro D v' W' hc hj hf K hK
                    go_step
                    exact hK.out
                  · rfl
                  apply Reg.RC_pure (hc := rfl) (hst := rfl) (hw := rfl) (t := 63) (hd := rfl) (ht := Nat.le_of_ble_eq_true rfl)
                  · intro D v' W' hc hj hf K hK
                    go_step
                    exact hK.out
                  · rfl
                  refine Reg.RC_end (fun Dn v' w4 hd hj hf => ?_)
                  obtain ⟨j0, jk, jn, b_u⟩ := hj
                  have B := j0
                  have ou := b_u
                  clear b_u
                  replace F1 := Hid.mk_ (F1.out.keeps jk)
                  replace F2 := Hid.mk_ (F2.out.keeps jk)
                  replace kk := kk.trans jk
                  clear hd hf jk j0
                  refine hQ _ _ ?_
                  clear hQ hops Q' ops'
                  go_wp2_with fail
                  refine bodyPost_ret (by simp [results, Tryz.results18, go_sem, ]; rfl) rfl ?_
                  exact ⟨rfl, belowB⟩
end Go.Proofs.YtffmbepfbienaaaGreat
namespace Go.Proofs.YtffmbepfbienaaaGreat
open Go.RowKit
def ruleC (c : Array Value) : Value → Value → Array Value
  | .agg a, .agg b => #[a.getD 0 (.bool false), a.getD 1 (.bool false), a.getD 2 (.bool false), a.getD 3 (.bool false), .int .i64 1, .int .i64 400, b.getD 0 (.bool false), b.getD 1 (.bool false), b.getD 2 (.bool false), b.getD 3 (.bool false), c.getD 0 (.bool false), c.getD 1 (.bool false), c.getD 2 (.bool false), c.getD 3 (.bool false)]
  | _, _ => #[]
set_option maxHeartbeats 6400000 in
set_option maxRecDepth 1000000 in
theorem lof21 (x y : Int) (w : World) (x0 : -9223372036854775808 ≤ x) (x1 : x ≤ 9223372036854775807) (y0 : -9223372036854775808 ≤ y) (y1 : y ≤ 9223372036854775807) (hy : y ≠ 0) :
    Calls Tryz.prog 29 #[.int .i64 x, .int .i64 y] w fun e w' => ∃ v, e = .returned v ∧ FR w' v ((x : Rat) / (y : Rat)) ∧ Steps w w' := by
  have OF := fun w' => rofF x y w' x0 x1 y0 y1 hy
  generalize (x : Rat) / (y : Rat) = q at *
  clear x0 x1 y0 y1 hy
  go_enter Tryz.func29, Tryz.ntmps29
  go_wp2_with fail
  refine (OF _).mono ?_
  rintro e w1 ⟨vp_, rfl, hvp_, hb1⟩
  have st : Steps _ w1 := hb1
  have B : Below w.heap.size w w1 := belowA st
  have nr : Blk w1 (w.heap.size) 28 #[.bool false, .slice none 0 0, .bool false, .slice none 0 0] := Blk.stepsK st
  have or := nr
  clear nr
  clear st
  have cr0 := or.q0
  have cr1 := or.q1
  have cr2 := or.q2
  have cr3 := or.q3
  have fr := or.fr
  have lr := or.lt
  obtain ⟨p_1, p_2, p_3, p_4, p_5, p_6, p_7, p_8, rfl⟩ := hvp_.shape
  have Fp_ := Hid.mk_ hvp_
  clear hvp_
  have zr_1 : w.heap.size < w1.heap.size := or.lt
  have zz1 := B.size
  go_wp2_with fail
  refine bodyPost_ret (by simp [results, Tryz.results29, go_sem, cr0, cr1, cr2, cr3, fr, lr]; rfl) rfl ?_
  exact ⟨_, rfl, Fp_.out.keeps keepsB, belowB⟩
set_option maxHeartbeats 6400000 in
set_option maxRecDepth 1000000 in
theorem lrule {uc1 uc5 : Bool} {uc2 uc6 : Option Addr} {uc3 uc4 uc7 uc8 : Nat} (w : World) :
    Calls Tryz.prog 35 #[.agg #[.bool uc1, .slice uc2 uc3 uc4, .bool uc5, .slice uc6 uc7 uc8]] w fun e w' => ∃ ua1 ua2 ua3 ua4 ua5 ua6 ua7 ua8 ub1 ub2 ub3 ub4 ub5 ub6 ub7 ub8, e = .returned (.agg #[.bool ua1, .slice ua2 ua3 ua4, .bool ua5, .slice ua6 ua7 ua8, .int .i64 1, .int .i64 400, .bool ub1, .slice ub2 ub3 ub4, .bool ub5, .slice ub6 ub7 ub8, .bool uc1, .slice uc2 uc3 uc4, .bool uc5, .slice uc6 uc7 uc8]) ∧ FR w' (.agg #[.bool ua1, .slice ua2 ua3 ua4, .bool ua5, .slice ua6 ua7 ua8]) 0 ∧ FR w' (.agg #[.bool ub1, .slice ub2 ub3 ub4, .bool ub5, .slice ub6 ub7 ub8]) (((1 : Int) : Rat) / ((10 : Int) : Rat)) ∧ Steps w w' := by
  have OA : ∀ w', Calls Tryz.prog 29 #[.int .i64 0, .int .i64 1] w' fun e w2 => ∃ v, e = .returned v ∧ FR w2 v 0 ∧ Steps w' w2 := fun w' => by have := lof21 0 1 w' (by decide) (by decide) (by decide) (by decide) (by decide); rw [one_divQ, zero_cast] at this; exact this
  have OB := fun w' => lof21 1 10 w' (by decide) (by decide) (by decide) (by decide) (by decide)
  generalize ((1 : Int) : Rat) / ((10 : Int) : Rat) = q at *
  go_enter Tryz.func35, Tryz.ntmps35
  go_upto_region 1 with fail
  refine Reg.wp_chain_n (fun N0 D v W => Below w.heap.size w W ∧ Keeps w W ∧ N0 ≤ W.heap.size ∧ Blk W (w.heap.size) 28 #[.bool uc1, .slice uc2 uc3 uc4, .bool uc5, .slice uc6 uc7 uc8] ∧ ((D 4 = false → Blk W (w.heap.size + 1) 45 #[.bool false, .slice none 0 0, .bool false, .slice none 0 0, .int .i64 0, .int .i64 0, .bool false, .slice none 0 0, .bool false, .slice none 0 0, .bool false, .slice none 0 0, .bool false, .slice none 0 0]) ∧ (D 4 = true → D 0 = true ∧ D 1 = true ∧ Blk W (w.heap.size + 1) 45 (ruleC #[.bool uc1, .slice uc2 uc3 uc4, .bool uc5, .slice uc6 uc7 uc8] (v 0) (v 1)))))
    (Reg.inl [0, 1, 4]) (Reg.gv [(0, IsFr), (1, IsFr)]) (gw [(0, GFr (0)), (1, GFr (q))]) (fun _ => Keeps) (fun _ _ => False) (Reg.pl [(4, [(0, some 3), (1, some 4)]), (5, [(0, some 3), (1, some 4)])]) (Reg.pl [(0, [4]), (1, [4])])
    (by kernel_rfl) (by kernel_rfl) (by kernel_rfl) (Reg.gv_some _ (by intro p hp; simp only [List.mem_cons, List.not_mem_nil, or_false] at hp; rcases hp with rfl | rfl <;> first | exact ⟨_, rfl⟩ | exact ⟨_, 0, rfl⟩ | exact ⟨_, none, 0, 0, rfl⟩ | exact ⟨_, false, none, 0, 0, rfl⟩ | exact ⟨_, false, none, 0, 0, false, none, 0, 0, rfl⟩)) (fun N0 hN0 => ⟨fun v => ?_, fun D v v' W hv hj => ?_, fun D v k j W W' x _ _ _ _ hk hg => gw_keeps _ (by intro p hp; simp only [List.mem_cons, List.not_mem_nil, or_false] at hp; rcases hp with rfl | rfl <;> first | exact GFr.keeps | exact GFrE.keeps | exact GNu.keeps | exact GNuE.keeps | exact GLi.keeps) hk hg, fun _ _ _ _ h => h.elim, fun ops' Q' hops hQ => ?_⟩)
  · exact ⟨belowB, keepsB, by first | with_reducible exact Nat.le_of_eq hN0.out | (simp only [World.size_drew]; with_reducible exact Nat.le_of_eq hN0.out), ownK, ⟨fun _ => ownK, (fun h => Bool.noConfusion h)⟩⟩
  · obtain ⟨j0, jk, jn, b_x, b_r⟩ := hj
    exact ⟨j0, jk, jn, b_x, ⟨b_r.1, fun h => by obtain ⟨d_0, d_1, hb⟩ := b_r.2 h; refine ⟨d_0, d_1, ?_⟩; first | (rw [hv 0 d_0, hv 1 d_1]; exact hb) | (rw [← hv 0 d_0, ← hv 1 d_1]; exact hb)⟩⟩
  have i_x : w.heap.size < N0 := by have e := hN0.out; (try simp only [World.size_alloc, World.size_setCell, World.size_drew, World.heap_drewN] at e); first | omega | (have h := ox.lt; omega)
  have i_r : w.heap.size + 1 < N0 := by have e := hN0.out; (try simp only [World.size_alloc, World.size_setCell, World.size_drew, World.heap_drewN] at e); first | omega | (have h := or.lt; omega)
  have iw : w.heap.size ≤ N0 := by have e := hN0.out; (try simp only [World.size_alloc, World.size_setCell, World.size_drew, World.heap_drewN] at e); first | omega | (have h := B.size; omega)
  clear hN0
  refine Reg.RC_call rfl (by intro t ht; cases ht; exact Nat.le_of_ble_eq_true rfl) rfl (fun D v' W' hc hj hf K hK => ?_) ?_
  · obtain ⟨j0, jk, jn, b_x, b_r⟩ := hj
    clear hf
    go_step
    refine (OA W').mono ?_
    rintro e W2 ⟨u, rfl, hu, hs⟩
    obtain ⟨i_1, i_2, i_3, i_4, i_5, i_6, i_7, i_8, rfl⟩ := hu.shape
    exact hK.out _ W2 (Keeps.steps hs) ⟨below_steps j0 (Nat.le_refl _) hs, jk.then_ hs, Nat.le_trans jn hs.size, b_x.steps hs, ⟨fun h => (b_r.1 h).steps hs, fun h => Bool.noConfusion ((hc.2 4 (by decide)).symm.trans h)⟩⟩ hu ⟨_, _, _, _, _, _, _, _, rfl⟩
  rintro _ ⟨i_1, i_2, i_3, i_4, i_5, i_6, i_7, i_8, rfl⟩
  refine Reg.RC_at (b := ⟨#[_,_,_,_,_,_,_], _⟩) rfl ?_
  refine Reg.RC_call rfl (by intro t ht; cases ht; exact Nat.le_of_ble_eq_true rfl) rfl (fun D v' W' hc hj hf K hK => ?_) ?_
  · obtain ⟨j0, jk, jn, b_x, b_r⟩ := hj
    clear hf
    go_step
    refine (OB W').mono ?_
    rintro e W2 ⟨u, rfl, hu, hs⟩
    obtain ⟨k_1, k_2, k_3, k_4, k_5, k_6, k_7, k_8, rfl⟩ := hu.shape
    exact hK.out _ W2 (Keeps.steps hs) ⟨below_steps j0 (Nat.le_refl _) hs, jk.then_ hs, Nat.le_trans jn hs.size, b_x.steps hs, ⟨fun h => (b_r.1 h).steps hs, fun h => Bool.noConfusion ((hc.2 4 (by decide)).symm.trans h)⟩⟩ hu ⟨_, _, _, _, _, _, _, _, rfl⟩
  rintro _ ⟨k_1, k_2, k_3, k_4, k_5, k_6, k_7, k_8, rfl⟩
  refine Reg.RC_at (b := ⟨#[_,_,_,_,_,_,_], _⟩) rfl ?_
  apply Reg.RC_pure (hc := rfl) (hst := rfl) (hw := rfl) (t := 5) (hd := rfl) (ht := Nat.le_of_ble_eq_true rfl)
  · intro D v' W' hc hj hf K hK
    obtain ⟨j0, jk, jn, b_x, b_r⟩ := hj
    have c0 : W'.cell? ⟨w.heap.size, 0, none⟩ = some (.bool uc1) := b_x.c 0 rfl
    have c1 : W'.cell? ⟨w.heap.size, 1, none⟩ = some (.slice uc2 uc3 uc4) := b_x.c 1 rfl
    have c2 : W'.cell? ⟨w.heap.size, 2, none⟩ = some (.bool uc5) := b_x.c 2 rfl
    have c3 : W'.cell? ⟨w.heap.size, 3, none⟩ = some (.slice uc6 uc7 uc8) := b_x.c 3 rfl
    go_step
    exact hK.out
  · rfl
  apply Reg.RC_pure (hc := rfl) (hst := rfl) (hw := rfl) (t := 6) (hd := rfl) (ht := Nat.le_of_ble_eq_true rfl)
  · intro D v' W' hc hj hf K hK
    go_step
    exact hK.out
  · rfl
  refine Reg.RC_call rfl (by intro t ht; cases ht) rfl (fun D v' W' hc hj hf K hK => ?_) (fun _ _ => Reg.RC_at (b := ⟨_, _⟩) rfl ?_)
  · obtain ⟨j0, jk, jn, b_x, b_r⟩ := hj
    have hb := b_r.1 hc.1
    have e2 : w.heap.size ≤ w.heap.size + 1 := by omega
    have ff := hb.fr
    have fc_0 := hf (0, some 3) (.head _) rfl
    have ec_0 : v' 0 = .agg #[.bool i_1, .slice i_2 i_3 i_4, .bool i_5, .slice i_6 i_7 i_8] := fc_0.2.1
    have fc_1 := hf (1, some 4) (.tail _ (.head _)) rfl
    have ec_1 : v' 1 = .agg #[.bool k_1, .slice k_2 k_3 k_4, .bool k_5, .slice k_6 k_7 k_8] := fc_1.2.1
    have cc0 : W'.cell? ⟨w.heap.size + 1, 0, none⟩ = some (.bool false) := hb.c 0 rfl
    have cc1 : W'.cell? ⟨w.heap.size + 1, 1, none⟩ = some (.slice none 0 0) := hb.c 1 rfl
    have cc2 : W'.cell? ⟨w.heap.size + 1, 2, none⟩ = some (.bool false) := hb.c 2 rfl
    have cc3 : W'.cell? ⟨w.heap.size + 1, 3, none⟩ = some (.slice none 0 0) := hb.c 3 rfl
    have cc4 : W'.cell? ⟨w.heap.size + 1, 4, none⟩ = some (.int .i64 0) := hb.c 4 rfl
    have cc5 : W'.cell? ⟨w.heap.size + 1, 5, none⟩ = some (.int .i64 0) := hb.c 5 rfl
    have cc6 : W'.cell? ⟨w.heap.size + 1, 6, none⟩ = some (.bool false) := hb.c 6 rfl
    have cc7 : W'.cell? ⟨w.heap.size + 1, 7, none⟩ = some (.slice none 0 0) := hb.c 7 rfl
    have cc8 : W'.cell? ⟨w.heap.size + 1, 8, none⟩ = some (.bool false) := hb.c 8 rfl
    have cc9 : W'.cell? ⟨w.heap.size + 1, 9, none⟩ = some (.slice none 0 0) := hb.c 9 rfl
    have cc10 : W'.cell? ⟨w.heap.size + 1, 10, none⟩ = some (.bool false) := hb.c 10 rfl
    have cc11 : W'.cell? ⟨w.heap.size + 1, 11, none⟩ = some (.slice none 0 0) := hb.c 11 rfl
    have cc12 : W'.cell? ⟨w.heap.size + 1, 12, none⟩ = some (.bool false) := hb.c 12 rfl
    have cc13 : W'.cell? ⟨w.heap.size + 1, 13, none⟩ = some (.slice none 0 0) := hb.c 13 rfl
    go_step
    have nb2 : Blk ((((((((((((((W'.setCell ⟨w.heap.size + 1, 0, none⟩ (.bool i_1)).setCell ⟨w.heap.size + 1, 1, none⟩ (.slice i_2 i_3 i_4)).setCell ⟨w.heap.size + 1, 2, none⟩ (.bool i_5)).setCell ⟨w.heap.size + 1, 3, none⟩ (.slice i_6 i_7 i_8)).setCell ⟨w.heap.size + 1, 4, none⟩ (.int .i64 1)).setCell ⟨w.heap.size + 1, 5, none⟩ (.int .i64 400)).setCell ⟨w.heap.size + 1, 6, none⟩ (.bool k_1)).setCell ⟨w.heap.size + 1, 7, none⟩ (.slice k_2 k_3 k_4)).setCell ⟨w.heap.size + 1, 8, none⟩ (.bool k_5)).setCell ⟨w.heap.size + 1, 9, none⟩ (.slice k_6 k_7 k_8)).setCell ⟨w.heap.size + 1, 10, none⟩ (.bool uc1)).setCell ⟨w.heap.size + 1, 11, none⟩ (.slice uc2 uc3 uc4)).setCell ⟨w.heap.size + 1, 12, none⟩ (.bool uc5)).setCell ⟨w.heap.size + 1, 13, none⟩ (.slice uc6 uc7 uc8)) (w.heap.size + 1) 45 (ruleC #[.bool uc1, .slice uc2 uc3 uc4, .bool uc5, .slice uc6 uc7 uc8] (v' 0) (v' 1)) := by rw [ec_0, ec_1]; exact (Blk.set2 (cs' := #[.bool i_1, .slice i_2 i_3 i_4, .bool i_5, .slice i_6 i_7 i_8, .int .i64 1, .int .i64 400, .bool k_1, .slice k_2 k_3 k_4, .bool k_5, .slice k_6 k_7 k_8, .bool uc1, .slice uc2 uc3 uc4, .bool uc5, .slice uc6 uc7 uc8]) (Blk.set2 (cs' := #[.bool i_1, .slice i_2 i_3 i_4, .bool i_5, .slice i_6 i_7 i_8, .int .i64 1, .int .i64 400, .bool k_1, .slice k_2 k_3 k_4, .bool k_5, .slice k_6 k_7 k_8, .bool uc1, .slice uc2 uc3 uc4, .bool uc5, .slice none 0 0]) (Blk.set2 (cs' := #[.bool i_1, .slice i_2 i_3 i_4, .bool i_5, .slice i_6 i_7 i_8, .int .i64 1, .int .i64 400, .bool k_1, .slice k_2 k_3 k_4, .bool k_5, .slice k_6 k_7 k_8, .bool uc1, .slice uc2 uc3 uc4, .bool false, .slice none 0 0]) (Blk.set2 (cs' := #[.bool i_1, .slice i_2 i_3 i_4, .bool i_5, .slice i_6 i_7 i_8, .int .i64 1, .int .i64 400, .bool k_1, .slice k_2 k_3 k_4, .bool k_5, .slice k_6 k_7 k_8, .bool uc1, .slice none 0 0, .bool false, .slice none 0 0]) (Blk.set2 (cs' := #[.bool i_1, .slice i_2 i_3 i_4, .bool i_5, .slice i_6 i_7 i_8, .int .i64 1, .int .i64 400, .bool k_1, .slice k_2 k_3 k_4, .bool k_5, .slice k_6 k_7 k_8, .bool false, .slice none 0 0, .bool false, .slice none 0 0]) (Blk.set2 (cs' := #[.bool i_1, .slice i_2 i_3 i_4, .bool i_5, .slice i_6 i_7 i_8, .int .i64 1, .int .i64 400, .bool k_1, .slice k_2 k_3 k_4, .bool k_5, .slice none 0 0, .bool false, .slice none 0 0, .bool false, .slice none 0 0]) (Blk.set2 (cs' := #[.bool i_1, .slice i_2 i_3 i_4, .bool i_5, .slice i_6 i_7 i_8, .int .i64 1, .int .i64 400, .bool k_1, .slice k_2 k_3 k_4, .bool false, .slice none 0 0, .bool false, .slice none 0 0, .bool false, .slice none 0 0]) (Blk.set2 (cs' := #[.bool i_1, .slice i_2 i_3 i_4, .bool i_5, .slice i_6 i_7 i_8, .int .i64 1, .int .i64 400, .bool k_1, .slice none 0 0, .bool false, .slice none 0 0, .bool false, .slice none 0 0, .bool false, .slice none 0 0]) (Blk.set2 (cs' := #[.bool i_1, .slice i_2 i_3 i_4, .bool i_5, .slice i_6 i_7 i_8, .int .i64 1, .int .i64 400, .bool false, .slice none 0 0, .bool false, .slice none 0 0, .bool false, .slice none 0 0, .bool false, .slice none 0 0]) (Blk.set2 (cs' := #[.bool i_1, .slice i_2 i_3 i_4, .bool i_5, .slice i_6 i_7 i_8, .int .i64 1, .int .i64 0, .bool false, .slice none 0 0, .bool false, .slice none 0 0, .bool false, .slice none 0 0, .bool false, .slice none 0 0]) (Blk.set2 (cs' := #[.bool i_1, .slice i_2 i_3 i_4, .bool i_5, .slice i_6 i_7 i_8, .int .i64 0, .int .i64 0, .bool false, .slice none 0 0, .bool false, .slice none 0 0, .bool false, .slice none 0 0, .bool false, .slice none 0 0]) (Blk.set2 (cs' := #[.bool i_1, .slice i_2 i_3 i_4, .bool i_5, .slice none 0 0, .int .i64 0, .int .i64 0, .bool false, .slice none 0 0, .bool false, .slice none 0 0, .bool false, .slice none 0 0, .bool false, .slice none 0 0]) (Blk.set2 (cs' := #[.bool i_1, .slice i_2 i_3 i_4, .bool false, .slice none 0 0, .int .i64 0, .int .i64 0, .bool false, .slice none 0 0, .bool false, .slice none 0 0, .bool false, .slice none 0 0, .bool false, .slice none 0 0]) (Blk.set2 (cs' := #[.bool i_1, .slice none 0 0, .bool false, .slice none 0 0, .int .i64 0, .int .i64 0, .bool false, .slice none 0 0, .bool false, .slice none 0 0, .bool false, .slice none 0 0, .bool false, .slice none 0 0]) hb (i := 0) rfl) (i := 1) rfl) (i := 2) rfl) (i := 3) rfl) (i := 4) rfl) (i := 5) rfl) (i := 6) rfl) (i := 7) rfl) (i := 8) rfl) (i := 9) rfl) (i := 10) rfl) (i := 11) rfl) (i := 12) rfl) (i := 13) rfl)
    exact hK.out undef _ (Keeps.only hb rfl ((Only.refl _ _).set.set.set.set.set.set.set.set.set.set.set.set.set.set)) ⟨(Below.setCell (p := ⟨w.heap.size + 1, 13, none⟩) (Below.setCell (p := ⟨w.heap.size + 1, 12, none⟩) (Below.setCell (p := ⟨w.heap.size + 1, 11, none⟩) (Below.setCell (p := ⟨w.heap.size + 1, 10, none⟩) (Below.setCell (p := ⟨w.heap.size + 1, 9, none⟩) (Below.setCell (p := ⟨w.heap.size + 1, 8, none⟩) (Below.setCell (p := ⟨w.heap.size + 1, 7, none⟩) (Below.setCell (p := ⟨w.heap.size + 1, 6, none⟩) (Below.setCell (p := ⟨w.heap.size + 1, 5, none⟩) (Below.setCell (p := ⟨w.heap.size + 1, 4, none⟩) (Below.setCell (p := ⟨w.heap.size + 1, 3, none⟩) (Below.setCell (p := ⟨w.heap.size + 1, 2, none⟩) (Below.setCell (p := ⟨w.heap.size + 1, 1, none⟩) (Below.setCell (p := ⟨w.heap.size + 1, 0, none⟩) j0 (by show w.heap.size ≤ w.heap.size + 1; omega) _) (by show w.heap.size ≤ w.heap.size + 1; omega) _) (by show w.heap.size ≤ w.heap.size + 1; omega) _) (by show w.heap.size ≤ w.heap.size + 1; omega) _) (by show w.heap.size ≤ w.heap.size + 1; omega) _) (by show w.heap.size ≤ w.heap.size + 1; omega) _) (by show w.heap.size ≤ w.heap.size + 1; omega) _) (by show w.heap.size ≤ w.heap.size + 1; omega) _) (by show w.heap.size ≤ w.heap.size + 1; omega) _) (by show w.heap.size ≤ w.heap.size + 1; omega) _) (by show w.heap.size ≤ w.heap.size + 1; omega) _) (by show w.heap.size ≤ w.heap.size + 1; omega) _) (by show w.heap.size ≤ w.heap.size + 1; omega) _) (by show w.heap.size ≤ w.heap.size + 1; omega) _), jk.trans (Keeps.only hb rfl ((Only.refl _ _).set.set.set.set.set.set.set.set.set.set.set.set.set.set)), by simpa using jn, ((((((((((((((b_x).far' (show w.heap.size ≠ w.heap.size + 1 by omega)).far' (show w.heap.size ≠ w.heap.size + 1 by omega)).far' (show w.heap.size ≠ w.heap.size + 1 by omega)).far' (show w.heap.size ≠ w.heap.size + 1 by omega)).far' (show w.heap.size ≠ w.heap.size + 1 by omega)).far' (show w.heap.size ≠ w.heap.size + 1 by omega)).far' (show w.heap.size ≠ w.heap.size + 1 by omega)).far' (show w.heap.size ≠ w.heap.size + 1 by omega)).far' (show w.heap.size ≠ w.heap.size + 1 by omega)).far' (show w.heap.size ≠ w.heap.size + 1 by omega)).far' (show w.heap.size ≠ w.heap.size + 1 by omega)).far' (show w.heap.size ≠ w.heap.size + 1 by omega)).far' (show w.heap.size ≠ w.heap.size + 1 by omega)).far' (show w.heap.size ≠ w.heap.size + 1 by omega), ⟨fun h => Bool.noConfusion h, fun _ => ⟨fc_0.1, fc_1.1, nb2⟩⟩⟩ trivial trivial
  refine Reg.RC_end (fun Dn v' w1 hd hj hf => ?_)
  obtain ⟨j0, jk, jn, b_x, b_r⟩ := hj
  have B := j0
  have ox := b_x
  clear b_x
  obtain ⟨-, -, or⟩ := b_r.2 (hd 4 (Nat.le_of_ble_eq_true rfl))
  have ef0 : v' 0 = .agg #[.bool i_1, .slice i_2 i_3 i_4, .bool i_5, .slice i_6 i_7 i_8] := (hf (0, some 3) (.head _) rfl).2.1
  have ef1 : v' 1 = .agg #[.bool k_1, .slice k_2 k_3 k_4, .bool k_5, .slice k_6 k_7 k_8] := (hf (1, some 4) (.tail _ (.head _)) rfl).2.1
  rw [ef0, ef1] at or
  replace or : Blk _ _ _ #[.bool i_1, .slice i_2 i_3 i_4, .bool i_5, .slice i_6 i_7 i_8, .int .i64 1, .int .i64 400, .bool k_1, .slice k_2 k_3 k_4, .bool k_5, .slice k_6 k_7 k_8, .bool uc1, .slice uc2 uc3 uc4, .bool uc5, .slice uc6 uc7 uc8] := or
  clear b_r ef0 ef1
  have Fi_ : Hid (FR w1 (.agg #[.bool i_1, .slice i_2 i_3 i_4, .bool i_5, .slice i_6 i_7 i_8]) (0)) := (hf (0, some 3) (.head _) rfl).2.2
  have Fk_ : Hid (FR w1 (.agg #[.bool k_1, .slice k_2 k_3 k_4, .bool k_5, .slice k_6 k_7 k_8]) (q)) := (hf (1, some 4) (.tail _ (.head _)) rfl).2.2
  clear hd hf jk j0
  refine hQ _ _ ?_
  clear hQ hops Q' ops'
  have lx := ox.lt
  have cr0 := or.q0
  have cr1 := or.q1
  have cr2 := or.q2
  have cr3 := or.q3
  have cr4 := or.q4
  have cr5 := or.q5
  have cr6 := or.q6
  have cr7 := or.q7
  have cr8 := or.q8
  have cr9 := or.q9
  have cr10 := or.q10
  have cr11 := or.q11
  have cr12 := or.q12
  have cr13 := or.q13
  have lr := or.lt
  go_wp2_with fail
  refine bodyPost_ret (by simp [results, Tryz.results35, go_sem, lx, cr0, cr1, cr2, cr3, cr4, cr5, cr6, cr7, cr8, cr9, cr10, cr11, cr12, cr13, lr]; rfl) rfl ?_
  exact ⟨_, _, _, _, _, _, _, _, _, _, _, _, _, _, _, _, rfl, Fi_.out.keeps keepsB, Fk_.out.keeps keepsB, belowB⟩
end Go.Proofs.YtffmbepfbienaaaGreat
namespace Go.Proofs.YtffmbepfbienaaaGreat
open Go.RowKit
theorem FR.lens {w : World} {a1 a5 : Bool} {a2 a6 : Option Addr} {p q a4 a8 : Nat} {r : Rat} (h : FR w (.agg #[.bool a1, .slice a2 p a4, .bool a5, .slice a6 q a8]) r) : p = (limbs (absN r.num)).length ∧ q = (limbs (absN (r.den : Int))).length := by
  obtain ⟨x2, x3, x4, x6, x7, x8, e, n1, n2, -⟩ := h.nums
  simp only [Value.agg.injEq, Array.mk.injEq, List.cons.injEq, and_true, Value.slice.injEq, Value.bool.injEq] at e
  obtain ⟨e1, ⟨rfl, rfl, rfl⟩, e2, rfl, rfl, rfl⟩ := e
  obtain ⟨_, _, f1, _⟩ := n1.parts
  obtain ⟨_, _, f2, _⟩ := n2.parts
  simp only [Value.agg.injEq, Array.mk.injEq, List.cons.injEq, and_true, Value.slice.injEq, Value.bool.injEq] at f1 f2
  exact ⟨f1.2.2.1, f2.2.2.1⟩
theorem absN_nn (x : Int) : 0 ≤ absN x := by unfold absN; omega
theorem FR.limF {w : World} {a1 a5 : Bool} {a2 a6 : Option Addr} {p q a4 a8 : Nat} {r : Rat} (h : FR w (.agg #[.bool a1, .slice a2 p a4, .bool a5, .slice a6 q a8]) r) (most : Nat) (h1 : absN r.num < bp most) (h2 : absN (r.den : Int) < bp most) : limF most (some r) p q = true := by
  obtain ⟨rfl, rfl⟩ := h.lens
  unfold Go.Proofs.YtffmbepfbienaaaGreat.limF
  rw [decide_eq_true ((limbs_length (absN_nn _) most).2 h1), decide_eq_true ((limbs_length (absN_nn _) most).2 h2)]
  rfl
theorem FR.few {w : World} {a1 a5 : Bool} {a2 a6 : Option Addr} {p q a4 a8 : Nat} {r : Rat} (h : FR w (.agg #[.bool a1, .slice a2 p a4, .bool a5, .slice a6 q a8]) r) : ∀ s, some r = some s → absN s.num ≤ bp p ∧ (s.den : Int) ≤ bp q := by
  intro s e
  injection e with e
  subst e
  obtain ⟨rfl, rfl⟩ := h.lens
  have h1 := (limbs_length (absN_nn r.num) _).1 (Nat.le_refl _)
  have h2 := (limbs_length (absN_nn (r.den : Int)) _).1 (Nat.le_refl _)
  have e3 : absN (r.den : Int) = (r.den : Int) := by unfold absN; omega
  rw [e3] at h2 ⊢
  exact ⟨Int.le_of_lt h1, Int.le_of_lt h2⟩
theorem mkS {ka1 ka5 : Bool} {ka2 ka6 : Option Addr} {ka3 ka4 ka7 ka8 : Nat} {kb1 kb5 : Bool} {kb2 kb6 : Option Addr} {kb3 kb4 kb7 kb8 : Nat} {kc1 kc5 : Bool} {kc2 kc6 : Option Addr} {kc3 kc4 kc7 kc8 : Nat} {kd1 kd5 : Bool} {kd2 kd6 : Option Addr} {kd3 kd4 kd7 kd8 : Nat} {w : World} {T : Nat → Rat} (h0 : FR w (.agg #[.bool ka1, .slice ka2 ka3 ka4, .bool ka5, .slice ka6 ka7 ka8]) (T 0)) (h1 : FR w (.agg #[.bool kb1, .slice kb2 kb3 kb4, .bool kb5, .slice kb6 kb7 kb8]) (T 1)) (h2 : FR w (.agg #[.bool kc1, .slice kc2 kc3 kc4, .bool kc5, .slice kc6 kc7 kc8]) (T 2)) (h3 : FR w (.agg #[.bool kd1, .slice kd2 kd3 kd4, .bool kd5, .slice kd6 kd7 kd8]) (T 3)) : SimO w (.agg #[.bool ka1, .slice ka2 ka3 ka4, .bool ka5, .slice ka6 ka7 ka8, .bool kb1, .slice kb2 kb3 kb4, .bool kb5, .slice kb6 kb7 kb8, .bool kc1, .slice kc2 kc3 kc4, .bool kc5, .slice kc6 kc7 kc8, .bool kd1, .slice kd2 kd3 kd4, .bool kd5, .slice kd6 kd7 kd8]) (some T) :=
  ⟨_, _, _, _, _, _, _, _, _, _, _, _, _, _, _, _, _, _, _, _, _, _, _, _, _, _, _, _, _, _, _, _, rfl, h0, h1, h2, h3⟩
theorem ints3 {w : World} {g : Nat} {t : TypeId} {x y z : Int} (h : Blk w g t #[.int .i64 x, .int .i64 y, .int .i64 z]) : IntsR w (.slice (some ⟨g, 0, none⟩) 3 3) [x, y, z] := by
  refine ⟨_, _, rfl, Nat.le_refl _, fun _ => ⟨g, 0, rfl, h.lt, fun k hk => ?_⟩⟩
  have hk' : k < 3 := hk
  rcases (show k = 0 ∨ k = 1 ∨ k = 2 by omega) with rfl | rfl | rfl
  · exact h.c 0 rfl
  · exact h.c 1 rfl
  · exact h.c 2 rfl
def simA : Nat → Rat := simT (0, 0) (1, 0) (1, 1) (1, 3)
theorem simA_eq : simA 0 = 0 ∧ simA 1 = 2 ∧ simA 2 = 1 ∧ simA 3 = 1 := by decide +kernel
theorem ofS_A : ofS (0, 0) (1, 0) (1, 1) (1, 3) = (0, some simA) := by
  unfold ofS
  rw [if_pos (by decide), if_neg (by decide)]
  rfl
def ruleA (i : Nat) : Option Rat := match i with | 0 => some 0 | 1 => some (1 / 10) | _ => some 1
theorem chance_A : chanceQ 1 400 10 = 1 / 10 := by decide +kernel
theorem odds_A : oddsQ (withQ (1 / 10) (1 / 10)) (1 / 10) [3, -1, 9] noOut 3 = ((8281 : Int) : Rat) / ((1000 : Int) : Rat) := by decide +kernel
theorem tenth : ((1 : Int) : Rat) / ((10 : Int) : Rat) = 1 / 10 := by decide +kernel
theorem odds_alive {ua1 ua5 ub1 ub5 uc1 uc5 : Bool} {ua2 ua6 ub2 ub6 uc2 uc6 : Option Addr} {ua3 ua4 ua7 ua8 ub3 ub4 ub7 ub8 uc3 uc4 uc7 uc8 : Nat} {g : Nat} {t : TypeId} (w : World) (h0 : FR w (.agg #[.bool ua1, .slice ua2 ua3 ua4, .bool ua5, .slice ua6 ua7 ua8]) 0) (h1 : FR w (.agg #[.bool ub1, .slice ub2 ub3 ub4, .bool ub5, .slice ub6 ub7 ub8]) (((1 : Int) : Rat) / ((10 : Int) : Rat))) (h2 : FR w (.agg #[.bool uc1, .slice uc2 uc3 uc4, .bool uc5, .slice uc6 uc7 uc8]) 1) (hb : Blk w g t #[.int .i64 3, .int .i64 (-1), .int .i64 9]) :
    Calls Tryz.prog 19 #[.agg #[.bool ua1, .slice ua2 ua3 ua4, .bool ua5, .slice ua6 ua7 ua8, .int .i64 1, .int .i64 400, .bool ub1, .slice ub2 ub3 ub4, .bool ub5, .slice ub6 ub7 ub8, .bool uc1, .slice uc2 uc3 uc4, .bool uc5, .slice uc6 uc7 uc8], .slice (some ⟨g, 0, none⟩) 3 3, .int .i64 10] w fun e w' => ∃ v, e = .returned (.tuple #[v, .int .i64 0]) ∧ FR w' v (((8281 : Int) : Rat) / ((1000 : Int) : Rat)) ∧ Steps w w' := by
  rw [tenth] at h1
  have a1 : ua1 = false := by
    obtain ⟨x2, x3, x4, x6, x7, x8, e, -, -, -⟩ := h0.nums
    simp only [Value.agg.injEq, Array.mk.injEq, List.cons.injEq, and_true, Value.slice.injEq, Value.bool.injEq] at e
    rw [e.1]; decide
  subst a1
  have fw : FewL ruleA (f4v ua3 ub3 uc3 uc3) (f4v ua7 ub7 uc7 uc7) 3 := fun i hi => by
    rcases (show i = 0 ∨ i = 1 ∨ i = 2 by omega) with rfl | rfl | rfl
    · exact h0.few
    · exact h1.few
    · exact h2.few
  have rk : ruleOk ruleA (f4v ua3 ub3 uc3 uc3) (f4v ua7 ub7 uc7 uc7) 1 400 false = true := by
    rw [ruleOk_iff]
    refine ⟨?_, by decide, rfl, by decide +kernel, by decide +kernel, by decide +kernel⟩
    rw [limL3, show limF 2 (ruleA 0) (f4v ua3 ub3 uc3 uc3 0) (f4v ua7 ub7 uc7 uc7 0) = true from h0.limF 2 (by decide +kernel) (by decide +kernel), show limF 2 (ruleA 1) (f4v ua3 ub3 uc3 uc3 1) (f4v ua7 ub7 uc7 uc7 1) = true from h1.limF 2 (by decide +kernel) (by decide +kernel), show limF 2 (ruleA 2) (f4v ua3 ub3 uc3 uc3 2) (f4v ua7 ub7 uc7 uc7 2) = true from h2.limF 2 (by decide +kernel) (by decide +kernel)]
    rfl
  have := mOdds (R := 1) (A := 400) (n := 10) (O := ruleA) w h0 h1 h2 fw (ints3 hb)
  rw [rk, show okK [3, -1, 9] 10 [(3 : Int), -1, 9].length = true by decide, chance_A, decide_eq_true (show (1 / 10 : Rat) < 1 by decide +kernel)] at this
  rw [show oddsE true [(3 : Int), -1, 9].length true 10 true = 0 by decide, show (ruleA 1).getD 0 = 1 / 10 from rfl] at this
  refine this.mono ?_
  rintro e w2 ⟨v, rfl, hv, hs⟩
  refine ⟨v, rfl, ?_, hs⟩
  rw [← odds_A]
  exact hv
set_option maxHeartbeats 6400000 in
set_option maxRecDepth 1000000 in
theorem lalive21 (w : World) : Calls Tryz.prog 17 #[] w fun e w' => e = .returned (.bool true) ∧ Steps w w' := by
  have PO : ∀ w', Calls Tryz.prog 11 #[.agg #[.int .i64 0, .int .i64 0], .agg #[.int .i64 1, .int .i64 0], .agg #[.int .i64 1, .int .i64 1], .agg #[.int .i64 1, .int .i64 3]] w' fun e w2 => ∃ v, e = .returned (.tuple #[v, .int .i64 0]) ∧ SimO w2 v (some simA) ∧ Steps w' w2 := fun w' => by
    have := mOf 0 0 1 0 1 1 1 3 w' (by decide) (by decide) (by decide) (by decide)
    rw [ofS_A] at this
    exact this
  have L1 : ∀ (x : Int) (r : Rat), -9223372036854775808 ≤ x → x ≤ 9223372036854775807 → (x : Rat) = r → ∀ w', Calls Tryz.prog 29 #[.int .i64 x, .int .i64 1] w' fun e w2 => ∃ v, e = .returned v ∧ FR w2 v r ∧ Steps w' w2 := fun x r h0 h1 e w' => by have := lof21 x 1 w' h0 h1 (by decide) (by decide) (by decide); rw [one_divQ, e] at this; exact this
  have Z0 := L1 0 (simA 0) (by decide) (by decide) (by rw [simA_eq.1]; rfl)
  have Z1 := L1 2 (simA 1) (by decide) (by decide) (by rw [simA_eq.2.1]; rfl)
  have Z2 := L1 1 (simA 2) (by decide) (by decide) (by rw [simA_eq.2.2.1]; rfl)
  have Z3 := L1 1 (simA 3) (by decide) (by decide) (by rw [simA_eq.2.2.2]; rfl)
  have Z5 := L1 1 1 (by decide) (by decide) rfl
  have Z4 := fun w' => lof21 8281 1000 w' (by decide) (by decide) (by decide) (by decide) (by decide)
  have OQ := @odds_alive
  generalize ((8281 : Int) : Rat) / ((1000 : Int) : Rat) = q at *
  clear L1
  have RU := @lrule
  generalize ((1 : Int) : Rat) / ((10 : Int) : Rat) = tn at *
  generalize simA = T at *
  go_enter Tryz.func17, Tryz.ntmps17
  go_wp2_with fail
  refine (PO _).mono ?_
  rintro e w1 ⟨vsa, rfl, hvsa, hb1⟩
  have st : Steps _ w1 := hb1
  have B : Below w.heap.size w w1 := belowA st
  clear st
  obtain ⟨saka1, saka2, saka3, saka4, saka5, saka6, saka7, saka8, sakb1, sakb2, sakb3, sakb4, sakb5, sakb6, sakb7, sakb8, sakc1, sakc2, sakc3, sakc4, sakc5, sakc6, sakc7, sakc8, sakd1, sakd2, sakd3, sakd4, sakd5, sakd6, sakd7, sakd8, rfl⟩ := SimO.shape hvsa
  have Fsa := Hid.mk_ hvsa
  clear hvsa
  have zz1 := B.size
  go_wp2_with fail
  refine (Z5 _).mono ?_
  rintro e w2 ⟨vo_, rfl, hvo_, hb2⟩
  have st : Steps _ w2 := hb2
  have sk : Below w1.heap.size w1 w2 := belowA st
  replace B := below_steps B (Nat.le_refl _) sk
  have ovs : Blk w2 (w1.heap.size) 30 #[.bool saka1, .slice saka2 saka3 saka4, .bool saka5, .slice saka6 saka7 saka8, .bool sakb1, .slice sakb2 sakb3 sakb4, .bool sakb5, .slice sakb6 sakb7 sakb8, .bool sakc1, .slice sakc2 sakc3 sakc4, .bool sakc5, .slice sakc6 sakc7 sakc8, .bool sakd1, .slice sakd2 sakd3 sakd4, .bool sakd5, .slice sakd6 sakd7 sakd8] := Blk.stepsK st
  replace Fsa := Hid.mk_ (Fsa.out.steps sk)
  clear st sk
  obtain ⟨o_1, o_2, o_3, o_4, o_5, o_6, o_7, o_8, rfl⟩ := hvo_.shape
  have Fo_ := Hid.mk_ hvo_
  clear hvo_
  go_wp2_with fail
  refine (RU _).mono ?_
  rintro e w3 ⟨ra1, ra2, ra3, ra4, ra5, ra6, ra7, ra8, rb1, rb2, rb3, rb4, rb5, rb6, rb7, rb8, rfl, hvra, hvrb, hb3⟩
  have st : Steps _ w3 := hb3
  have sk : Below w2.heap.size w2 w3 := belowA st
  replace B := below_steps B (Nat.le_refl _) sk
  replace ovs := ovs.steps sk
  replace Fsa := Hid.mk_ (Fsa.out.steps sk)
  replace Fo_ := Hid.mk_ (Fo_.out.steps sk)
  clear st sk
  have Fra := Hid.mk_ hvra
  clear hvra
  have Frb := Hid.mk_ hvrb
  clear hvrb
  have zvs_3 : w1.heap.size < w3.heap.size := ovs.lt
  have zz3 := B.size
  go_wp2_with fail
  refine (OQ _ (Fra.out.keeps keepsB) (Frb.out.keeps keepsB) (Fo_.out.keeps keepsB) ownK).mono ?_
  rintro e w4 ⟨vx_, rfl, hvx_, hb4⟩
  have st : Steps _ w4 := hb4
  have sk : Below w3.heap.size w3 w4 := belowA st
  replace B := below_steps B (Nat.le_refl _) sk
  replace ovs := ovs.steps sk
  replace Fsa := Hid.mk_ (Fsa.out.steps sk)
  replace Fo_ := Hid.mk_ (Fo_.out.steps sk)
  replace Fra := Hid.mk_ (Fra.out.steps sk)
  replace Frb := Hid.mk_ (Frb.out.steps sk)
  clear st sk
  have cvs0 := ovs.q0
  have cvs1 := ovs.q1
  have cvs2 := ovs.q2
  have cvs3 := ovs.q3
  have cvs4 := ovs.q4
  have cvs5 := ovs.q5
  have cvs6 := ovs.q6
  have cvs7 := ovs.q7
  have cvs8 := ovs.q8
  have cvs9 := ovs.q9
  have cvs10 := ovs.q10
  have cvs11 := ovs.q11
  have cvs12 := ovs.q12
  have cvs13 := ovs.q13
  have cvs14 := ovs.q14
  have cvs15 := ovs.q15
  have lvs := ovs.lt
  obtain ⟨x_1, x_2, x_3, x_4, x_5, x_6, x_7, x_8, rfl⟩ := hvx_.shape
  have Fx_ := Hid.mk_ hvx_
  clear hvx_
  have zvs_4 : w1.heap.size < w4.heap.size := ovs.lt
  have zz4 := B.size
  go_wp2_with fail
  go_upto_region 3 with fail
  refine Reg.wp_chain_n (fun N0 D v W => Below w.heap.size w W ∧ Keeps w4 W ∧ N0 ≤ W.heap.size ∧ Blk W (w1.heap.size) 30 #[.bool saka1, .slice saka2 saka3 saka4, .bool saka5, .slice saka6 saka7 saka8, .bool sakb1, .slice sakb2 sakb3 sakb4, .bool sakb5, .slice sakb6 sakb7 sakb8, .bool sakc1, .slice sakc2 sakc3 sakc4, .bool sakc5, .slice sakc6 sakc7 sakc8, .bool sakd1, .slice sakd2 sakd3 sakd4, .bool sakd5, .slice sakd6 sakd7 sakd8] ∧ Blk W (w4.heap.size) 28 #[.bool x_1, .slice x_2 x_3 x_4, .bool x_5, .slice x_6 x_7 x_8])
    (Reg.inl [4, 5, 6, 7, 9, 17, 18]) (Reg.gv [(4, IsFr), (5, IsFr), (6, IsFr), (7, IsFr), (9, fun z_ => z_ = .bool true), (17, IsFr), (18, fun z_ => z_ = .bool true)]) (gw [(4, GFr ((T 0))), (5, GFr ((T 1))), (6, GFr ((T 2))), (7, GFr ((T 3))), (17, GFr (q))]) (fun _ => Keeps) (fun _ _ => False) (Reg.pl [(9, [(4, some 24), (5, some 25), (6, some 26), (7, some 27)]), (18, [(17, some 37)]), (21, [(4, some 24), (5, some 25), (6, some 26), (7, some 27), (9, some 29), (17, some 37), (18, some 38)])]) (Reg.pl [])
    (by kernel_rfl) (by kernel_rfl) (by kernel_rfl) (Reg.gv_some _ (by intro p hp; simp only [List.mem_cons, List.not_mem_nil, or_false] at hp; rcases hp with rfl | rfl | rfl | rfl | rfl | rfl | rfl <;> first | exact ⟨_, rfl⟩ | exact ⟨_, 0, rfl⟩ | exact ⟨_, none, 0, 0, rfl⟩ | exact ⟨_, false, none, 0, 0, rfl⟩ | exact ⟨_, false, none, 0, 0, false, none, 0, 0, rfl⟩)) (fun N0 hN0 => ⟨fun v => ?_, fun D v v' W hv hj => ?_, fun D v k j W W' x _ _ _ _ hk hg => gw_keeps _ (by intro p hp; simp only [List.mem_cons, List.not_mem_nil, or_false] at hp; rcases hp with rfl | rfl | rfl | rfl | rfl <;> first | exact GFr.keeps | exact GFrE.keeps | exact GNu.keeps | exact GNuE.keeps | exact GLi.keeps) hk hg, fun _ _ _ _ h => h.elim, fun ops' Q' hops hQ => ?_⟩)
  · exact ⟨belowB, keepsB, by first | with_reducible exact Nat.le_of_eq hN0.out | (simp only [World.size_drew]; with_reducible exact Nat.le_of_eq hN0.out), ownK, ownK⟩
  · obtain ⟨j0, jk, jn, b_vs, b_vx⟩ := hj
    exact ⟨j0, jk, jn, b_vs, b_vx⟩
  have i_vs : w1.heap.size < N0 := by have e := hN0.out; (try simp only [World.size_alloc, World.size_setCell, World.size_drew, World.heap_drewN] at e); first | omega | (have h := ovs.lt; omega)
  have i_vx : w4.heap.size < N0 := by have e := hN0.out; (try simp only [World.size_alloc, World.size_setCell, World.size_drew, World.heap_drewN] at e); first | omega | (have h := ovx.lt; omega)
  have iw : w.heap.size ≤ N0 := by have e := hN0.out; (try simp only [World.size_alloc, World.size_setCell, World.size_drew, World.heap_drewN] at e); first | omega | (have h := B.size; omega)
  clear cvs0 cvs1 cvs2 cvs3 cvs4 cvs5 cvs6 cvs7 cvs8 cvs9 cvs10 cvs11 cvs12 cvs13 cvs14 cvs15 lvs
  clear hN0
  apply Reg.RC_pure (hc := rfl) (hst := rfl) (hw := rfl) (t := 20) (hd := rfl) (ht := Nat.le_of_ble_eq_true rfl)
  · intro D v' W' hc hj hf K hK
    go_step
    exact hK.out
  · rfl
  apply Reg.RC_pure (hc := rfl) (hst := rfl) (hw := rfl) (t := 21) (hd := rfl) (ht := Nat.le_of_ble_eq_true rfl)
  · intro D v' W' hc hj hf K hK
    go_step
    exact hK.out
  · rfl
  apply Reg.RC_pure (hc := rfl) (hst := rfl) (hw := rfl) (t := 22) (hd := rfl) (ht := Nat.le_of_ble_eq_true rfl)
  · intro D v' W' hc hj hf K hK
    go_step
    exact hK.out
  · rfl
  apply Reg.RC_pure (hc := rfl) (hst := rfl) (hw := by rw [hops]; rfl) (t := 23) (hd := rfl) (ht := Nat.le_of_ble_eq_true rfl)
  · intro D v' W' hc hj hf K hK
    obtain ⟨j0, jk, jn, b_vs, b_vx⟩ := hj
    have c0 : W'.cell? ⟨w1.heap.size, 0, none⟩ = some (.bool saka1) := b_vs.c 0 rfl
    have c1 : W'.cell? ⟨w1.heap.size, 1, none⟩ = some (.slice saka2 saka3 saka4) := b_vs.c 1 rfl
    have c2 : W'.cell? ⟨w1.heap.size, 2, none⟩ = some (.bool saka5) := b_vs.c 2 rfl
    have c3 : W'.cell? ⟨w1.heap.size, 3, none⟩ = some (.slice saka6 saka7 saka8) := b_vs.c 3 rfl
    have c4 : W'.cell? ⟨w1.heap.size, 4, none⟩ = some (.bool sakb1) := b_vs.c 4 rfl
    have c5 : W'.cell? ⟨w1.heap.size, 5, none⟩ = some (.slice sakb2 sakb3 sakb4) := b_vs.c 5 rfl
    have c6 : W'.cell? ⟨w1.heap.size, 6, none⟩ = some (.bool sakb5) := b_vs.c 6 rfl
    have c7 : W'.cell? ⟨w1.heap.size, 7, none⟩ = some (.slice sakb6 sakb7 sakb8) := b_vs.c 7 rfl
    have c8 : W'.cell? ⟨w1.heap.size, 8, none⟩ = some (.bool sakc1) := b_vs.c 8 rfl
    have c9 : W'.cell? ⟨w1.heap.size, 9, none⟩ = some (.slice sakc2 sakc3 sakc4) := b_vs.c 9 rfl
    have c10 : W'.cell? ⟨w1.heap.size, 10, none⟩ = some (.bool sakc5) := b_vs.c 10 rfl
    have c11 : W'.cell? ⟨w1.heap.size, 11, none⟩ = some (.slice sakc6 sakc7 sakc8) := b_vs.c 11 rfl
    have c12 : W'.cell? ⟨w1.heap.size, 12, none⟩ = some (.bool sakd1) := b_vs.c 12 rfl
    have c13 : W'.cell? ⟨w1.heap.size, 13, none⟩ = some (.slice sakd2 sakd3 sakd4) := b_vs.c 13 rfl
    have c14 : W'.cell? ⟨w1.heap.size, 14, none⟩ = some (.bool sakd5) := b_vs.c 14 rfl
    have c15 : W'.cell? ⟨w1.heap.size, 15, none⟩ = some (.slice sakd6 sakd7 sakd8) := b_vs.c 15 rfl
    go_step
    exact hK.out
  · rfl
  refine Reg.RC_call rfl (by intro t ht; cases ht; exact Nat.le_of_ble_eq_true rfl) (by rw [hops]; rfl) (fun D v' W' hc hj hf K hK => ?_) ?_
  · obtain ⟨j0, jk, jn, b_vs, b_vx⟩ := hj
    clear hf
    go_step
    refine (Z0 W').mono ?_
    rintro e W2 ⟨u, rfl, hu, hs⟩
    obtain ⟨za_1, za_2, za_3, za_4, za_5, za_6, za_7, za_8, rfl⟩ := hu.shape
    exact hK.out _ W2 (Keeps.steps hs) ⟨below_steps j0 (Nat.le_refl _) hs, jk.then_ hs, Nat.le_trans jn hs.size, b_vs.steps hs, b_vx.steps hs⟩ hu ⟨_, _, _, _, _, _, _, _, rfl⟩
  rintro _ ⟨za_1, za_2, za_3, za_4, za_5, za_6, za_7, za_8, rfl⟩
  refine Reg.RC_at (b := ⟨#[_,_,_,_,_,_,_,_,_,_,_,_,_,_,_,_,_,_,_,_,_,_,_,_,_,_,_,_,_,_,_,_,_,_,_,_,_,_,_,_], _⟩) rfl ?_
  refine Reg.RC_call rfl (by intro t ht; cases ht; exact Nat.le_of_ble_eq_true rfl) (by rw [hops]; rfl) (fun D v' W' hc hj hf K hK => ?_) ?_
  · obtain ⟨j0, jk, jn, b_vs, b_vx⟩ := hj
    clear hf
    go_step
    refine (Z1 W').mono ?_
    rintro e W2 ⟨u, rfl, hu, hs⟩
    obtain ⟨zb_1, zb_2, zb_3, zb_4, zb_5, zb_6, zb_7, zb_8, rfl⟩ := hu.shape
    exact hK.out _ W2 (Keeps.steps hs) ⟨below_steps j0 (Nat.le_refl _) hs, jk.then_ hs, Nat.le_trans jn hs.size, b_vs.steps hs, b_vx.steps hs⟩ hu ⟨_, _, _, _, _, _, _, _, rfl⟩
  rintro _ ⟨zb_1, zb_2, zb_3, zb_4, zb_5, zb_6, zb_7, zb_8, rfl⟩
  refine Reg.RC_at (b := ⟨#[_,_,_,_,_,_,_,_,_,_,_,_,_,_,_,_,_,_,_,_,_,_,_,_,_,_,_,_,_,_,_,_,_,_,_,_,_,_,_,_], _⟩) rfl ?_
  refine Reg.RC_call rfl (by intro t ht; cases ht; exact Nat.le_of_ble_eq_true rfl) (by rw [hops]; rfl) (fun D v' W' hc hj hf K hK => ?_) ?_
  · obtain ⟨j0, jk, jn, b_vs, b_vx⟩ := hj
    clear hf
    go_step
    refine (Z2 W').mono ?_
    rintro e W2 ⟨u, rfl, hu, hs⟩
    obtain ⟨zc_1, zc_2, zc_3, zc_4, zc_5, zc_6, zc_7, zc_8, rfl⟩ := hu.shape
    exact hK.out _ W2 (Keeps.steps hs) ⟨below_steps j0 (Nat.le_refl _) hs, jk.then_ hs, Nat.le_trans jn hs.size, b_vs.steps hs, b_vx.steps hs⟩ hu ⟨_, _, _, _, _, _, _, _, rfl⟩
  rintro _ ⟨zc_1, zc_2, zc_3, zc_4, zc_5, zc_6, zc_7, zc_8, rfl⟩
  refine Reg.RC_at (b := ⟨#[_,_,_,_,_,_,_,_,_,_,_,_,_,_,_,_,_,_,_,_,_,_,_,_,_,_,_,_,_,_,_,_,_,_,_,_,_,_,_,_], _⟩) rfl ?_
  refine Reg.RC_call rfl (by intro t ht; cases ht; exact Nat.le_of_ble_eq_true rfl) (by rw [hops]; rfl) (fun D v' W' hc hj hf K hK => ?_) ?_
  · obtain ⟨j0, jk, jn, b_vs, b_vx⟩ := hj
    clear hf
    go_step
    refine (Z3 W').mono ?_
    rintro e W2 ⟨u, rfl, hu, hs⟩
    obtain ⟨zd_1, zd_2, zd_3, zd_4, zd_5, zd_6, zd_7, zd_8, rfl⟩ := hu.shape
    exact hK.out _ W2 (Keeps.steps hs) ⟨below_steps j0 (Nat.le_refl _) hs, jk.then_ hs, Nat.le_trans jn hs.size, b_vs.steps hs, b_vx.steps hs⟩ hu ⟨_, _, _, _, _, _, _, _, rfl⟩
  rintro _ ⟨zd_1, zd_2, zd_3, zd_4, zd_5, zd_6, zd_7, zd_8, rfl⟩
  refine Reg.RC_at (b := ⟨#[_,_,_,_,_,_,_,_,_,_,_,_,_,_,_,_,_,_,_,_,_,_,_,_,_,_,_,_,_,_,_,_,_,_,_,_,_,_,_,_], _⟩) rfl ?_
  apply Reg.RC_pure (hc := rfl) (hst := rfl) (hw := by rw [hops]; rfl) (t := 28) (hd := rfl) (ht := Nat.le_of_ble_eq_true rfl)
  · intro D v' W' hc hj hf K hK
    go_step
    exact hK.out
  · rfl
  refine Reg.RC_call rfl (by intro t ht; cases ht; exact Nat.le_of_ble_eq_true rfl) (by rw [hops]; rfl) (fun D v' W' hc hj hf K hK => ?_) ?_
  · obtain ⟨j0, jk, jn, b_vs, b_vx⟩ := hj
    have g4 : GFr ((T 0)) _ W' := (hf (4, some 24) (.head _) rfl).2.2
    have g4 : FR W' _ ((T 0)) := g4
    have g5 : GFr ((T 1)) _ W' := (hf (5, some 25) (.tail _ (.head _)) rfl).2.2
    have g5 : FR W' _ ((T 1)) := g5
    have g6 : GFr ((T 2)) _ W' := (hf (6, some 26) (.tail _ (.tail _ (.head _))) rfl).2.2
    have g6 : FR W' _ ((T 2)) := g6
    have g7 : GFr ((T 3)) _ W' := (hf (7, some 27) (.tail _ (.tail _ (.tail _ (.head _)))) rfl).2.2
    have g7 : FR W' _ ((T 3)) := g7
    clear hf
    go_step
    refine (rsameSim W' (Fsa.out.keeps jk) (mkS g4 g5 g6 g7)).mono ?_
    rintro e W2 ⟨rfl, hs⟩
    exact hK.out _ W2 (Keeps.steps hs) ⟨below_steps j0 (Nat.le_refl _) hs, jk.then_ hs, Nat.le_trans jn hs.size, b_vs.steps hs, b_vx.steps hs⟩ trivial rfl
  rintro _ rfl
  refine Reg.RC_at (b := ⟨#[_,_,_,_,_,_,_,_,_,_,_,_,_,_,_,_,_,_,_,_,_,_,_,_,_,_,_,_,_,_,_,_,_,_,_,_,_,_,_,_], _⟩) rfl ?_
  apply Reg.RC_pure (hc := rfl) (hst := rfl) (hw := rfl) (t := 30) (hd := rfl) (ht := Nat.le_of_ble_eq_true rfl)
  · intro D v' W' hc hj hf K hK
    go_step
    exact hK.out
  · rfl
  apply Reg.RC_pure (hc := rfl) (hst := rfl) (hw := rfl) (t := 31) (hd := rfl) (ht := Nat.le_of_ble_eq_true rfl)
  · intro D v' W' hc hj hf K hK
    go_step
    exact hK.out
  · rfl
  apply Reg.RC_pure (hc := rfl) (hst := rfl) (hw := by rw [hops]; rfl) (t := 32) (hd := rfl) (ht := Nat.le_of_ble_eq_true rfl)
  · intro D v' W' hc hj hf K hK
    go_step
    exact hK.out
  · rfl
  apply Reg.RC_pure (hc := rfl) (hst := rfl) (hw := by rw [hops]; rfl) (t := 33) (hd := rfl) (ht := Nat.le_of_ble_eq_true rfl)
  · intro D v' W' hc hj hf K hK
    go_step
    exact hK.out
  · rfl
  apply Reg.RC_pure (hc := rfl) (hst := rfl) (hw := rfl) (t := 34) (hd := rfl) (ht := Nat.le_of_ble_eq_true rfl)
  · intro D v' W' hc hj hf K hK
    go_step
    exact hK.out
  · rfl
  apply Reg.RC_pure (hc := rfl) (hst := rfl) (hw := rfl) (t := 35) (hd := rfl) (ht := Nat.le_of_ble_eq_true rfl)
  · intro D v' W' hc hj hf K hK
    go_step
    exact hK.out
  · rfl
  apply Reg.RC_pure (hc := rfl) (hst := rfl) (hw := by rw [hops]; rfl) (t := 36) (hd := rfl) (ht := Nat.le_of_ble_eq_true rfl)
  · intro D v' W' hc hj hf K hK
    obtain ⟨j0, jk, jn, b_vs, b_vx⟩ := hj
    have c0 : W'.cell? ⟨w4.heap.size, 0, none⟩ = some (.bool x_1) := b_vx.c 0 rfl
    have c1 : W'.cell? ⟨w4.heap.size, 1, none⟩ = some (.slice x_2 x_3 x_4) := b_vx.c 1 rfl
    have c2 : W'.cell? ⟨w4.heap.size, 2, none⟩ = some (.bool x_5) := b_vx.c 2 rfl
    have c3 : W'.cell? ⟨w4.heap.size, 3, none⟩ = some (.slice x_6 x_7 x_8) := b_vx.c 3 rfl
    go_step
    exact hK.out
  · rfl
  refine Reg.RC_call rfl (by intro t ht; cases ht; exact Nat.le_of_ble_eq_true rfl) (by rw [hops]; rfl) (fun D v' W' hc hj hf K hK => ?_) ?_
  · obtain ⟨j0, jk, jn, b_vs, b_vx⟩ := hj
    clear hf
    go_step
    refine (Z4 W').mono ?_
    rintro e W2 ⟨u, rfl, hu, hs⟩
    obtain ⟨ze_1, ze_2, ze_3, ze_4, ze_5, ze_6, ze_7, ze_8, rfl⟩ := hu.shape
    exact hK.out _ W2 (Keeps.steps hs) ⟨below_steps j0 (Nat.le_refl _) hs, jk.then_ hs, Nat.le_trans jn hs.size, b_vs.steps hs, b_vx.steps hs⟩ hu ⟨_, _, _, _, _, _, _, _, rfl⟩
  rintro _ ⟨ze_1, ze_2, ze_3, ze_4, ze_5, ze_6, ze_7, ze_8, rfl⟩
  refine Reg.RC_at (b := ⟨#[_,_,_,_,_,_,_,_,_,_,_,_,_,_,_,_,_,_,_,_,_,_,_,_,_,_,_,_,_,_,_,_,_,_,_,_,_,_,_,_], _⟩) rfl ?_
  refine Reg.RC_call rfl (by intro t ht; cases ht; exact Nat.le_of_ble_eq_true rfl) (by rw [hops]; rfl) (fun D v' W' hc hj hf K hK => ?_) ?_
  · obtain ⟨j0, jk, jn, b_vs, b_vx⟩ := hj
    have g17 : GFr (q) _ W' := (hf (17, some 37) (.head _) rfl).2.2
    have g17 : FR W' _ (q) := g17
    clear hf
    go_step
    refine (rsameFO (o := some q) W' (Fx_.out.keeps jk) g17).mono ?_
    rintro e W2 ⟨rfl, hs⟩
    exact hK.out _ W2 (Keeps.steps hs) ⟨below_steps j0 (Nat.le_refl _) hs, jk.then_ hs, Nat.le_trans jn hs.size, b_vs.steps hs, b_vx.steps hs⟩ trivial rfl
  rintro _ rfl
  refine Reg.RC_at (b := ⟨#[_,_,_,_,_,_,_,_,_,_,_,_,_,_,_,_,_,_,_,_,_,_,_,_,_,_,_,_,_,_,_,_,_,_,_,_,_,_,_,_], _⟩) rfl ?_
  apply Reg.RC_pure (hc := rfl) (hst := rfl) (hw := rfl) (t := 39) (hd := rfl) (ht := Nat.le_of_ble_eq_true rfl)
  · intro D v' W' hc hj hf K hK
    go_step
    exact hK.out
  · rfl
  apply Reg.RC_pure (hc := rfl) (hst := rfl) (hw := rfl) (t := 0) (hd := rfl) (ht := Nat.le_of_ble_eq_true rfl)
  · intro D v' W' hc hj hf K hK
    go_step
    exact hK.out
  · rfl
  refine Reg.RC_end (fun Dn v' w5 hd hj hf => ?_)
  obtain ⟨j0, jk, jn, b_vs, b_vx⟩ := hj
  have B := j0
  have ovs := b_vs
  clear b_vs
  have ovx := b_vx
  clear b_vx
  have Fza_ : Hid (FR w5 (.agg #[.bool za_1, .slice za_2 za_3 za_4, .bool za_5, .slice za_6 za_7 za_8]) ((T 0))) := (hf (4, some 24) (.head _) rfl).2.2
  have Fzb_ : Hid (FR w5 (.agg #[.bool zb_1, .slice zb_2 zb_3 zb_4, .bool zb_5, .slice zb_6 zb_7 zb_8]) ((T 1))) := (hf (5, some 25) (.tail _ (.head _)) rfl).2.2
  have Fzc_ : Hid (FR w5 (.agg #[.bool zc_1, .slice zc_2 zc_3 zc_4, .bool zc_5, .slice zc_6 zc_7 zc_8]) ((T 2))) := (hf (6, some 26) (.tail _ (.tail _ (.head _))) rfl).2.2
  have Fzd_ : Hid (FR w5 (.agg #[.bool zd_1, .slice zd_2 zd_3 zd_4, .bool zd_5, .slice zd_6 zd_7 zd_8]) ((T 3))) := (hf (7, some 27) (.tail _ (.tail _ (.tail _ (.head _)))) rfl).2.2
  have Fze_ : Hid (FR w5 (.agg #[.bool ze_1, .slice ze_2 ze_3 ze_4, .bool ze_5, .slice ze_6 ze_7 ze_8]) (q)) := (hf (17, some 37) (.tail _ (.tail _ (.tail _ (.tail _ (.tail _ (.head _)))))) rfl).2.2
  replace Fsa := Hid.mk_ (Fsa.out.keeps jk)
  replace Fo_ := Hid.mk_ (Fo_.out.keeps jk)
  replace Fra := Hid.mk_ (Fra.out.keeps jk)
  replace Frb := Hid.mk_ (Frb.out.keeps jk)
  replace Fx_ := Hid.mk_ (Fx_.out.keeps jk)
  clear hd hf jk j0
  refine hQ _ _ ?_
  clear hQ hops Q' ops'
  go_wp2_with fail
  refine bodyPost_ret (by simp [results, Tryz.results17, go_sem, ]; rfl) rfl ?_
  exact ⟨rfl, belowB⟩
end Go.Proofs.YtffmbepfbienaaaGreat
namespace Go.Proofs.YtffmbepfbienaaaGreat
open Go.RowKit
theorem cur_get {cur : Array Value} {l : List Int} {n : Nat} (hn : l.length = n) (ht : cur.toList.take n = ints l) {k : Nat} (hk : k < n) : cur[k]? = some (.int .i64 (l.getD k 0)) := by
  subst hn
  have h1 : (cur.toList.take l.length)[k]? = (ints l)[k]? := by rw [ht]
  rw [List.getElem?_take, if_pos hk] at h1
  rw [← Array.getElem?_toList, h1]
  unfold ints
  rw [List.getElem?_map, List.getD_eq_getElem?_getD, List.getElem?_eq_getElem hk]
  rfl
theorem ints_of_cur {w : World} {b cap n : Nat} {t : TypeId} {cur : Array Value} {l : List Int} (hb : Blk w b t cur) (hn : l.length = n) (hc : n ≤ cap) (ht : cur.toList.take n = ints l) : IntsR w (.slice (some ⟨b, 0, none⟩) n cap) l := by
  subst hn
  refine ⟨_, cap, rfl, hc, fun _ => ⟨b, 0, rfl, hb.lt, fun k hk => ?_⟩⟩
  rw [Nat.zero_add, hb.cell k, cur_get rfl ht hk]
theorem cur_set {cur : Array Value} {l : List Int} {n : Nat} (ht : cur.toList.take n = ints l) (k : Nat) (x : Int) : (cur.setIfInBounds k (.int .i64 x)).toList.take n = ints (l.set k x) := by
  rw [Array.toList_setIfInBounds, List.take_set, ht]
  unfold ints
  rw [List.map_set]
theorem app_copyI {ops : Array Oper} {rest : List Oper} {o : Oper} {a : Act} {w : World} {Q : Exit → Act → World → Prop} (hgd : o.guard = none) (s x : Operand) (ho : o.op = .call { callee := .builtin .append, args := #[s, x], argTypes := #[46, 46] })
    (g : Nat) (hs : a.eval s = .slice (some ⟨g, 0, none⟩) 0 0) (hb : Blk w g 3 #[]) (v : Value) (l : List Int) (hx : a.eval x = v) {n : Nat} (hn : l.length = n) (hv : IntsR w v l) (h0 : 0 < n) (hl : n ≤ 100000)
    (h : ∀ b cap cur w', g ≤ b → Blk w' b 3 cur → n ≤ cap → cur.toList.take n = ints l → w.grownBy w' (some g) → wpList Tryz.prog ops Q rest (a.put o.dst (.slice (some ⟨b, 0, none⟩) n cap)) w') : wpList Tryz.prog ops Q (o :: rest) a w := by
  subst hn
  obtain ⟨ie, z, h1, h2, h3, h4, h5⟩ := infoI
  refine wpList_plain hgd fun K hK => ?_
  obtain ⟨ao, cap, rfl⟩ := hv.shape
  obtain ⟨b, of, rfl, hbl, -⟩ := hv.at' h0
  have hlen : (ints l).length = l.length := by unfold ints; rw [List.length_map]
  refine wp_append_own_wide w s x 46 ho g 3 ie z 1 8 Tryz.underlying46 h1 h4 h2 h3 (by rw [h5]; rfl) (by omega) (.slice (some ⟨g, 0, none⟩) 0 0) 0 [] hs ⟨rfl, .inr ⟨g, 0, #[], rfl, Nat.le_refl _, hb, Nat.le_refl _, by unfold maxLen; omega, rfl, rfl⟩⟩ ⟨b, of, none⟩ l.length cap (ints l) hx (by rw [hlen]; omega) (fun j u hj => ?_) (fun u hu => ?_) (by unfold maxLen; omega) (by omega) (Nat.le_of_lt hb.lt) (fun v' w' hr hg _ => ?_)
  · have hjl : j < l.length := by
      rcases Nat.lt_or_ge j (ints l).length with g | g
      · rwa [hlen] at g
      · rw [List.getElem?_eq_none g] at hj; cases hj
    rw [show (⟨b, of, none⟩ : Addr).add j = ⟨b, of + j, none⟩ from Addr.add_lit ..]
    obtain ⟨b', of', e, -, hc⟩ := hv.at' hjl
    cases e
    rw [hc]
    unfold ints at hj
    rw [List.getElem?_map, List.getElem?_eq_getElem hjl] at hj
    rw [← hj, List.getD_eq_getElem?_getD, List.getElem?_eq_getElem hjl]
    rfl
  · unfold ints at hu
    obtain ⟨p, -, rfl⟩ := List.mem_map.1 hu
    rfl
  · rw [Nat.zero_add, List.nil_append] at hr
    rcases hr.2 with ⟨_, e⟩ | ⟨b', cap', cur, rfl, hb1, hb2, hb3, -, -, hb5⟩
    · omega
    · rw [Nat.mul_one] at hb5
      exact hK _ _ (h b' cap' cur w' hb1 hb2 hb3 hb5 hg)
theorem okK_iff {l : List Int} {n : Int} : ∀ m, okK l n m = true ↔ ∀ t, t < m → -1 ≤ l.getD t 0 ∧ l.getD t 0 < n
  | 0 => ⟨fun _ t ht => absurd ht (Nat.not_lt_zero t), fun _ => rfl⟩
  | m + 1 => by
    unfold okK
    rw [Bool.and_eq_true, okK_iff m, decide_eq_true_iff]
    constructor
    · rintro ⟨h1, h2⟩ t ht
      rcases Nat.lt_or_ge t m with g | g
      · exact h1 t g
      · obtain rfl : t = m := by omega
        exact h2
    · exact fun h => ⟨fun t ht => h t (by omega), h m (by omega)⟩
theorem okK_take {l : List Int} {n : Int} (h : okK l n l.length = true) (k : Nat) : okK (l.take k) n (l.take k).length = true := by
  rw [okK_iff] at h ⊢
  intro t ht
  rw [List.length_take] at ht
  rw [List.getD_eq_getElem?_getD, List.getElem?_take, if_pos (by omega), ← List.getD_eq_getElem?_getD]
  exact h t (by omega)
theorem okK_drop {l : List Int} {n : Int} (h : okK l n l.length = true) (k : Nat) : okK (l.drop k) n (l.drop k).length = true := by
  rw [okK_iff] at h ⊢
  intro t ht
  rw [List.length_drop] at ht
  rw [List.getD_eq_getElem?_getD, List.getElem?_drop, ← List.getD_eq_getElem?_getD]
  exact h (k + t) (by omega)
theorem okK_set {l : List Int} {n : Int} (h : okK l n l.length = true) (k : Nat) (x : Int) (hx : -1 ≤ x ∧ x < n) : okK (l.set k x) n (l.set k x).length = true := by
  rw [okK_iff] at h ⊢
  intro t ht
  rw [List.length_set] at ht
  rw [List.getD_eq_getElem?_getD, List.getElem?_set]
  split
  · rw [if_pos (by omega)]; exact hx
  · rw [← List.getD_eq_getElem?_getD]; exact h t ht
theorem intsR_take {w : World} {b o cap : Nat} {l : List Int} (h : IntsR w (.slice (some ⟨b, o, none⟩) l.length cap) l) {k : Nat} (hk : k ≤ l.length) : IntsR w (.slice (some ⟨b, o, none⟩) k cap) (l.take k) := by
  obtain ⟨ao, c, e, hc, hm⟩ := h
  injection e with e1 e2 e3
  subst e1 e3
  refine ⟨_, cap, by rw [List.length_take, Nat.min_eq_left hk], by rw [List.length_take]; omega, fun hn => ?_⟩
  obtain ⟨b', o', e, hb, hx⟩ := hm (fun e => hn (by rw [e, List.take_nil]))
  cases e
  refine ⟨b, o, rfl, hb, fun t ht => ?_⟩
  rw [List.length_take] at ht
  rw [hx t (by omega), List.getD_eq_getElem?_getD, List.getD_eq_getElem?_getD, List.getElem?_take, if_pos (by omega)]
theorem intsR_drop {w : World} {b o cap : Nat} {l : List Int} (h : IntsR w (.slice (some ⟨b, o, none⟩) l.length cap) l) {k : Nat} (hk : k ≤ l.length) : IntsR w (.slice (some ⟨b, o + k, none⟩) (l.length - k) (cap - k)) (l.drop k) := by
  obtain ⟨ao, c, e, hc, hm⟩ := h
  injection e with e1 e2 e3
  subst e1 e3
  refine ⟨_, cap - k, by rw [List.length_drop], by rw [List.length_drop]; omega, fun hn => ?_⟩
  obtain ⟨b', o', e, hb, hx⟩ := hm (fun e => hn (by rw [e, List.drop_nil]))
  cases e
  refine ⟨b, o + k, rfl, hb, fun t ht => ?_⟩
  rw [List.length_drop] at ht
  rw [Nat.add_assoc, hx (k + t) (by omega), List.getD_eq_getElem?_getD, List.getD_eq_getElem?_getD, List.getElem?_drop]
end Go.Proofs.YtffmbepfbienaaaGreat
