import Derived.Test.YtffmbepfbienaaaGreatCMt
namespace Go.Proofs.YtffmbepfbienaaaGreat
open Go.RowKit
theorem withQ_pos {s h : Rat} (h0 : 0 < h) (s0 : 0 < s) (s1 : s < 1) : 0 < withQ s h := by have := withQ_gt h0 s1; grind
set_option maxHeartbeats 6400000 in
set_option maxRecDepth 1000000 in
theorem more_walk {ua1 ua5 ub1 ub5 uc1 uc5 : Bool} {ua2 ua6 ub2 ub6 uc2 uc6 : Option Addr} {ua3 ua4 ua7 ua8 ub3 ub4 ub7 ub8 uc3 uc4 uc7 uc8 : Nat} {R A n z : Int} {O : Nat → Option Rat} {vp : Value} {l : List Int} (w : World) (b0 : FB w (.agg #[.bool ua1, .slice ua2 ua3 ua4, .bool ua5, .slice ua6 ua7 ua8]) (O 0)) (b1 : FB w (.agg #[.bool ub1, .slice ub2 ub3 ub4, .bool ub5, .slice ub6 ub7 ub8]) (O 1)) (b2 : FB w (.agg #[.bool uc1, .slice uc2 uc3 uc4, .bool uc5, .slice uc6 uc7 uc8]) (O 2)) (fw : FewL O (f4v ua3 ub3 uc3 uc3) (f4v ua7 ub7 uc7 uc7) 3) (hl : IntsR w vp l) (rz : (-9223372036854775808 ≤ z ∧ z ≤ 9223372036854775807)) :
    Calls Tryz.prog 4 #[.agg #[.bool ua1, .slice ua2 ua3 ua4, .bool ua5, .slice ua6 ua7 ua8, .int .i64 R, .int .i64 A, .bool ub1, .slice ub2 ub3 ub4, .bool ub5, .slice ub6 ub7 ub8, .bool uc1, .slice uc2 uc3 uc4, .bool uc5, .slice uc6 uc7 uc8], vp, .int .i64 n, .int .i64 z] w fun e w' => e = .returned (.bool true) ∧ Steps w w' := by
  have CK : ∀ w', Keeps w w' → Calls Tryz.prog 18 #[.agg #[.bool ua1, .slice ua2 ua3 ua4, .bool ua5, .slice ua6 ua7 ua8, .int .i64 R, .int .i64 A, .bool ub1, .slice ub2 ub3 ub4, .bool ub5, .slice ub6 ub7 ub8, .bool uc1, .slice uc2 uc3 uc4, .bool uc5, .slice uc6 uc7 uc8]] w' fun e w2 => e = .returned (.int .i64 (apErr (ruleOk O (f4v ua3 ub3 uc3 uc3) (f4v ua7 ub7 uc7 uc7) R A ua1))) ∧ Steps w' w2 := fun w' k => prCheck w' (b0.keeps k) (b1.keeps k) (b2.keeps k) fw
  have RK : ruleOk O (f4v ua3 ub3 uc3 uc3) (f4v ua7 ub7 uc7 uc7) R A ua1 = true → (1 ≤ R ∧ R ≤ 65536 ∧ 1 ≤ A ∧ A ≤ 17592186044416) ∧ ∃ r, O 1 = some r ∧ (O 1).getD 0 = r ∧ sz r 2 ∧ 0 < r ∧ r < 1 := fun h => by
    obtain ⟨hL, hR, -, h0, h1, -⟩ := ruleOk_iff.1 h
    obtain ⟨r1, e1, z1⟩ := limL_sz hL fw 1 (by omega)
    have e2 : (O 1).getD 0 = r1 := by rw [e1]; rfl
    rw [e2] at h0 h1
    exact ⟨hR, r1, e1, e2, z1, h0, h1⟩
  have OD := fun (v : Value) (m : List Int) (w' : World) (s : Steps w w') (h : IntsR w' v m) => mOdds (R := R) (A := A) (n := n) w' (b0.keeps (Keeps.steps s)) (b1.keeps (Keeps.steps s)) (b2.keeps (Keeps.steps s)) fw h
  obtain ⟨ao, cap, rfl⟩ := hl.shape
  generalize hK : ruleOk O (f4v ua3 ub3 uc3 uc3) (f4v ua7 ub7 uc7 uc7) R A ua1 = K at *
  clear b0 b1 b2 fw hK
  obtain ⟨N, hN⟩ : ∃ m, l.length = m := ⟨_, rfl⟩
  cases K with
  | false =>
    rw [hN]
    have eA : apErr false = 8 := rfl
    rw [eA] at CK
    clear RK OD hl hN rz
    go_enter Tryz.func4, Tryz.ntmps4
    have kk := Keeps.refl w
    go_wp2_with fail
    refine (lalive21 _).mono ?_
    rintro e w1 ⟨rfl, hb1⟩
    have st : Steps _ w1 := hb1
    have B : Below w.heap.size w w1 := belowA st
    have kp : Keeps w w1 := Keeps.then_ keepsB st
    replace kk := kk.trans kp
    have nu : Blk w1 (w.heap.size) 45 #[.bool ua1, .slice ua2 ua3 ua4, .bool ua5, .slice ua6 ua7 ua8, .int .i64 R, .int .i64 A, .bool ub1, .slice ub2 ub3 ub4, .bool ub5, .slice ub6 ub7 ub8, .bool uc1, .slice uc2 uc3 uc4, .bool uc5, .slice uc6 uc7 uc8] := Blk.stepsK st
    have ou := nu
    clear nu
    clear kp
    clear st
    have cu0 := ou.q0
    have cu1 := ou.q1
    have cu2 := ou.q2
    have cu3 := ou.q3
    have cu4 := ou.q4
    have cu5 := ou.q5
    have cu6 := ou.q6
    have cu7 := ou.q7
    have cu8 := ou.q8
    have cu9 := ou.q9
    have cu10 := ou.q10
    have cu11 := ou.q11
    have cu12 := ou.q12
    have cu13 := ou.q13
    have lu := ou.lt
    go_wp2_with fail
    refine (CK _ (kk.trans keepsB)).mono ?_
    rintro e w2 ⟨rfl, hb2⟩
    have st : Steps _ w2 := hb2
    have sk : Below w1.heap.size w1 w2 := belowA st
    replace B := below_steps B (Nat.le_refl _) sk
    replace ou := ou.steps sk
    replace kk := kk.then_ sk
    clear st sk cu0 cu1 cu2 cu3 cu4 cu5 cu6 cu7 cu8 cu9 cu10 cu11 cu12 cu13 lu
    go_wp2_with fail
    refine bodyPost_ret (by simp [results, Tryz.results4, go_sem, ]; rfl) rfl ?_
    exact ⟨rfl, belowB⟩
  | true =>
    have eA : apErr true = 0 := rfl
    rw [eA] at CK
    obtain ⟨hR, s, e1, e2, z1, s0, s1⟩ := RK rfl
    clear RK
    rcases (show 20 < N ∨ (¬ 20 < N ∧ z < 0) ∨ (¬ 20 < N ∧ ¬ z < 0 ∧ (N : Int) ≤ z) ∨ (¬ 20 < N ∧ ¬ z < 0 ∧ ¬ (N : Int) ≤ z) by omega) with g1 | ⟨g1, g2⟩ | ⟨g1, g2, g3⟩ | ⟨g1, g2, g3⟩
    · rw [hN]
      clear OD hl hN rz hR e1 e2 z1 s0 s1
      have hlt : decide ((20 : Int) < (N : Int)) = true := decide_eq_true (by omega)
      go_enter Tryz.func4, Tryz.ntmps4
      have kk := Keeps.refl w
      go_wp2_with fail
      refine (lalive21 _).mono ?_
      rintro e w1 ⟨rfl, hb1⟩
      have st : Steps _ w1 := hb1
      have B : Below w.heap.size w w1 := belowA st
      have kp : Keeps w w1 := Keeps.then_ keepsB st
      replace kk := kk.trans kp
      have nu : Blk w1 (w.heap.size) 45 #[.bool ua1, .slice ua2 ua3 ua4, .bool ua5, .slice ua6 ua7 ua8, .int .i64 R, .int .i64 A, .bool ub1, .slice ub2 ub3 ub4, .bool ub5, .slice ub6 ub7 ub8, .bool uc1, .slice uc2 uc3 uc4, .bool uc5, .slice uc6 uc7 uc8] := Blk.stepsK st
      have ou := nu
      clear nu
      clear kp
      clear st
      have cu0 := ou.q0
      have cu1 := ou.q1
      have cu2 := ou.q2
      have cu3 := ou.q3
      have cu4 := ou.q4
      have cu5 := ou.q5
      have cu6 := ou.q6
      have cu7 := ou.q7
      have cu8 := ou.q8
      have cu9 := ou.q9
      have cu10 := ou.q10
      have cu11 := ou.q11
      have cu12 := ou.q12
      have cu13 := ou.q13
      have lu := ou.lt
      go_wp2_with fail
      refine (CK _ (kk.trans keepsB)).mono ?_
      rintro e w2 ⟨rfl, hb2⟩
      have st : Steps _ w2 := hb2
      have sk : Below w1.heap.size w1 w2 := belowA st
      replace B := below_steps B (Nat.le_refl _) sk
      replace ou := ou.steps sk
      replace kk := kk.then_ sk
      clear st sk cu0 cu1 cu2 cu3 cu4 cu5 cu6 cu7 cu8 cu9 cu10 cu11 cu12 cu13 lu
      go_wp2_with fail
      refine bodyPost_ret (by simp [results, Tryz.results4, go_sem, ]; rfl) rfl ?_
      exact ⟨rfl, belowB⟩
    · rw [hN]
      clear OD hl hN rz hR e1 e2 z1 s0 s1
      have hlt : decide ((20 : Int) < (N : Int)) = false := decide_eq_false (by omega)
      go_enter Tryz.func4, Tryz.ntmps4
      have kk := Keeps.refl w
      go_wp2_with fail
      refine (lalive21 _).mono ?_
      rintro e w1 ⟨rfl, hb1⟩
      have st : Steps _ w1 := hb1
      have B : Below w.heap.size w w1 := belowA st
      have kp : Keeps w w1 := Keeps.then_ keepsB st
      replace kk := kk.trans kp
      have nu : Blk w1 (w.heap.size) 45 #[.bool ua1, .slice ua2 ua3 ua4, .bool ua5, .slice ua6 ua7 ua8, .int .i64 R, .int .i64 A, .bool ub1, .slice ub2 ub3 ub4, .bool ub5, .slice ub6 ub7 ub8, .bool uc1, .slice uc2 uc3 uc4, .bool uc5, .slice uc6 uc7 uc8] := Blk.stepsK st
      have ou := nu
      clear nu
      clear kp
      clear st
      have cu0 := ou.q0
      have cu1 := ou.q1
      have cu2 := ou.q2
      have cu3 := ou.q3
      have cu4 := ou.q4
      have cu5 := ou.q5
      have cu6 := ou.q6
      have cu7 := ou.q7
      have cu8 := ou.q8
      have cu9 := ou.q9
      have cu10 := ou.q10
      have cu11 := ou.q11
      have cu12 := ou.q12
      have cu13 := ou.q13
      have lu := ou.lt
      go_wp2_with fail
      refine (CK _ (kk.trans keepsB)).mono ?_
      rintro e w2 ⟨rfl, hb2⟩
      have st : Steps _ w2 := hb2
      have sk : Below w1.heap.size w1 w2 := belowA st
      replace B := below_steps B (Nat.le_refl _) sk
      replace ou := ou.steps sk
      replace kk := kk.then_ sk
      clear st sk cu0 cu1 cu2 cu3 cu4 cu5 cu6 cu7 cu8 cu9 cu10 cu11 cu12 cu13 lu
      go_wp2_with fail
      refine bodyPost_ret (by simp [results, Tryz.results4, go_sem, ]; rfl) rfl ?_
      exact ⟨rfl, belowB⟩
    · rw [hN]
      clear OD hl hN rz hR e1 e2 z1 s0 s1
      have hlt : decide ((20 : Int) < (N : Int)) = false := decide_eq_false (by omega)
      have hge : decide ((N : Int) ≤ z) = true := decide_eq_true g3
      go_enter Tryz.func4, Tryz.ntmps4
      have kk := Keeps.refl w
      go_wp2_with fail
      refine (lalive21 _).mono ?_
      rintro e w1 ⟨rfl, hb1⟩
      have st : Steps _ w1 := hb1
      have B : Below w.heap.size w w1 := belowA st
      have kp : Keeps w w1 := Keeps.then_ keepsB st
      replace kk := kk.trans kp
      have nu : Blk w1 (w.heap.size) 45 #[.bool ua1, .slice ua2 ua3 ua4, .bool ua5, .slice ua6 ua7 ua8, .int .i64 R, .int .i64 A, .bool ub1, .slice ub2 ub3 ub4, .bool ub5, .slice ub6 ub7 ub8, .bool uc1, .slice uc2 uc3 uc4, .bool uc5, .slice uc6 uc7 uc8] := Blk.stepsK st
      have ou := nu
      clear nu
      clear kp
      clear st
      have cu0 := ou.q0
      have cu1 := ou.q1
      have cu2 := ou.q2
      have cu3 := ou.q3
      have cu4 := ou.q4
      have cu5 := ou.q5
      have cu6 := ou.q6
      have cu7 := ou.q7
      have cu8 := ou.q8
      have cu9 := ou.q9
      have cu10 := ou.q10
      have cu11 := ou.q11
      have cu12 := ou.q12
      have cu13 := ou.q13
      have lu := ou.lt
      go_wp2_with fail
      refine (CK _ (kk.trans keepsB)).mono ?_
      rintro e w2 ⟨rfl, hb2⟩
      have st : Steps _ w2 := hb2
      have sk : Below w1.heap.size w1 w2 := belowA st
      replace B := below_steps B (Nat.le_refl _) sk
      replace ou := ou.steps sk
      replace kk := kk.then_ sk
      clear st sk cu0 cu1 cu2 cu3 cu4 cu5 cu6 cu7 cu8 cu9 cu10 cu11 cu12 cu13 lu
      go_wp2_with fail
      refine bodyPost_ret (by simp [results, Tryz.results4, go_sem, ]; rfl) rfl ?_
      exact ⟨rfl, belowB⟩
    · obtain ⟨k, rfl⟩ : ∃ k : Nat, z = k := ⟨z.toNat, by omega⟩
      have hkN : k < N := by omega
      have hlt : decide ((20 : Int) < (N : Int)) = false := decide_eq_false (by omega)
      have hz0 : decide ((k : Int) < 0) = false := decide_eq_false (by omega)
      have hge : decide ((N : Int) ≤ (k : Int)) = false := decide_eq_false (by omega)
      obtain ⟨b, o, rfl, hbl, -⟩ := hl.at' (show k < l.length by omega)
      have hcap : N ≤ cap := by
        obtain ⟨_, _, e, hc, -⟩ := hl
        injection e with _ _ e3
        omega
      have EE : oddsE true l.length (okK l n l.length) n (decide (chanceQ R A n < 1)) = 2 ∨ (oddsE true l.length (okK l n l.length) n (decide (chanceQ R A n < 1)) = 0 ∧ 1 ≤ n ∧ n ≤ 200 ∧ okK l n l.length = true ∧ decide (chanceQ R A n < 1) = true) := by
        unfold oddsE
        rw [if_neg (by decide), if_neg (by omega)]
        split
        · exact .inl rfl
        · next h =>
          split
          · exact .inl rfl
          · next h' => exact .inr ⟨rfl, by omega, by omega, by simpa using fun e => h (.inr e), by simpa using h'⟩
      rcases EE with eE | ⟨eE, n1, n2, hk, hl1⟩
      · have O1 : ∀ w', Steps w w' → Calls Tryz.prog 19 #[.agg #[.bool ua1, .slice ua2 ua3 ua4, .bool ua5, .slice ua6 ua7 ua8, .int .i64 R, .int .i64 A, .bool ub1, .slice ub2 ub3 ub4, .bool ub5, .slice ub6 ub7 ub8, .bool uc1, .slice uc2 uc3 uc4, .bool uc5, .slice uc6 uc7 uc8], .slice (some ⟨b, o, none⟩) N cap, .int .i64 n] w' fun e w2 => ∃ v, e = .returned (.tuple #[v, .int .i64 2]) ∧ FO w2 v none ∧ Steps w' w2 := fun w' s => by
          have := OD _ l w' s (hl.steps s)
          rw [eE, hN] at this
          exact this
        rw [hN]
        clear OD hl hN rz hR e1 e2 z1 s0 s1 eE hbl
        go_enter Tryz.func4, Tryz.ntmps4
        have kk := Keeps.refl w
        go_wp2_with fail
        refine (lalive21 _).mono ?_
        rintro e w1 ⟨rfl, hb1⟩
        have st : Steps _ w1 := hb1
        have B : Below w.heap.size w w1 := belowA st
        have kp : Keeps w w1 := Keeps.then_ keepsB st
        replace kk := kk.trans kp
        have nu : Blk w1 (w.heap.size) 45 #[.bool ua1, .slice ua2 ua3 ua4, .bool ua5, .slice ua6 ua7 ua8, .int .i64 R, .int .i64 A, .bool ub1, .slice ub2 ub3 ub4, .bool ub5, .slice ub6 ub7 ub8, .bool uc1, .slice uc2 uc3 uc4, .bool uc5, .slice uc6 uc7 uc8] := Blk.stepsK st
        have ou := nu
        clear nu
        clear kp
        clear st
        have cu0 := ou.q0
        have cu1 := ou.q1
        have cu2 := ou.q2
        have cu3 := ou.q3
        have cu4 := ou.q4
        have cu5 := ou.q5
        have cu6 := ou.q6
        have cu7 := ou.q7
        have cu8 := ou.q8
        have cu9 := ou.q9
        have cu10 := ou.q10
        have cu11 := ou.q11
        have cu12 := ou.q12
        have cu13 := ou.q13
        have lu := ou.lt
        go_wp2_with fail
        refine (CK _ (kk.trans keepsB)).mono ?_
        rintro e w2 ⟨rfl, hb2⟩
        have st : Steps _ w2 := hb2
        have sk : Below w1.heap.size w1 w2 := belowA st
        replace B := below_steps B (Nat.le_refl _) sk
        replace ou := ou.steps sk
        replace kk := kk.then_ sk
        clear st sk cu0 cu1 cu2 cu3 cu4 cu5 cu6 cu7 cu8 cu9 cu10 cu11 cu12 cu13 lu
        have cu0 := ou.q0
        have cu1 := ou.q1
        have cu2 := ou.q2
        have cu3 := ou.q3
        have cu4 := ou.q4
        have cu5 := ou.q5
        have cu6 := ou.q6
        have cu7 := ou.q7
        have cu8 := ou.q8
        have cu9 := ou.q9
        have cu10 := ou.q10
        have cu11 := ou.q11
        have cu12 := ou.q12
        have cu13 := ou.q13
        have lu := ou.lt
        go_wp2_with fail
        refine (O1 _ belowB).mono ?_
        rintro e w3 ⟨vx_, rfl, hvx_, hb3⟩
        have st : Steps _ w3 := hb3
        have sk : Below w2.heap.size w2 w3 := belowA st
        replace B := below_steps B (Nat.le_refl _) sk
        replace ou := ou.steps sk
        replace kk := kk.then_ sk
        clear st sk cu0 cu1 cu2 cu3 cu4 cu5 cu6 cu7 cu8 cu9 cu10 cu11 cu12 cu13 lu
        obtain ⟨x_1, x_2, x_3, x_4, x_5, x_6, x_7, x_8, rfl⟩ := FO.shape hvx_
        have Fx_ := Hid.mk_ hvx_
        clear hvx_
        have zu_3 : w.heap.size < w3.heap.size := ou.lt
        have zz3 := B.size
        go_wp2_with fail
        refine bodyPost_ret (by simp [results, Tryz.results4, go_sem, ]; rfl) rfl ?_
        exact ⟨rfl, belowB⟩
      · have hq := chance_pos hR.1 hR.2.2.1 n1
        have sc := (sz_chance hR.1 hR.2.1 hR.2.2.1 hR.2.2.2 (show 0 ≤ n by omega) n2).1
        have sw := sz_with z1 sc (Rat.ne_of_gt hq)
        have w0 := withQ_pos hq s0 s1
        have wg := withQ_gt hq s1
        have CZ : ∀ (v : Value) (m : List Int) (w' : World), Steps w w' → IntsR w' v m → m.length ≤ 20 → okK m n m.length = true → Calls Tryz.prog 19 #[.agg #[.bool ua1, .slice ua2 ua3 ua4, .bool ua5, .slice ua6 ua7 ua8, .int .i64 R, .int .i64 A, .bool ub1, .slice ub2 ub3 ub4, .bool ub5, .slice ub6 ub7 ub8, .bool uc1, .slice uc2 uc3 uc4, .bool uc5, .slice uc6 uc7 uc8], v, .int .i64 n] w' fun e w2 => ∃ u, e = .returned (.tuple #[u, .int .i64 0]) ∧ FR w2 u (oddsL (withQ s (chanceQ R A n)) s m) ∧ Steps w' w2 := fun v m w' st h hm hok => by
          have := OD v m w' st h
          rw [hok, hl1, e2, oddsQ_all] at this
          rw [show oddsE true m.length true n true = 0 by unfold oddsE; rw [if_neg (by decide), if_neg (by omega), if_neg (by simp; omega), if_neg (by decide)]] at this
          exact this
        have SZ : ∀ m : List Int, m.length ≤ 20 → sz (oddsL (withQ s (chanceQ R A n)) s m) 402 := fun m hm => by
          rw [← oddsQ_all]
          exact (oddsQ_sz sw (z1.mono (by omega)) m noOut m.length).mono (by omega)
        have PR : oddsL (withQ s (chanceQ R A n)) s (l.take k) * oddsL (withQ s (chanceQ R A n)) s (l.drop k) = oddsL (withQ s (chanceQ R A n)) s l := by rw [← oddsL_app, List.take_append_drop]
        have LS := oddsL_set w0 s0 wg l k (by omega)
        generalize oddsL (withQ s (chanceQ R A n)) s = Q at *
        have O1 := fun (w' : World) (st : Steps w w') => CZ _ l w' st (hl.steps st) (by omega) hk
        have OT := fun (w' : World) (st : Steps w w') => CZ _ (l.take k) w' st (intsR_take (hl.steps st) (by omega)) (by rw [List.length_take]; omega) (okK_take hk k)
        have OR := fun (w' : World) (st : Steps w w') => CZ _ (l.drop k) w' st (intsR_drop (hl.steps st) (by omega)) (by rw [List.length_drop]; omega) (okK_drop hk k)
        have OM := fun (v : Value) (w' : World) (st : Steps w w') (h : IntsR w' v (l.set k 0)) => CZ v (l.set k 0) w' st h (by rw [List.length_set]; omega) (okK_set hk k 0 (by omega))
        have OL := fun (v : Value) (w' : World) (st : Steps w w') (h : IntsR w' v (l.set k (-1))) => CZ v (l.set k (-1)) w' st h (by rw [List.length_set]; omega) (okK_set hk k (-1) (by omega))
        have MU : ∀ (w' : World) (u v : Value), FR w' u (Q (l.take k)) → FR w' v (Q (l.drop k)) → Calls Tryz.prog 20 #[u, v] w' fun e w2 => ∃ x, e = .returned (.tuple #[x, .int .i64 0]) ∧ FR w2 x (Q l) ∧ Steps w' w2 := fun w' u v h1 h2 => by
          have := fMulQ w' h1 h2 (SZ _ (by rw [List.length_take]; omega)) (SZ _ (by rw [List.length_drop]; omega)) (by omega)
          rw [PR] at this
          exact this
        have CP := fun (w' : World) (u v : Value) (h1 : FR w' u (Q (l.set k 0))) (h2 : FR w' v (Q (l.set k (-1)))) => fCmpQ w' h1 h2 (SZ _ (by rw [List.length_set]; omega)) (SZ _ (by rw [List.length_set]; omega)) (by omega)
        have hc0 := cmpQ_gt.2 LS
        generalize cmpQ (Q (l.set k 0)) (Q (l.set k (-1))) = c at *
        generalize hqo : Q l = qo at *
        generalize Q (l.take k) = qt at *
        generalize Q (l.drop k) = qd at *
        generalize Q (l.set k 0) = qm at *
        generalize Q (l.set k (-1)) = ql at *
        rw [hN] at O1 OR
        rw [hN]
        have HL := Hid.mk_ hN
        have HI := Hid.mk_ hl
        clear OD CZ SZ PR LS sw w0 wg sc hq hl hN rz hR e1 e2 z1 s0 s1 eE hbl hk hl1 hqo
        go_enter Tryz.func4, Tryz.ntmps4
        have kk := Keeps.refl w
        go_wp2_with fail
        refine (lalive21 _).mono ?_
        rintro e w1 ⟨rfl, hb1⟩
        have st : Steps _ w1 := hb1
        have B : Below w.heap.size w w1 := belowA st
        have kp : Keeps w w1 := Keeps.then_ keepsB st
        replace kk := kk.trans kp
        have nu : Blk w1 (w.heap.size) 45 #[.bool ua1, .slice ua2 ua3 ua4, .bool ua5, .slice ua6 ua7 ua8, .int .i64 R, .int .i64 A, .bool ub1, .slice ub2 ub3 ub4, .bool ub5, .slice ub6 ub7 ub8, .bool uc1, .slice uc2 uc3 uc4, .bool uc5, .slice uc6 uc7 uc8] := Blk.stepsK st
        have ou := nu
        clear nu
        clear kp
        clear st
        have cu0 := ou.q0
        have cu1 := ou.q1
        have cu2 := ou.q2
        have cu3 := ou.q3
        have cu4 := ou.q4
        have cu5 := ou.q5
        have cu6 := ou.q6
        have cu7 := ou.q7
        have cu8 := ou.q8
        have cu9 := ou.q9
        have cu10 := ou.q10
        have cu11 := ou.q11
        have cu12 := ou.q12
        have cu13 := ou.q13
        have lu := ou.lt
        go_wp2_with fail
        refine (CK _ (kk.trans keepsB)).mono ?_
        rintro e w2 ⟨rfl, hb2⟩
        have st : Steps _ w2 := hb2
        have sk : Below w1.heap.size w1 w2 := belowA st
        replace B := below_steps B (Nat.le_refl _) sk
        replace ou := ou.steps sk
        replace kk := kk.then_ sk
        clear st sk cu0 cu1 cu2 cu3 cu4 cu5 cu6 cu7 cu8 cu9 cu10 cu11 cu12 cu13 lu
        have cu0 := ou.q0
        have cu1 := ou.q1
        have cu2 := ou.q2
        have cu3 := ou.q3
        have cu4 := ou.q4
        have cu5 := ou.q5
        have cu6 := ou.q6
        have cu7 := ou.q7
        have cu8 := ou.q8
        have cu9 := ou.q9
        have cu10 := ou.q10
        have cu11 := ou.q11
        have cu12 := ou.q12
        have cu13 := ou.q13
        have lu := ou.lt
        go_wp2_with fail
        refine (O1 _ belowB).mono ?_
        rintro e w3 ⟨vx_, rfl, hvx_, hb3⟩
        have st : Steps _ w3 := hb3
        have sk : Below w2.heap.size w2 w3 := belowA st
        replace B := below_steps B (Nat.le_refl _) sk
        replace ou := ou.steps sk
        replace kk := kk.then_ sk
        clear st sk cu0 cu1 cu2 cu3 cu4 cu5 cu6 cu7 cu8 cu9 cu10 cu11 cu12 cu13 lu
        have cu0 := ou.q0
        have cu1 := ou.q1
        have cu2 := ou.q2
        have cu3 := ou.q3
        have cu4 := ou.q4
        have cu5 := ou.q5
        have cu6 := ou.q6
        have cu7 := ou.q7
        have cu8 := ou.q8
        have cu9 := ou.q9
        have cu10 := ou.q10
        have cu11 := ou.q11
        have cu12 := ou.q12
        have cu13 := ou.q13
        have lu := ou.lt
        obtain ⟨x_1, x_2, x_3, x_4, x_5, x_6, x_7, x_8, rfl⟩ := hvx_.shape
        have Fx_ := Hid.mk_ hvx_
        clear hvx_
        have zu_3 : w.heap.size < w3.heap.size := ou.lt
        have zz3 := B.size
        go_wp2_with fail
        go_upto_region 7 with fail
        refine Reg.wp_chain_n (fun N0 D v W => Below w.heap.size w W ∧ Keeps w3 W ∧ N0 ≤ W.heap.size ∧ Blk W (w.heap.size) 45 #[.bool ua1, .slice ua2 ua3 ua4, .bool ua5, .slice ua6 ua7 ua8, .int .i64 R, .int .i64 A, .bool ub1, .slice ub2 ub3 ub4, .bool ub5, .slice ub6 ub7 ub8, .bool uc1, .slice uc2 uc3 uc4, .bool uc5, .slice uc6 uc7 uc8] ∧ Blk W (w3.heap.size) 28 #[.bool x_1, .slice x_2 x_3 x_4, .bool x_5, .slice x_6 x_7 x_8] ∧ (D 9 = true → ∃ g : Nat, v 9 = .pointer (some ⟨g, 0, none⟩) ∧ N0 ≤ g ∧ g < W.heap.size ∧ (D 10 = false → Blk W g 28 #[.bool false, .slice none 0 0, .bool false, .slice none 0 0]) ∧ (D 10 = true → D 5 = true ∧ ∃ cs, v 5 = .tuple #[.agg cs, .int .i64 0] ∧ Blk W g 28 cs)))
          (Reg.inl [5, 9, 10]) (Reg.gv [(5, IsFrE 0), (9, IsPtr)]) (gw [(5, GFrE (qt) 0)]) (fun _ => Keeps) (fun _ _ => False) (Reg.pl [(10, [(5, some 70), (9, some 12)]), (12, [(5, some 70), (9, some 12)])]) (Reg.pl [(9, [10]), (5, [10])])
          (by kernel_rfl) (by kernel_rfl) (by kernel_rfl) (Reg.gv_some _ (by intro p hp; simp only [List.mem_cons, List.not_mem_nil, or_false] at hp; rcases hp with rfl | rfl <;> first | exact ⟨_, rfl⟩ | exact ⟨_, 0, rfl⟩ | exact ⟨_, none, 0, 0, rfl⟩ | exact ⟨_, false, none, 0, 0, rfl⟩ | exact ⟨_, false, none, 0, 0, false, none, 0, 0, rfl⟩)) (fun N0 hN0 => ⟨fun v => ?_, fun D v v' W hv hj => ?_, fun D v k j W W' x _ _ _ _ hk hg => gw_keeps _ (by intro p hp; simp only [List.mem_cons, List.not_mem_nil, or_false] at hp; rcases hp with rfl <;> first | exact GFr.keeps | exact GFrE.keeps | exact GNu.keeps | exact GNuE.keeps | exact GLi.keeps) hk hg, fun _ _ _ _ h => h.elim, fun ops' Q' hops hQ => ?_⟩)
        · exact ⟨belowB, keepsB, by first | with_reducible exact Nat.le_of_eq hN0.out | (simp only [World.size_drew]; with_reducible exact Nat.le_of_eq hN0.out), ownK, ownK, (fun h => Bool.noConfusion h)⟩
        · obtain ⟨j0, jk, jn, b_u, b_va, a_9⟩ := hj
          exact ⟨j0, jk, jn, b_u, b_va, fun h => by obtain ⟨g, e1, e2, e3, e4, e5⟩ := a_9 h; exact ⟨g, (hv 9 h) ▸ e1, e2, e3, e4, fun h => by obtain ⟨d, cs, e, hb⟩ := e5 h; exact ⟨d, cs, (hv 5 d) ▸ e, hb⟩⟩⟩
        have i_u : w.heap.size < N0 := by have e := hN0.out; (try simp only [World.size_alloc, World.size_setCell, World.size_drew, World.heap_drewN] at e); first | omega | (have h := ou.lt; omega)
        have i_va : w3.heap.size < N0 := by have e := hN0.out; (try simp only [World.size_alloc, World.size_setCell, World.size_drew, World.heap_drewN] at e); first | omega | (have h := ova.lt; omega)
        have iw : w.heap.size ≤ N0 := by have e := hN0.out; (try simp only [World.size_alloc, World.size_setCell, World.size_drew, World.heap_drewN] at e); first | omega | (have h := B.size; omega)
        clear cu0 cu1 cu2 cu3 cu4 cu5 cu6 cu7 cu8 cu9 cu10 cu11 cu12 cu13 lu
        clear hN0
        apply Reg.RC_pure (hc := rfl) (hst := rfl) (hw := rfl) (t := 65) (hd := rfl) (ht := Nat.le_of_ble_eq_true rfl)
        · intro D v' W' hc hj hf K hK
          obtain ⟨j0, jk, jn, b_u, b_va, a_9⟩ := hj
          have c0 : W'.cell? ⟨w.heap.size, 0, none⟩ = some (.bool ua1) := b_u.c 0 rfl
          have c1 : W'.cell? ⟨w.heap.size, 1, none⟩ = some (.slice ua2 ua3 ua4) := b_u.c 1 rfl
          have c2 : W'.cell? ⟨w.heap.size, 2, none⟩ = some (.bool ua5) := b_u.c 2 rfl
          have c3 : W'.cell? ⟨w.heap.size, 3, none⟩ = some (.slice ua6 ua7 ua8) := b_u.c 3 rfl
          have c4 : W'.cell? ⟨w.heap.size, 4, none⟩ = some (.int .i64 R) := b_u.c 4 rfl
          have c5 : W'.cell? ⟨w.heap.size, 5, none⟩ = some (.int .i64 A) := b_u.c 5 rfl
          have c6 : W'.cell? ⟨w.heap.size, 6, none⟩ = some (.bool ub1) := b_u.c 6 rfl
          have c7 : W'.cell? ⟨w.heap.size, 7, none⟩ = some (.slice ub2 ub3 ub4) := b_u.c 7 rfl
          have c8 : W'.cell? ⟨w.heap.size, 8, none⟩ = some (.bool ub5) := b_u.c 8 rfl
          have c9 : W'.cell? ⟨w.heap.size, 9, none⟩ = some (.slice ub6 ub7 ub8) := b_u.c 9 rfl
          have c10 : W'.cell? ⟨w.heap.size, 10, none⟩ = some (.bool uc1) := b_u.c 10 rfl
          have c11 : W'.cell? ⟨w.heap.size, 11, none⟩ = some (.slice uc2 uc3 uc4) := b_u.c 11 rfl
          have c12 : W'.cell? ⟨w.heap.size, 12, none⟩ = some (.bool uc5) := b_u.c 12 rfl
          have c13 : W'.cell? ⟨w.heap.size, 13, none⟩ = some (.slice uc6 uc7 uc8) := b_u.c 13 rfl
          go_step
          exact hK.out
        · rfl
        apply Reg.RC_pure (hc := rfl) (hst := rfl) (hw := rfl) (t := 66) (hd := rfl) (ht := Nat.le_of_ble_eq_true rfl)
        · intro D v' W' hc hj hf K hK
          go_step
          exact hK.out
        · rfl
        apply Reg.RC_pure (hc := rfl) (hst := rfl) (hw := rfl) (t := 67) (hd := rfl) (ht := Nat.le_of_ble_eq_true rfl)
        · intro D v' W' hc hj hf K hK
          go_step
          exact hK.out
        · rfl
        apply Reg.RC_pure (hc := rfl) (hst := rfl) (hw := rfl) (t := 68) (hd := rfl) (ht := Nat.le_of_ble_eq_true rfl)
        · intro D v' W' hc hj hf K hK
          go_step
          exact hK.out
        · rfl
        apply Reg.RC_pure (hc := rfl) (hst := rfl) (hw := rfl) (t := 69) (hd := rfl) (ht := Nat.le_of_ble_eq_true rfl)
        · intro D v' W' hc hj hf K hK
          go_step
          exact hK.out
        · rfl
        refine Reg.RC_call rfl (by intro t ht; cases ht; exact Nat.le_of_ble_eq_true rfl) rfl (fun D v' W' hc hj hf K hK => ?_) ?_
        · obtain ⟨j0, jk, jn, b_u, b_va, a_9⟩ := hj
          clear hf
          go_step
          refine (OT W' j0).mono ?_
          rintro e W2 ⟨u, rfl, hu, hs⟩
          obtain ⟨xt1, xt2, xt3, xt4, xt5, xt6, xt7, xt8, rfl⟩ := hu.shape
          exact hK.out _ W2 (Keeps.steps hs) ⟨below_steps j0 (Nat.le_refl _) hs, jk.then_ hs, Nat.le_trans jn hs.size, b_u.steps hs, b_va.steps hs, fun h => by obtain ⟨g, e1, e2, e3, e4, e5⟩ := a_9 h; exact ⟨g, e1, e2, Nat.lt_of_lt_of_le e3 (hs).size, fun h => (e4 h).steps hs, fun h => Bool.noConfusion ((hc.2 10 (by decide)).symm.trans h)⟩⟩ ⟨_, rfl, hu⟩ ⟨_, _, _, _, _, _, _, _, rfl⟩
        rintro _ ⟨xt1, xt2, xt3, xt4, xt5, xt6, xt7, xt8, rfl⟩
        refine Reg.RC_at (b := ⟨#[_,_,_,_,_,_,_,_,_,_,_,_,_,_,_,_,_,_,_,_,_,_,_,_,_,_,_,_,_,_,_,_,_,_,_,_,_,_,_,_,_,_,_,_,_,_,_,_,_,_,_,_,_,_,_,_,_,_,_,_,_,_,_,_,_,_,_,_,_,_,_,_,_,_,_,_,_,_,_,_,_,_,_,_,_,_,_,_,_,_,_,_,_,_,_,_,_,_,_,_,_,_,_,_,_,_,_,_,_,_,_,_,_,_,_,_,_,_,_,_,_,_,_,_,_,_,_,_,_,_,_,_,_,_,_,_,_,_,_,_,_,_,_,_,_,_,_,_,_,_,_,_,_], _⟩) rfl ?_
        apply Reg.RC_pure (hc := rfl) (hst := rfl) (hw := rfl) (t := 64) (hd := rfl) (ht := Nat.le_of_ble_eq_true rfl)
        · intro D v' W' hc hj hf K hK
          go_step
          exact hK.out
        · rfl
        apply Reg.RC_pure (hc := rfl) (hst := rfl) (hw := rfl) (t := 71) (hd := rfl) (ht := Nat.le_of_ble_eq_true rfl)
        · intro D v' W' hc hj hf K hK
          go_step
          exact hK.out
        · rfl
        apply Reg.RC_pure (hc := rfl) (hst := rfl) (hw := rfl) (t := 72) (hd := rfl) (ht := Nat.le_of_ble_eq_true rfl)
        · intro D v' W' hc hj hf K hK
          go_step
          exact hK.out
        · rfl
        refine Reg.RC_call rfl (by intro t ht; cases ht; exact Nat.le_of_ble_eq_true rfl) rfl (fun D v' W' hc hj hf K hK => ?_) ?_
        · obtain ⟨j0, jk, jn, b_u, b_va, a_9⟩ := hj
          go_step
          have hs : ∀ o : Obj, Steps W' (W'.alloc o) := fun o => (Below.refl _ _).alloc (Nat.le_refl _) o
          exact hK.out _ _ (Keeps.steps (hs _)) ⟨below_steps j0 (Nat.le_refl _) (hs _), jk.then_ (hs _), Nat.le_trans jn (hs _).size, b_u.steps (hs _), b_va.steps (hs _), fun _ => ⟨W'.heap.size, rfl, jn, by rw [World.size_alloc]; omega, fun _ => Blk.new _ _ _, fun h => Bool.noConfusion ((hc.2 10 (by decide)).symm.trans h)⟩⟩ trivial ⟨_, rfl⟩
        rintro _ ⟨p12, rfl⟩
        refine Reg.RC_at (b := ⟨#[_,_,_,_,_,_,_,_,_,_,_,_,_,_,_,_,_,_,_,_,_,_,_,_,_,_,_,_,_,_,_,_,_,_,_,_,_,_,_,_,_,_,_,_,_,_,_,_,_,_,_,_,_,_,_,_,_,_,_,_,_,_,_,_,_,_,_,_,_,_,_,_,_,_,_,_,_,_,_,_,_,_,_,_,_,_,_,_,_,_,_,_,_,_,_,_,_,_,_,_,_,_,_,_,_,_,_,_,_,_,_,_,_,_,_,_,_,_,_,_,_,_,_,_,_,_,_,_,_,_,_,_,_,_,_,_,_,_,_,_,_,_,_,_,_,_,_,_,_,_,_,_,_], _⟩) rfl ?_
        refine Reg.RC_call rfl (by intro t ht; cases ht) rfl (fun D v' W' hc hj hf K hK => ?_) (fun _ _ => Reg.RC_at (b := ⟨_, _⟩) rfl ?_)
        · obtain ⟨j0, jk, jn, b_u, b_va, a_9⟩ := hj
          have f := hf (9, some 12) (.tail _ (.head _)) rfl
          have e6 : v' 9 = .pointer (some ⟨p12, 0, none⟩) := f.2.1
          obtain ⟨g, e1, e2, e3, e4, e5⟩ := a_9 f.1
          obtain rfl : p12 = g := Reg.ptr_eq (e6.symm.trans e1)
          have hb := e4 hc.1
          clear e4 e5
          have fc := hf (5, some 70) (.head _) rfl
          have ec : v' 5 = .tuple #[.agg #[.bool xt1, .slice xt2 xt3 xt4, .bool xt5, .slice xt6 xt7 xt8], .int .i64 0] := fc.2.1
          have ff := hb.fr
          have cc0 : W'.cell? ⟨p12, 0, none⟩ = some (.bool false) := hb.c 0 rfl
          have cc1 : W'.cell? ⟨p12, 1, none⟩ = some (.slice none 0 0) := hb.c 1 rfl
          have cc2 : W'.cell? ⟨p12, 2, none⟩ = some (.bool false) := hb.c 2 rfl
          have cc3 : W'.cell? ⟨p12, 3, none⟩ = some (.slice none 0 0) := hb.c 3 rfl
          go_step
          exact hK.out undef _ (keeps4 hb rfl) ⟨(below4 j0 (by show w.heap.size ≤ p12; omega)), jk.trans (keeps4 hb rfl), by simpa using jn, (b_u).far4 (show w.heap.size ≠ p12 by omega), (b_va).far4 (show w3.heap.size ≠ p12 by omega), fun _ => ⟨p12, e1, e2, by simpa using e3, fun h => Bool.noConfusion h, fun _ => ⟨fc.1, _, ec, (Blk.set2 (cs' := #[.bool xt1, .slice xt2 xt3 xt4, .bool xt5, .slice xt6 xt7 xt8]) (Blk.set2 (cs' := #[.bool xt1, .slice xt2 xt3 xt4, .bool xt5, .slice none 0 0]) (Blk.set2 (cs' := #[.bool xt1, .slice xt2 xt3 xt4, .bool false, .slice none 0 0]) (Blk.set2 (cs' := #[.bool xt1, .slice none 0 0, .bool false, .slice none 0 0]) hb (i := 0) rfl) (i := 1) rfl) (i := 2) rfl) (i := 3) rfl)⟩⟩⟩ trivial trivial
        apply Reg.RC_pure (hc := rfl) (hst := rfl) (hw := rfl) (t := 13) (hd := rfl) (ht := Nat.le_of_ble_eq_true rfl)
        · intro D v' W' hc hj hf K hK
          go_step
          exact hK.out
        · rfl
        refine Reg.RC_end (fun Dn v' w4 hd hj hf => ?_)
        obtain ⟨j0, jk, jn, b_u, b_va, a_9⟩ := hj
        have B := j0
        have ou := b_u
        clear b_u
        have ova := b_va
        clear b_va
        have f := hf (9, some 12) (.tail _ (.head _)) rfl
        have e6_ : v' 9 = .pointer (some ⟨p12, 0, none⟩) := f.2.1
        obtain ⟨g, e1_, zvb, -, -, e5_⟩ := a_9 f.1
        obtain rfl : p12 = g := Reg.ptr_eq (e6_.symm.trans e1_)
        obtain ⟨-, cs_, ee, ovb⟩ := e5_ (hd 10 (Nat.le_of_ble_eq_true rfl))
        have ef : v' 5 = .tuple #[.agg #[.bool xt1, .slice xt2 xt3 xt4, .bool xt5, .slice xt6 xt7 xt8], .int .i64 0] := (hf (5, some 70) (.head _) rfl).2.1
        obtain rfl : #[.bool xt1, .slice xt2 xt3 xt4, .bool xt5, .slice xt6 xt7 xt8] = cs_ := by have := ef.symm.trans ee; simpa only [Value.tuple.injEq, Value.agg.injEq, Array.mk.injEq, List.cons.injEq, and_true, true_and] using this
        clear ee ef f e5_ e1_ e6_
        have Fxt := Hid.mk_ (GFrE.get (r := qt) (e := 0) (v := .agg #[.bool xt1, .slice xt2 xt3 xt4, .bool xt5, .slice xt6 xt7 xt8]) (hf (5, some 70) (.head _) rfl).2.2)
        replace Fx_ := Hid.mk_ (Fx_.out.keeps jk)
        replace kk := kk.trans jk
        clear hd hf jk j0
        refine hQ _ _ ?_
        clear hQ hops Q' ops'
        have cu0 := ou.q0
        have cu1 := ou.q1
        have cu2 := ou.q2
        have cu3 := ou.q3
        have cu4 := ou.q4
        have cu5 := ou.q5
        have cu6 := ou.q6
        have cu7 := ou.q7
        have cu8 := ou.q8
        have cu9 := ou.q9
        have cu10 := ou.q10
        have cu11 := ou.q11
        have cu12 := ou.q12
        have cu13 := ou.q13
        have lu := ou.lt
        go_wp2_with fail
        have zvb_4 : p12 < w4.heap.size := ovb.lt
        have zz4 := B.size
        go_upto_region 8 with fail
        refine Reg.wp_chain_n (fun N0 D v W => Below w.heap.size w W ∧ Keeps w4 W ∧ N0 ≤ W.heap.size ∧ Blk W (w.heap.size) 45 #[.bool ua1, .slice ua2 ua3 ua4, .bool ua5, .slice ua6 ua7 ua8, .int .i64 R, .int .i64 A, .bool ub1, .slice ub2 ub3 ub4, .bool ub5, .slice ub6 ub7 ub8, .bool uc1, .slice uc2 uc3 uc4, .bool uc5, .slice uc6 uc7 uc8] ∧ Blk W (w3.heap.size) 28 #[.bool x_1, .slice x_2 x_3 x_4, .bool x_5, .slice x_6 x_7 x_8] ∧ Blk W (p12) 28 #[.bool xt1, .slice xt2 xt3 xt4, .bool xt5, .slice xt6 xt7 xt8] ∧ (D 9 = true → ∃ g : Nat, v 9 = .pointer (some ⟨g, 0, none⟩) ∧ N0 ≤ g ∧ g < W.heap.size ∧ (D 10 = false → Blk W g 28 #[.bool false, .slice none 0 0, .bool false, .slice none 0 0]) ∧ (D 10 = true → D 5 = true ∧ ∃ cs, v 5 = .tuple #[.agg cs, .int .i64 0] ∧ Blk W g 28 cs)))
          (Reg.inl [5, 9, 10]) (Reg.gv [(5, IsFrE 0), (9, IsPtr)]) (gw [(5, GFrE (qd) 0)]) (fun _ => Keeps) (fun _ _ => False) (Reg.pl [(10, [(5, some 79), (9, some 14)]), (12, [(5, some 79), (9, some 14)])]) (Reg.pl [(9, [10]), (5, [10])])
          (by kernel_rfl) (by kernel_rfl) (by kernel_rfl) (Reg.gv_some _ (by intro p hp; simp only [List.mem_cons, List.not_mem_nil, or_false] at hp; rcases hp with rfl | rfl <;> first | exact ⟨_, rfl⟩ | exact ⟨_, 0, rfl⟩ | exact ⟨_, none, 0, 0, rfl⟩ | exact ⟨_, false, none, 0, 0, rfl⟩ | exact ⟨_, false, none, 0, 0, false, none, 0, 0, rfl⟩)) (fun N0 hN0 => ⟨fun v => ?_, fun D v v' W hv hj => ?_, fun D v k j W W' x _ _ _ _ hk hg => gw_keeps _ (by intro p hp; simp only [List.mem_cons, List.not_mem_nil, or_false] at hp; rcases hp with rfl <;> first | exact GFr.keeps | exact GFrE.keeps | exact GNu.keeps | exact GNuE.keeps | exact GLi.keeps) hk hg, fun _ _ _ _ h => h.elim, fun ops' Q' hops hQ => ?_⟩)
        · exact ⟨belowB, keepsB, by first | with_reducible exact Nat.le_of_eq hN0.out | (simp only [World.size_drew]; with_reducible exact Nat.le_of_eq hN0.out), ownK, ownK, ownK, (fun h => Bool.noConfusion h)⟩
        · obtain ⟨j0, jk, jn, b_u, b_va, b_vb, a_9⟩ := hj
          exact ⟨j0, jk, jn, b_u, b_va, b_vb, fun h => by obtain ⟨g, e1, e2, e3, e4, e5⟩ := a_9 h; exact ⟨g, (hv 9 h) ▸ e1, e2, e3, e4, fun h => by obtain ⟨d, cs, e, hb⟩ := e5 h; exact ⟨d, cs, (hv 5 d) ▸ e, hb⟩⟩⟩
        have i_u : w.heap.size < N0 := by have e := hN0.out; (try simp only [World.size_alloc, World.size_setCell, World.size_drew, World.heap_drewN] at e); first | omega | (have h := ou.lt; omega)
        have i_va : w3.heap.size < N0 := by have e := hN0.out; (try simp only [World.size_alloc, World.size_setCell, World.size_drew, World.heap_drewN] at e); first | omega | (have h := ova.lt; omega)
        have i_vb : p12 < N0 := by have e := hN0.out; (try simp only [World.size_alloc, World.size_setCell, World.size_drew, World.heap_drewN] at e); first | omega | (have h := ovb.lt; omega)
        have iw : w.heap.size ≤ N0 := by have e := hN0.out; (try simp only [World.size_alloc, World.size_setCell, World.size_drew, World.heap_drewN] at e); first | omega | (have h := B.size; omega)
        clear cu0 cu1 cu2 cu3 cu4 cu5 cu6 cu7 cu8 cu9 cu10 cu11 cu12 cu13 lu
        clear hN0
        apply Reg.RC_pure (hc := rfl) (hst := rfl) (hw := rfl) (t := 74) (hd := rfl) (ht := Nat.le_of_ble_eq_true rfl)
        · intro D v' W' hc hj hf K hK
          obtain ⟨j0, jk, jn, b_u, b_va, b_vb, a_9⟩ := hj
          have c0 : W'.cell? ⟨w.heap.size, 0, none⟩ = some (.bool ua1) := b_u.c 0 rfl
          have c1 : W'.cell? ⟨w.heap.size, 1, none⟩ = some (.slice ua2 ua3 ua4) := b_u.c 1 rfl
          have c2 : W'.cell? ⟨w.heap.size, 2, none⟩ = some (.bool ua5) := b_u.c 2 rfl
          have c3 : W'.cell? ⟨w.heap.size, 3, none⟩ = some (.slice ua6 ua7 ua8) := b_u.c 3 rfl
          have c4 : W'.cell? ⟨w.heap.size, 4, none⟩ = some (.int .i64 R) := b_u.c 4 rfl
          have c5 : W'.cell? ⟨w.heap.size, 5, none⟩ = some (.int .i64 A) := b_u.c 5 rfl
          have c6 : W'.cell? ⟨w.heap.size, 6, none⟩ = some (.bool ub1) := b_u.c 6 rfl
          have c7 : W'.cell? ⟨w.heap.size, 7, none⟩ = some (.slice ub2 ub3 ub4) := b_u.c 7 rfl
          have c8 : W'.cell? ⟨w.heap.size, 8, none⟩ = some (.bool ub5) := b_u.c 8 rfl
          have c9 : W'.cell? ⟨w.heap.size, 9, none⟩ = some (.slice ub6 ub7 ub8) := b_u.c 9 rfl
          have c10 : W'.cell? ⟨w.heap.size, 10, none⟩ = some (.bool uc1) := b_u.c 10 rfl
          have c11 : W'.cell? ⟨w.heap.size, 11, none⟩ = some (.slice uc2 uc3 uc4) := b_u.c 11 rfl
          have c12 : W'.cell? ⟨w.heap.size, 12, none⟩ = some (.bool uc5) := b_u.c 12 rfl
          have c13 : W'.cell? ⟨w.heap.size, 13, none⟩ = some (.slice uc6 uc7 uc8) := b_u.c 13 rfl
          go_step
          exact hK.out
        · rfl
        apply Reg.RC_pure (hc := rfl) (hst := rfl) (hw := rfl) (t := 75) (hd := rfl) (ht := Nat.le_of_ble_eq_true rfl)
        · intro D v' W' hc hj hf K hK
          go_step
          exact hK.out
        · rfl
        apply Reg.RC_pure (hc := rfl) (hst := rfl) (hw := rfl) (t := 76) (hd := rfl) (ht := Nat.le_of_ble_eq_true rfl)
        · intro D v' W' hc hj hf K hK
          go_step
          exact hK.out
        · rfl
        apply Reg.RC_pure (hc := rfl) (hst := rfl) (hw := rfl) (t := 77) (hd := rfl) (ht := Nat.le_of_ble_eq_true rfl)
        · intro D v' W' hc hj hf K hK
          go_step
          exact hK.out
        · rfl
        apply Reg.RC_pure (hc := rfl) (hst := rfl) (hw := rfl) (t := 78) (hd := rfl) (ht := Nat.le_of_ble_eq_true rfl)
        · intro D v' W' hc hj hf K hK
          go_step
          exact hK.out
        · rfl
        refine Reg.RC_call rfl (by intro t ht; cases ht; exact Nat.le_of_ble_eq_true rfl) rfl (fun D v' W' hc hj hf K hK => ?_) ?_
        · obtain ⟨j0, jk, jn, b_u, b_va, b_vb, a_9⟩ := hj
          clear hf
          go_step
          refine (OR W' j0).mono ?_
          rintro e W2 ⟨u, rfl, hu, hs⟩
          obtain ⟨xd1, xd2, xd3, xd4, xd5, xd6, xd7, xd8, rfl⟩ := hu.shape
          exact hK.out _ W2 (Keeps.steps hs) ⟨below_steps j0 (Nat.le_refl _) hs, jk.then_ hs, Nat.le_trans jn hs.size, b_u.steps hs, b_va.steps hs, b_vb.steps hs, fun h => by obtain ⟨g, e1, e2, e3, e4, e5⟩ := a_9 h; exact ⟨g, e1, e2, Nat.lt_of_lt_of_le e3 (hs).size, fun h => (e4 h).steps hs, fun h => Bool.noConfusion ((hc.2 10 (by decide)).symm.trans h)⟩⟩ ⟨_, rfl, hu⟩ ⟨_, _, _, _, _, _, _, _, rfl⟩
        rintro _ ⟨xd1, xd2, xd3, xd4, xd5, xd6, xd7, xd8, rfl⟩
        refine Reg.RC_at (b := ⟨#[_,_,_,_,_,_,_,_,_,_,_,_,_,_,_,_,_,_,_,_,_,_,_,_,_,_,_,_,_,_,_,_,_,_,_,_,_,_,_,_,_,_,_,_,_,_,_,_,_,_,_,_,_,_,_,_,_,_,_,_,_,_,_,_,_,_,_,_,_,_,_,_,_,_,_,_,_,_,_,_,_,_,_,_,_,_,_,_,_,_,_,_,_,_,_,_,_,_,_,_,_,_,_,_,_,_,_,_,_,_,_,_,_,_,_,_,_,_,_,_,_,_,_,_,_,_,_,_,_,_,_,_,_,_,_,_,_,_,_,_,_,_,_,_,_,_,_,_,_,_,_,_,_], _⟩) rfl ?_
        apply Reg.RC_pure (hc := rfl) (hst := rfl) (hw := rfl) (t := 73) (hd := rfl) (ht := Nat.le_of_ble_eq_true rfl)
        · intro D v' W' hc hj hf K hK
          go_step
          exact hK.out
        · rfl
        apply Reg.RC_pure (hc := rfl) (hst := rfl) (hw := rfl) (t := 80) (hd := rfl) (ht := Nat.le_of_ble_eq_true rfl)
        · intro D v' W' hc hj hf K hK
          go_step
          exact hK.out
        · rfl
        apply Reg.RC_pure (hc := rfl) (hst := rfl) (hw := rfl) (t := 81) (hd := rfl) (ht := Nat.le_of_ble_eq_true rfl)
        · intro D v' W' hc hj hf K hK
          go_step
          exact hK.out
        · rfl
        refine Reg.RC_call rfl (by intro t ht; cases ht; exact Nat.le_of_ble_eq_true rfl) rfl (fun D v' W' hc hj hf K hK => ?_) ?_
        · obtain ⟨j0, jk, jn, b_u, b_va, b_vb, a_9⟩ := hj
          go_step
          have hs : ∀ o : Obj, Steps W' (W'.alloc o) := fun o => (Below.refl _ _).alloc (Nat.le_refl _) o
          exact hK.out _ _ (Keeps.steps (hs _)) ⟨below_steps j0 (Nat.le_refl _) (hs _), jk.then_ (hs _), Nat.le_trans jn (hs _).size, b_u.steps (hs _), b_va.steps (hs _), b_vb.steps (hs _), fun _ => ⟨W'.heap.size, rfl, jn, by rw [World.size_alloc]; omega, fun _ => Blk.new _ _ _, fun h => Bool.noConfusion ((hc.2 10 (by decide)).symm.trans h)⟩⟩ trivial ⟨_, rfl⟩
        rintro _ ⟨p14, rfl⟩
        refine Reg.RC_at (b := ⟨#[_,_,_,_,_,_,_,_,_,_,_,_,_,_,_,_,_,_,_,_,_,_,_,_,_,_,_,_,_,_,_,_,_,_,_,_,_,_,_,_,_,_,_,_,_,_,_,_,_,_,_,_,_,_,_,_,_,_,_,_,_,_,_,_,_,_,_,_,_,_,_,_,_,_,_,_,_,_,_,_,_,_,_,_,_,_,_,_,_,_,_,_,_,_,_,_,_,_,_,_,_,_,_,_,_,_,_,_,_,_,_,_,_,_,_,_,_,_,_,_,_,_,_,_,_,_,_,_,_,_,_,_,_,_,_,_,_,_,_,_,_,_,_,_,_,_,_,_,_,_,_,_,_], _⟩) rfl ?_
        refine Reg.RC_call rfl (by intro t ht; cases ht) rfl (fun D v' W' hc hj hf K hK => ?_) (fun _ _ => Reg.RC_at (b := ⟨_, _⟩) rfl ?_)
        · obtain ⟨j0, jk, jn, b_u, b_va, b_vb, a_9⟩ := hj
          have f := hf (9, some 14) (.tail _ (.head _)) rfl
          have e6 : v' 9 = .pointer (some ⟨p14, 0, none⟩) := f.2.1
          obtain ⟨g, e1, e2, e3, e4, e5⟩ := a_9 f.1
          obtain rfl : p14 = g := Reg.ptr_eq (e6.symm.trans e1)
          have hb := e4 hc.1
          clear e4 e5
          have fc := hf (5, some 79) (.head _) rfl
          have ec : v' 5 = .tuple #[.agg #[.bool xd1, .slice xd2 xd3 xd4, .bool xd5, .slice xd6 xd7 xd8], .int .i64 0] := fc.2.1
          have ff := hb.fr
          have cc0 : W'.cell? ⟨p14, 0, none⟩ = some (.bool false) := hb.c 0 rfl
          have cc1 : W'.cell? ⟨p14, 1, none⟩ = some (.slice none 0 0) := hb.c 1 rfl
          have cc2 : W'.cell? ⟨p14, 2, none⟩ = some (.bool false) := hb.c 2 rfl
          have cc3 : W'.cell? ⟨p14, 3, none⟩ = some (.slice none 0 0) := hb.c 3 rfl
          go_step
          exact hK.out undef _ (keeps4 hb rfl) ⟨(below4 j0 (by show w.heap.size ≤ p14; omega)), jk.trans (keeps4 hb rfl), by simpa using jn, (b_u).far4 (show w.heap.size ≠ p14 by omega), (b_va).far4 (show w3.heap.size ≠ p14 by omega), (b_vb).far4 (show p12 ≠ p14 by omega), fun _ => ⟨p14, e1, e2, by simpa using e3, fun h => Bool.noConfusion h, fun _ => ⟨fc.1, _, ec, (Blk.set2 (cs' := #[.bool xd1, .slice xd2 xd3 xd4, .bool xd5, .slice xd6 xd7 xd8]) (Blk.set2 (cs' := #[.bool xd1, .slice xd2 xd3 xd4, .bool xd5, .slice none 0 0]) (Blk.set2 (cs' := #[.bool xd1, .slice xd2 xd3 xd4, .bool false, .slice none 0 0]) (Blk.set2 (cs' := #[.bool xd1, .slice none 0 0, .bool false, .slice none 0 0]) hb (i := 0) rfl) (i := 1) rfl) (i := 2) rfl) (i := 3) rfl)⟩⟩⟩ trivial trivial
        apply Reg.RC_pure (hc := rfl) (hst := rfl) (hw := rfl) (t := 15) (hd := rfl) (ht := Nat.le_of_ble_eq_true rfl)
        · intro D v' W' hc hj hf K hK
          go_step
          exact hK.out
        · rfl
        refine Reg.RC_end (fun Dn v' w5 hd hj hf => ?_)
        obtain ⟨j0, jk, jn, b_u, b_va, b_vb, a_9⟩ := hj
        have B := j0
        have ou := b_u
        clear b_u
        have ova := b_va
        clear b_va
        have ovb := b_vb
        clear b_vb
        have f := hf (9, some 14) (.tail _ (.head _)) rfl
        have e6_ : v' 9 = .pointer (some ⟨p14, 0, none⟩) := f.2.1
        obtain ⟨g, e1_, zvd, -, -, e5_⟩ := a_9 f.1
        obtain rfl : p14 = g := Reg.ptr_eq (e6_.symm.trans e1_)
        obtain ⟨-, cs_, ee, ovd⟩ := e5_ (hd 10 (Nat.le_of_ble_eq_true rfl))
        have ef : v' 5 = .tuple #[.agg #[.bool xd1, .slice xd2 xd3 xd4, .bool xd5, .slice xd6 xd7 xd8], .int .i64 0] := (hf (5, some 79) (.head _) rfl).2.1
        obtain rfl : #[.bool xd1, .slice xd2 xd3 xd4, .bool xd5, .slice xd6 xd7 xd8] = cs_ := by have := ef.symm.trans ee; simpa only [Value.tuple.injEq, Value.agg.injEq, Array.mk.injEq, List.cons.injEq, and_true, true_and] using this
        clear ee ef f e5_ e1_ e6_
        have Fxd := Hid.mk_ (GFrE.get (r := qd) (e := 0) (v := .agg #[.bool xd1, .slice xd2 xd3 xd4, .bool xd5, .slice xd6 xd7 xd8]) (hf (5, some 79) (.head _) rfl).2.2)
        replace Fx_ := Hid.mk_ (Fx_.out.keeps jk)
        replace Fxt := Hid.mk_ (Fxt.out.keeps jk)
        replace kk := kk.trans jk
        clear hd hf jk j0
        refine hQ _ _ ?_
        clear hQ hops Q' ops'
        have cvb0 := ovb.q0
        have cvb1 := ovb.q1
        have cvb2 := ovb.q2
        have cvb3 := ovb.q3
        have lvb := ovb.lt
        have cvd0 := ovd.q0
        have cvd1 := ovd.q1
        have cvd2 := ovd.q2
        have cvd3 := ovd.q3
        have lvd := ovd.lt
        go_wp2_with fail
        refine (MU _ _ _ (Fxt.out.keeps keepsB) (Fxd.out.keeps keepsB)).mono ?_
        rintro e w6 ⟨vxm, rfl, hvxm, hb6⟩
        have st : Steps _ w6 := hb6
        have sk : Below w5.heap.size w5 w6 := belowA st
        replace B := below_steps B (Nat.le_refl _) sk
        replace ou := ou.steps sk
        replace ova := ova.steps sk
        replace ovb := ovb.steps sk
        replace ovd := ovd.steps sk
        replace Fx_ := Hid.mk_ (Fx_.out.steps sk)
        replace Fxt := Hid.mk_ (Fxt.out.steps sk)
        replace Fxd := Hid.mk_ (Fxd.out.steps sk)
        replace kk := kk.then_ sk
        clear st sk cvb0 cvb1 cvb2 cvb3 lvb cvd0 cvd1 cvd2 cvd3 lvd
        have cva0 := ova.q0
        have cva1 := ova.q1
        have cva2 := ova.q2
        have cva3 := ova.q3
        have lva := ova.lt
        obtain ⟨xm1, xm2, xm3, xm4, xm5, xm6, xm7, xm8, rfl⟩ := hvxm.shape
        have Fxm := Hid.mk_ hvxm
        clear hvxm
        have zvd_6 : p14 < w6.heap.size := ovd.lt
        have zvb_6 : p12 < w6.heap.size := ovb.lt
        have zz6 := B.size
        go_wp2_with fail
        refine (rsameFO (o := some qo) _ (Fx_.out.keeps keepsB) (Fxm.out.keeps keepsB)).mono ?_
        rintro e w7 ⟨rfl, hb7⟩
        have st : Steps _ w7 := hb7
        have sk : Below w6.heap.size w6 w7 := belowA st
        replace B := below_steps B (Nat.le_refl _) sk
        have ovj : Blk w7 (w6.heap.size) 28 #[.bool xm1, .slice xm2 xm3 xm4, .bool xm5, .slice xm6 xm7 xm8] := Blk.stepsK st
        replace ou := ou.steps sk
        replace ova := ova.steps sk
        replace ovb := ovb.steps sk
        replace ovd := ovd.steps sk
        replace Fx_ := Hid.mk_ (Fx_.out.steps sk)
        replace Fxt := Hid.mk_ (Fxt.out.steps sk)
        replace Fxd := Hid.mk_ (Fxd.out.steps sk)
        replace Fxm := Hid.mk_ (Fxm.out.steps sk)
        replace kk := kk.then_ sk
        clear st sk cva0 cva1 cva2 cva3 lva
        dsimp only
        have zz9 := B.size
        go_upto_region 12 with fail
        have him : IntsR w7 (.slice (some ⟨b, o, none⟩) N cap) l := by rw [← HL.out]; exact HI.out.steps B
        repeat' (first | ((with_reducible show wpList _ _ _ (⟨some 106, _, _, _, _, _⟩ :: _) _ _); refine app_copyI rfl (.tmp 104) (.tmp 105) rfl w7.heap.size rfl (Blk.new _ _ _) (.slice (some ⟨b, o, none⟩) N cap) l rfl HL.out (him.steps ((Below.refl _ _).alloc (Nat.le_refl _) _)) (by omega) (by omega) (fun bm capm curm wm hgm hbm hcm htm grm => ?_); generalize hZ : @wpList = Z) | go_values | go_skip | go_guarded | go_step | go_upon)
        have sm : Steps w7 wm := ((Below.refl _ _).alloc (Nat.le_refl _) _).grown grm (by rw [World.size_alloc]; omega) (fun x hx => by cases hx; exact Nat.le_refl _)
        have cm : wm.cell? ⟨bm, k, none⟩ = some (.int .i64 (l.getD k 0)) := (hbm.cell k).trans (cur_get HL.out htm hkN)
        have ffm := hbm.fr
        subst hZ
        repeat' (first | (with_reducible show wpList _ _ _ (⟨some 110, _, _, _, _, _⟩ :: _) _ _; generalize hZ : @wpList = Z) | go_values | go_skip | go_guarded | go_step | go_upon)
        have hzm := hbm.set_ k (.int .i64 0)
        have hym := cur_set htm k 0
        have sxm : Steps w7 (wm.setCell ⟨bm, k, none⟩ (.int .i64 0)) := Below.setCell (p := ⟨bm, k, none⟩) sm hgm _
        clear cm ffm hbm htm sm grm him
        generalize wm.setCell ⟨bm, k, none⟩ (.int .i64 0) = wx at *
        generalize curm.setIfInBounds k (.int .i64 0) = CM at *
        have Bm : Steps w wx := below_steps B (Nat.le_refl _) sxm
        subst hZ
        have hiq : IntsR wx (.slice (some ⟨b, o, none⟩) N cap) l := by rw [← HL.out]; exact HI.out.steps Bm
        repeat' (first | ((with_reducible show wpList _ _ _ (⟨some 112, _, _, _, _, _⟩ :: _) _ _); refine app_copyI rfl (.tmp 110) (.tmp 111) rfl wx.heap.size rfl (Blk.new _ _ _) (.slice (some ⟨b, o, none⟩) N cap) l rfl HL.out (hiq.steps ((Below.refl _ _).alloc (Nat.le_refl _) _)) (by omega) (by omega) (fun bq capq curq wq hgq hbq hcq htq grq => ?_); generalize hZ : @wpList = Z) | go_values | go_skip | go_guarded | go_step | go_upon)
        have sq : Steps wx wq := ((Below.refl _ _).alloc (Nat.le_refl _) _).grown grq (by rw [World.size_alloc]; omega) (fun x hx => by cases hx; exact Nat.le_refl _)
        have cq : wq.cell? ⟨bq, k, none⟩ = some (.int .i64 (l.getD k 0)) := (hbq.cell k).trans (cur_get HL.out htq hkN)
        have ffq := hbq.fr
        subst hZ
        repeat' (first | (with_reducible show wpList _ _ _ (⟨some 117, _, _, _, _, _⟩ :: _) _ _; generalize hZ : @wpList = Z) | go_values | go_skip | go_guarded | go_step | go_upon)
        have hzq := hbq.set_ k (.int .i64 (-1))
        have hyq := cur_set htq k (-1)
        have sxq : Steps wx (wq.setCell ⟨bq, k, none⟩ (.int .i64 (-1))) := Below.setCell (p := ⟨bq, k, none⟩) sq hgq _
        clear cq ffq hbq htq sq grq hiq
        generalize wq.setCell ⟨bq, k, none⟩ (.int .i64 (-1)) = wy at *
        generalize curq.setIfInBounds k (.int .i64 (-1)) = CQ_ at *
        have Bq : Steps w wy := below_steps Bm (Nat.le_refl _) sxq
        subst hZ
        have S2 : Steps w7 wy := below_steps sxm (Nat.le_refl _) sxq
        have ovm : Blk wy bm 3 CM := hzm.steps sxq
        have ovn : Blk wy bq 3 CQ_ := hzq
        have OM2 := fun (w' : World) (st : Steps w w') (hb : Blk w' bm 3 CM) => OM _ w' st (ints_of_cur hb ((List.length_set ..).trans HL.out) hcm hym)
        have OL2 := fun (w' : World) (st : Steps w w') (hb : Blk w' bq 3 CQ_) => OL _ w' st (ints_of_cur hb ((List.length_set ..).trans HL.out) hcq hyq)
        replace ou := ou.steps S2
        replace ova := ova.steps S2
        replace ovb := ovb.steps S2
        replace ovd := ovd.steps S2
        replace ovj := ovj.steps S2
        replace Fx_ := Hid.mk_ (Fx_.out.keeps (Keeps.steps S2))
        replace Fxt := Hid.mk_ (Fxt.out.keeps (Keeps.steps S2))
        replace Fxd := Hid.mk_ (Fxd.out.keeps (Keeps.steps S2))
        replace Fxm := Hid.mk_ (Fxm.out.keeps (Keeps.steps S2))
        replace B := below_steps B (Nat.le_refl _) S2
        replace kk := kk.then_ S2
        clear OM OL sxm sxq S2 Bm Bq hzm hzq hym hyq hgm hgq hcm hcq zz9
        have cu0 := ou.q0
        have cu1 := ou.q1
        have cu2 := ou.q2
        have cu3 := ou.q3
        have cu4 := ou.q4
        have cu5 := ou.q5
        have cu6 := ou.q6
        have cu7 := ou.q7
        have cu8 := ou.q8
        have cu9 := ou.q9
        have cu10 := ou.q10
        have cu11 := ou.q11
        have cu12 := ou.q12
        have cu13 := ou.q13
        have lu := ou.lt
        go_wp2_with fail
        refine (OM2 _ belowB ownK).mono ?_
        rintro e w8 ⟨vxg, rfl, hvxg, hb8⟩
        have st : Steps _ w8 := hb8
        have sk : Below wy.heap.size wy w8 := belowA st
        replace B := below_steps B (Nat.le_refl _) sk
        replace ou := ou.steps sk
        replace ova := ova.steps sk
        replace ovb := ovb.steps sk
        replace ovd := ovd.steps sk
        replace ovj := ovj.steps sk
        replace ovm := ovm.steps sk
        replace ovn := ovn.steps sk
        replace Fx_ := Hid.mk_ (Fx_.out.steps sk)
        replace Fxt := Hid.mk_ (Fxt.out.steps sk)
        replace Fxd := Hid.mk_ (Fxd.out.steps sk)
        replace Fxm := Hid.mk_ (Fxm.out.steps sk)
        replace kk := kk.then_ sk
        clear st sk cu0 cu1 cu2 cu3 cu4 cu5 cu6 cu7 cu8 cu9 cu10 cu11 cu12 cu13 lu
        have cu0 := ou.q0
        have cu1 := ou.q1
        have cu2 := ou.q2
        have cu3 := ou.q3
        have cu4 := ou.q4
        have cu5 := ou.q5
        have cu6 := ou.q6
        have cu7 := ou.q7
        have cu8 := ou.q8
        have cu9 := ou.q9
        have cu10 := ou.q10
        have cu11 := ou.q11
        have cu12 := ou.q12
        have cu13 := ou.q13
        have lu := ou.lt
        obtain ⟨xg1, xg2, xg3, xg4, xg5, xg6, xg7, xg8, rfl⟩ := hvxg.shape
        have Fxg := Hid.mk_ hvxg
        clear hvxg
        have zvn_8 : bq < w8.heap.size := ovn.lt
        have zvb_8 : p12 < w8.heap.size := ovb.lt
        have zvd_8 : p14 < w8.heap.size := ovd.lt
        have zz8 := B.size
        go_wp2_with fail
        refine (OL2 _ belowB ownK).mono ?_
        rintro e w9 ⟨vxi, rfl, hvxi, hb9⟩
        have st : Steps _ w9 := hb9
        have sk : Below w8.heap.size w8 w9 := belowA st
        replace B := below_steps B (Nat.le_refl _) sk
        have ovg : Blk w9 (w8.heap.size) 28 #[.bool xg1, .slice xg2 xg3 xg4, .bool xg5, .slice xg6 xg7 xg8] := Blk.stepsK st
        replace ou := ou.steps sk
        replace ova := ova.steps sk
        replace ovb := ovb.steps sk
        replace ovd := ovd.steps sk
        replace ovj := ovj.steps sk
        replace ovm := ovm.steps sk
        replace ovn := ovn.steps sk
        replace Fx_ := Hid.mk_ (Fx_.out.steps sk)
        replace Fxt := Hid.mk_ (Fxt.out.steps sk)
        replace Fxd := Hid.mk_ (Fxd.out.steps sk)
        replace Fxm := Hid.mk_ (Fxm.out.steps sk)
        replace Fxg := Hid.mk_ (Fxg.out.steps sk)
        replace kk := kk.then_ sk
        clear st sk cu0 cu1 cu2 cu3 cu4 cu5 cu6 cu7 cu8 cu9 cu10 cu11 cu12 cu13 lu
        have cvg0 := ovg.q0
        have cvg1 := ovg.q1
        have cvg2 := ovg.q2
        have cvg3 := ovg.q3
        have lvg := ovg.lt
        obtain ⟨xi1, xi2, xi3, xi4, xi5, xi6, xi7, xi8, rfl⟩ := hvxi.shape
        have Fxi := Hid.mk_ hvxi
        clear hvxi
        have zvg_9 : w8.heap.size < w9.heap.size := ovg.lt
        have zvb_9 : p12 < w9.heap.size := ovb.lt
        have zvd_9 : p14 < w9.heap.size := ovd.lt
        have zz9 := B.size
        go_wp2_with fail
        refine (CP _ _ _ (Fxg.out.keeps keepsB) (Fxi.out.keeps keepsB)).mono ?_
        rintro e w10 ⟨rfl, hb10⟩
        have st : Steps _ w10 := hb10
        have sk : Below w9.heap.size w9 w10 := belowA st
        replace B := below_steps B (Nat.le_refl _) sk
        have ovi : Blk w10 (w9.heap.size) 28 #[.bool xi1, .slice xi2 xi3 xi4, .bool xi5, .slice xi6 xi7 xi8] := Blk.stepsK st
        replace ou := ou.steps sk
        replace ova := ova.steps sk
        replace ovb := ovb.steps sk
        replace ovd := ovd.steps sk
        replace ovj := ovj.steps sk
        replace ovm := ovm.steps sk
        replace ovn := ovn.steps sk
        replace ovg := ovg.steps sk
        replace Fx_ := Hid.mk_ (Fx_.out.steps sk)
        replace Fxt := Hid.mk_ (Fxt.out.steps sk)
        replace Fxd := Hid.mk_ (Fxd.out.steps sk)
        replace Fxm := Hid.mk_ (Fxm.out.steps sk)
        replace Fxg := Hid.mk_ (Fxg.out.steps sk)
        replace Fxi := Hid.mk_ (Fxi.out.steps sk)
        replace kk := kk.then_ sk
        clear st sk cvg0 cvg1 cvg2 cvg3 lvg
        go_wp2_with fail
        refine bodyPost_ret (by simp [results, Tryz.results4, go_sem, ]; rfl) rfl ?_
        exact ⟨rfl, belowB⟩
end Go.Proofs.YtffmbepfbienaaaGreat
