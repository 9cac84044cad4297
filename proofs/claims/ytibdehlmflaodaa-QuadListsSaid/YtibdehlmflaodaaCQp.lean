import Derived.Test.YtibdehlmflaodaaCQj
namespace Go.Proofs.Ytibdehlmflaodaa
open Go.RowKit
def QF (w : World) (cs : Array Value) (k : Nat → Int) (r : Nat → Rat) : Prop := cs.size = 20 ∧ cs.all (·.oneCell') = true ∧ (∀ i, i < 4 → cs[i]? = some (.int .i64 (k i))) ∧
  ∀ i, i < 4 → ∃ a1 a2 a3 a4 a5 a6 a7 a8, cs[4 + i * 4]? = some (.bool a1) ∧ cs[4 + i * 4 + 1]? = some (.slice a2 a3 a4) ∧ cs[4 + i * 4 + 2]? = some (.bool a5) ∧ cs[4 + i * 4 + 3]? = some (.slice a6 a7 a8) ∧ FR w (.agg #[.bool a1, .slice a2 a3 a4, .bool a5, .slice a6 a7 a8]) (r i)
theorem QF.keeps {w w' : World} {cs : Array Value} {k : Nat → Int} {r : Nat → Rat} (h : QF w cs k r) (kp : Keeps w w') : QF w' cs k r := by
  obtain ⟨h1, h2, h3, h4⟩ := h
  refine ⟨h1, h2, h3, fun i hi => ?_⟩
  obtain ⟨a1, a2, a3, a4, a5, a6, a7, a8, c0, c1, c2, c3, f⟩ := h4 i hi
  exact ⟨a1, a2, a3, a4, a5, a6, a7, a8, c0, c1, c2, c3, f.keeps kp⟩
theorem QF.steps {w w' : World} {cs : Array Value} {k : Nat → Int} {r : Nat → Rat} (h : QF w cs k r) (s : Steps w w') : QF w' cs k r := h.keeps (Keeps.steps s)
set_option maxHeartbeats 6400000 in
set_option maxRecDepth 1000000 in
theorem rqsum {CA : Array Value} {k : Nat → Int} {r : Nat → Rat} (w : World) (h : QF w CA k r) (s0 : sz (r 0) 2) (s2 : sz (r 2) 2) :
    Calls Try.prog 91 #[.agg CA] w fun e w' => ∃ v, e = .returned v ∧ FR w' v (r 0 + r 2) ∧ Steps w w' := by
  obtain ⟨-, -, -, hf⟩ := h
  obtain ⟨a1, a2, a3, a4, a5, a6, a7, a8, c4, c5, c6, c7, fa⟩ := hf 0 (by omega)
  obtain ⟨b1, b2, b3, b4, b5, b6, b7, b8, c12, c13, c14, c15, fb⟩ := hf 2 (by omega)
  replace c4 : CA[4]? = _ := c4
  replace c5 : CA[5]? = _ := c5
  replace c6 : CA[6]? = _ := c6
  replace c7 : CA[7]? = _ := c7
  replace c12 : CA[12]? = _ := c12
  replace c13 : CA[13]? = _ := c13
  replace c14 : CA[14]? = _ := c14
  replace c15 : CA[15]? = _ := c15
  have ad := fun w' (hs : Steps w w') => rAddQ w' (fa.keeps (Keeps.steps hs)) (fb.keeps (Keeps.steps hs)) s0 s2 (by omega)
  clear hf fa fb s0 s2
  go_enter Try.func91, Try.ntmps91
  go_wp2_with fail
  refine (ad _ belowB).mono ?_
  rintro e w1 ⟨v, rfl, hv, hs⟩
  obtain ⟨p1, p2, p3, p4, p5, p6, p7, p8, rfl⟩ := hv.shape
  have B : Below w.heap.size w w1 := belowA hs
  have or : Blk w1 (w.heap.size + 1) 28 #[.bool false, .slice none 0 0, .bool false, .slice none 0 0] := Blk.stepsK hs
  have zz := B.size
  clear hs ad c4 c5 c6 c7 c12 c13 c14 c15
  have lr := or.lt
  have fr := or.fr
  have cr0 := or.q0
  have cr1 := or.q1
  have cr2 := or.q2
  have cr3 := or.q3
  dsimp only
  go_wp2_with fail
  refine bodyPost_ret (by simp [results, Try.results91, go_sem, lr, fr, cr0, cr1, cr2, cr3]; rfl) rfl ?_
  exact ⟨_, rfl, hv.keeps keepsB, belowB⟩
theorem orI_stay {e : Nat → Int} {d : Nat → Int} (h : ∀ n, n < 8 → e (n + 1) = orI (e n) (d n)) (n : Nat) (hn : e n ≠ 0) (m : Nat) (hm : n ≤ m) (h8 : m ≤ 8) : e m = e n := by
  induction m with
  | zero => obtain rfl : n = 0 := by omega
            rfl
  | succ m ih =>
    rcases Nat.lt_or_ge m n with g | g
    · obtain rfl : n = m + 1 := by omega
      rfl
    · rw [h m (by omega), ih g (by omega)]; unfold orI; rw [if_neg hn]
set_option maxHeartbeats 6400000 in
set_option maxRecDepth 1000000 in
theorem rbefore {CA CB : Array Value} {k l : Nat → Int} {r s : Nat → Rat} {e : Nat → Int} (w : World) (ha : QF w CA k r) (hb : QF w CB l s) (sr : ∀ i, i < 4 → sz (r i) 2) (ss : ∀ i, i < 4 → sz (s i) 2) (sa2 : sz (r 0 + r 2) 9) (sb2 : sz (s 0 + s 2) 9)
    (hba : ∀ i, i < 4 → 0 ≤ k i ∧ k i ≤ 1000000) (hbb : ∀ i, i < 4 → 0 ≤ l i ∧ l i ≤ 1000000)
    (h0 : e 0 = cmpQ (r 0 + r 2) (s 0 + s 2)) (h1 : ∀ i, i < 4 → e (i + 1) = orI (e i) (cmpQ (r i) (s i))) (h2 : ∀ i, i < 4 → e (4 + i + 1) = orI (e (4 + i)) (k i - l i)) :
    Calls Try.prog 61 #[.agg CA, .agg CB] w fun x w' => x = .returned (.bool (decide (e 8 < 0))) ∧ Steps w w' := by
  have hst : ∀ n, e n ≠ 0 → ∀ m, n ≤ m → m ≤ 8 → e m = e n := orI_stay (d := fun n => if n < 4 then cmpQ (r n) (s n) else k (n - 4) - l (n - 4)) (fun n hn => by
    by_cases g : n < 4
    · rw [if_pos g]; exact h1 n g
    · rw [if_neg g]
      have := h2 (n - 4) (by omega)
      rwa [show 4 + (n - 4) = n by omega] at this)
  have sa := fun w' (hs : Steps w w') => rqsum w' (ha.steps hs) (sr 0 (by omega)) (sr 2 (by omega))
  have sb := fun w' (hs : Steps w w') => rqsum w' (hb.steps hs) (ss 0 (by omega)) (ss 2 (by omega))
  obtain ⟨c, hc⟩ : ∃ z, e 0 = z := ⟨_, rfl⟩
  have cm : ∀ w' u v, FR w' u (r 0 + r 2) → FR w' v (s 0 + s 2) → Calls Try.prog 68 #[u, v] w' fun x w2 => x = .returned (.tuple #[.int .i64 c, .int .i64 0]) ∧ Steps w' w2 := fun w' u v f g => by rw [← hc, h0]; exact rCmpQ w' f g sa2 sb2 (by omega)
  have hca := ha.1
  have hcb := hb.1
  have hka := ha.2.2.1
  have hkb := hb.2.2.1
  have HQA := Hid.mk_ ha
  have HQB := Hid.mk_ hb
  clear ha hb h0
  have HC := Hid.mk_ hc
  clear hc
  have ia : (Try.prog.info? 31).map (·.size) = some CA.size := by rw [hca]; kernel_rfl
  have ib : (Try.prog.info? 31).map (·.size) = some CB.size := by rw [hcb]; kernel_rfl
  go_enter Try.func61, Try.ntmps61
  go_wp2_with fail
  refine Reg.wp_chain (fun D v W => Below w.heap.size w W ∧ Keeps w W ∧ Blk W (w.heap.size) 31 CA ∧ Blk W (w.heap.size + 1) 31 CB) (Reg.inl [1, 3, 4]) (Reg.gv [(1, IsFr), (3, IsFr), (4, fun z_ => z_ = .tuple #[.int .i64 c, .int .i64 0])]) (gw [(1, GFr (r 0 + r 2)), (3, GFr (s 0 + s 2))]) (fun _ => Keeps) (fun _ _ => False) (Reg.pl [(4, [(1, some 11), (3, some 13)]), (10, [(1, some 11), (3, some 13)])]) (Reg.pl [])
    (by kernel_rfl) (by kernel_rfl) (by kernel_rfl) (Reg.gv_some _ (by intro p hp; simp only [List.mem_cons, List.not_mem_nil, or_false] at hp; rcases hp with rfl | rfl | rfl <;> first | exact ⟨_, rfl⟩ | exact ⟨_, none, 0, 0, rfl⟩ | exact ⟨_, false, none, 0, 0, rfl⟩ | exact ⟨_, false, none, 0, 0, false, none, 0, 0, rfl⟩)) (fun _ => ⟨belowB, keepsB, ownK, ownK⟩) (fun _ _ _ _ _ h => h) (fun _ _ _ _ _ _ _ _ _ _ _ hk hg => gw_keeps _ (by intro p hp; simp only [List.mem_cons, List.not_mem_nil, or_false] at hp; rcases hp with rfl | rfl <;> first | exact GFr.keeps | exact GFrE.keeps | exact GNu.keeps | exact GNuE.keeps) hk hg) (fun _ _ _ _ h => h.elim) (fun ops' Q' hops hQ => ?_)
  apply Reg.RC_pure (hc := rfl) (hst := rfl) (hw := rfl) (t := 10) (hd := rfl) (ht := Nat.le_of_ble_eq_true rfl)
  · intro D v W hc hj hf K' hK'
    obtain ⟨j0, jk, oa, ob⟩ := hj
    exact wp_load_row 31 (.tmp 2) rfl (w.heap.size) rfl 31 CA (0, 0) _ oa Try.underlying31 rfl ia hK'.out
  · rfl
  refine Reg.RC_call rfl (by intro t ht; cases ht; exact Nat.le_of_ble_eq_true rfl) rfl (fun D v W hc hj hf K' hK' => ?_) ?_
  · obtain ⟨j0, jk, oa, ob⟩ := hj
    go_step
    refine (sa _ j0).mono ?_
    rintro e W2 ⟨v, rfl, hv, hs⟩
    exact hK'.out _ W2 (Keeps.steps hs) ⟨below_steps j0 (Nat.le_refl _) hs, jk.then_ hs, oa.steps hs, ob.steps hs⟩ hv hv.shape
  rintro _ ⟨u1, u2, u3, u4, u5, u6, u7, u8, rfl⟩
  refine Reg.RC_at (b := ⟨#[_,_,_,_,_,_,_,_,_,_,_,_,_,_,_,_,_,_,_,_,_,_,_,_,_,_,_,_,_,_,_,_,_,_,_,_,_,_,_,_,_,_,_,_,_,_,_,_,_,_,_,_,_,_,_,_], _⟩) rfl ?_
  apply Reg.RC_pure (hc := rfl) (hst := rfl) (hw := rfl) (t := 12) (hd := rfl) (ht := Nat.le_of_ble_eq_true rfl)
  · intro D v W hc hj hf K' hK'
    obtain ⟨j0, jk, oa, ob⟩ := hj
    exact wp_load_row 31 (.tmp 3) rfl (w.heap.size + 1) rfl 31 CB (0, 0) _ ob Try.underlying31 rfl ib hK'.out
  · rfl
  refine Reg.RC_call rfl (by intro t ht; cases ht; exact Nat.le_of_ble_eq_true rfl) rfl (fun D v W hc hj hf K' hK' => ?_) ?_
  · obtain ⟨j0, jk, oa, ob⟩ := hj
    go_step
    refine (sb _ j0).mono ?_
    rintro e W2 ⟨v, rfl, hv, hs⟩
    exact hK'.out _ W2 (Keeps.steps hs) ⟨below_steps j0 (Nat.le_refl _) hs, jk.then_ hs, oa.steps hs, ob.steps hs⟩ hv hv.shape
  rintro _ ⟨v1, v2, v3, v4, v5, v6, v7, v8, rfl⟩
  refine Reg.RC_at (b := ⟨#[_,_,_,_,_,_,_,_,_,_,_,_,_,_,_,_,_,_,_,_,_,_,_,_,_,_,_,_,_,_,_,_,_,_,_,_,_,_,_,_,_,_,_,_,_,_,_,_,_,_,_,_,_,_,_,_], _⟩) rfl ?_
  refine Reg.RC_call rfl (by intro t ht; cases ht; exact Nat.le_of_ble_eq_true rfl) rfl (fun D v W hc hj hf K' hK' => ?_) ?_
  · obtain ⟨j0, jk, oa, ob⟩ := hj
    have g1 := (hf (1, some 11) (.head _) rfl).2.2
    have g1 : FR W (.agg #[.bool u1, .slice u2 u3 u4, .bool u5, .slice u6 u7 u8]) (r 0 + r 2) := g1
    have g3 := (hf (3, some 13) (.tail _ (.head _)) rfl).2.2
    have g3 : FR W (.agg #[.bool v1, .slice v2 v3 v4, .bool v5, .slice v6 v7 v8]) (s 0 + s 2) := g3
    go_step
    refine (cm _ _ _ g1 g3).mono ?_
    rintro e W2 ⟨rfl, hs⟩
    exact hK'.out _ W2 (Keeps.steps hs) ⟨below_steps j0 (Nat.le_refl _) hs, jk.then_ hs, oa.steps hs, ob.steps hs⟩ trivial rfl
  rintro _ rfl
  refine Reg.RC_at (b := ⟨#[_,_,_,_,_,_,_,_,_,_,_,_,_,_,_,_,_,_,_,_,_,_,_,_,_,_,_,_,_,_,_,_,_,_,_,_,_,_,_,_,_,_,_,_,_,_,_,_,_,_,_,_,_,_,_,_], _⟩) rfl ?_
  apply Reg.RC_pure (hc := rfl) (hst := rfl) (hw := rfl) (t := 9) (hd := rfl) (ht := Nat.le_of_ble_eq_true rfl)
  · intro D v W hc hj hf K' hK'
    go_step
    exact hK'.out
  · rfl
  apply Reg.RC_pure (hc := rfl) (hst := rfl) (hw := rfl) (t := 15) (hd := rfl) (ht := Nat.le_of_ble_eq_true rfl)
  · intro D v W hc hj hf K' hK'
    go_step
    exact hK'.out
  · rfl
  apply Reg.RC_pure (hc := rfl) (hst := rfl) (hw := rfl) (t := 16) (hd := rfl) (ht := Nat.le_of_ble_eq_true rfl)
  · intro D v W hc hj hf K' hK'
    go_step
    exact hK'.out
  · rfl
  apply Reg.RC_pure (hc := rfl) (hst := rfl) (hw := rfl) (t := 5) (hd := rfl) (ht := Nat.le_of_ble_eq_true rfl)
  · intro D v W hc hj hf K' hK'
    go_step
    exact hK'.out
  · rfl
  apply Reg.RC_pure (hc := rfl) (hst := rfl) (hw := rfl) (t := 6) (hd := rfl) (ht := Nat.le_of_ble_eq_true rfl)
  · intro D v W hc hj hf K' hK'
    go_step
    exact hK'.out
  · rfl
  refine Reg.RC_end (fun D v w9 hd hj hf => ?_)
  obtain ⟨j0, jk, oa, ob⟩ := hj
  have g1 : FR w9 (.agg #[.bool u1, .slice u2 u3 u4, .bool u5, .slice u6 u7 u8]) (r 0 + r 2) := (hf (1, some 11) (.head _) rfl).2.2
  have g3 : FR w9 (.agg #[.bool v1, .slice v2 v3 v4, .bool v5, .slice v6 v7 v8]) (s 0 + s 2) := (hf (3, some 13) (.tail _ (.head _)) rfl).2.2
  have B := j0
  clear hd hf j0
  refine hQ _ _ ?_
  clear hQ hops Q' ops'
  clear sa sb cm g1 g3 jk
  repeat' (first | go_values | go_skip | go_guarded | go_step | go_upon)
  go_wp2_with fail
  go_loopw [5, 7] (fun cc kk wr => ∃ i : Nat, i ≤ 4 ∧ kk = .int .i64 i ∧ cc = .int .i64 (e i) ∧ Blk wr (w.heap.size) 31 CA ∧ Blk wr (w.heap.size + 1) 31 CB ∧ Below w.heap.size w wr) (fun _ kk _ => 4 - (intOf kk).toNat)
  case atStart => exact ⟨0, by omega, rfl, by rw [HC.out], ownK, ownK, belowB⟩
  case round =>
    obtain ⟨i, hi, rfl, rfl, za, zb, zB⟩ := hrel
    clear oa ob B
    have oa := za
    have ob := zb
    have B := zB
    clear za zb zB
    rcases Nat.lt_or_ge i 4 with i4 | i4
    · have hlt : decide ((i : Int) < 4) = true := decide_eq_true (by omega)
      have hn := h1 i i4
      have hs := hst i
      obtain ⟨c, hc⟩ : ∃ z, e i = z := ⟨_, rfl⟩
      rw [hc] at hn hs ⊢
      by_cases c0 : c = 0
      · subst c0
        obtain ⟨a1, a2, a3, a4, a5, a6, a7, a8, ha0, ha1, ha2, ha3, fa⟩ := HQA.out.2.2.2 i i4
        obtain ⟨b1, b2, b3, b4, b5, b6, b7, b8, hb0, hb1, hb2, hb3, fb⟩ := HQB.out.2.2.2 i i4
        obtain ⟨d, hd⟩ : ∃ z, cmpQ (r i) (s i) = z := ⟨_, rfl⟩
        rw [hd] at hn
        have ci : ∀ w', Steps w w' → Calls Try.prog 68 #[.agg #[.bool a1, .slice a2 a3 a4, .bool a5, .slice a6 a7 a8], .agg #[.bool b1, .slice b2 b3 b4, .bool b5, .slice b6 b7 b8]] w' fun x w2 => x = .returned (.tuple #[.int .i64 d, .int .i64 0]) ∧ Steps w' w2 := fun w' hs => by rw [← hd]; exact rCmpQ w' (fa.keeps (Keeps.steps hs)) (fb.keeps (Keeps.steps hs)) (sr i i4) (ss i i4) (by omega)
        have HN : Hid (e (i + 1) = d) := by rw [show orI 0 d = d from rfl] at hn; exact hn
        clear hn hs hd fa fb hc
        go_wp2_with fail
        refine Reg.wp_chain (fun D v W => Below w.heap.size w W ∧ Blk W (w.heap.size) 31 CA ∧ Blk W (w.heap.size + 1) 31 CB) (Reg.inl [8]) (Reg.gv [(8, fun z_ => z_ = .tuple #[.int .i64 d, .int .i64 0])]) Reg.None_ (fun _ => Reg.Any) (fun _ _ => False) (Reg.pl []) (Reg.pl [])
          (by kernel_rfl) (by kernel_rfl) (by kernel_rfl) (Reg.gv_some _ (by intro p hp; simp only [List.mem_cons, List.not_mem_nil, or_false] at hp; rcases hp with rfl <;> first | exact ⟨_, rfl⟩ | exact ⟨_, none, 0, 0, rfl⟩ | exact ⟨_, false, none, 0, 0, rfl⟩ | exact ⟨_, false, none, 0, 0, false, none, 0, 0, rfl⟩)) (fun _ => ⟨belowB, ownK, ownK⟩) (fun _ _ _ _ _ h => h) (fun _ _ _ _ _ _ _ _ _ _ _ _ _ => Reg.none_) (fun _ _ _ _ h => h.elim) (fun ops' Q' hops hQ => ?_)
        apply Reg.RC_pure (hc := rfl) (hst := rfl) (hw := rfl) (t := 26) (hd := rfl) (ht := Nat.le_of_ble_eq_true rfl)
        · intro D v W hc hj hf K' hK'
          go_step
          exact hK'.out
        · rfl
        apply Reg.RC_pure (hc := rfl) (hst := rfl) (hw := rfl) (t := 27) (hd := rfl) (ht := Nat.le_of_ble_eq_true rfl)
        · intro D v W hc hj hf K' hK'
          go_step
          exact hK'.out
        · rfl
        apply Reg.RC_pure (hc := rfl) (hst := rfl) (hw := rfl) (t := 28) (hd := rfl) (ht := Nat.le_of_ble_eq_true rfl)
        · intro D v W hc hj hf K' hK'
          go_step
          exact hK'.out
        · rfl
        apply Reg.RC_pure (hc := rfl) (hst := rfl) (hw := rfl) (t := 29) (hd := rfl) (ht := Nat.le_of_ble_eq_true rfl)
        · intro D v W hc hj hf K' hK'
          obtain ⟨j0, oa, ob⟩ := hj
          have c0 : World.cell? W ⟨w.heap.size, 4 + i * 4, none⟩ = _ := oa.c _ ha0
          have c1 : World.cell? W ⟨w.heap.size, 4 + i * 4 + 1, none⟩ = _ := oa.c _ ha1
          have c2 : World.cell? W ⟨w.heap.size, 4 + i * 4 + 2, none⟩ = _ := oa.c _ ha2
          have c3 : World.cell? W ⟨w.heap.size, 4 + i * 4 + 3, none⟩ = _ := oa.c _ ha3
          go_step
          exact hK'.out
        · rfl
        apply Reg.RC_pure (hc := rfl) (hst := rfl) (hw := rfl) (t := 30) (hd := rfl) (ht := Nat.le_of_ble_eq_true rfl)
        · intro D v W hc hj hf K' hK'
          go_step
          exact hK'.out
        · rfl
        apply Reg.RC_pure (hc := rfl) (hst := rfl) (hw := rfl) (t := 31) (hd := rfl) (ht := Nat.le_of_ble_eq_true rfl)
        · intro D v W hc hj hf K' hK'
          go_step
          exact hK'.out
        · rfl
        apply Reg.RC_pure (hc := rfl) (hst := rfl) (hw := rfl) (t := 32) (hd := rfl) (ht := Nat.le_of_ble_eq_true rfl)
        · intro D v W hc hj hf K' hK'
          go_step
          exact hK'.out
        · rfl
        apply Reg.RC_pure (hc := rfl) (hst := rfl) (hw := rfl) (t := 33) (hd := rfl) (ht := Nat.le_of_ble_eq_true rfl)
        · intro D v W hc hj hf K' hK'
          obtain ⟨j0, oa, ob⟩ := hj
          have c0 : World.cell? W ⟨w.heap.size + 1, 4 + i * 4, none⟩ = _ := ob.c _ hb0
          have c1 : World.cell? W ⟨w.heap.size + 1, 4 + i * 4 + 1, none⟩ = _ := ob.c _ hb1
          have c2 : World.cell? W ⟨w.heap.size + 1, 4 + i * 4 + 2, none⟩ = _ := ob.c _ hb2
          have c3 : World.cell? W ⟨w.heap.size + 1, 4 + i * 4 + 3, none⟩ = _ := ob.c _ hb3
          go_step
          exact hK'.out
        · rfl
        refine Reg.RC_call rfl (by intro t ht; cases ht; exact Nat.le_of_ble_eq_true rfl) rfl (fun D v W hc hj hf K' hK' => ?_) ?_
        · obtain ⟨j0, oa, ob⟩ := hj
          go_step
          refine (ci _ j0).mono ?_
          rintro e W2 ⟨rfl, hs⟩
          exact hK'.out _ W2 Reg.any ⟨below_steps j0 (Nat.le_refl _) hs, oa.steps hs, ob.steps hs⟩ trivial rfl
        rintro _ rfl
        refine Reg.RC_at (b := ⟨#[_,_,_,_,_,_,_,_,_,_,_,_,_,_,_,_,_,_,_,_,_,_,_,_,_,_,_,_,_,_,_,_,_,_,_,_,_,_,_,_,_,_,_,_,_,_,_,_,_,_,_,_,_,_,_,_], _⟩) rfl ?_
        apply Reg.RC_pure (hc := rfl) (hst := rfl) (hw := rfl) (t := 25) (hd := rfl) (ht := Nat.le_of_ble_eq_true rfl)
        · intro D v W hc hj hf K' hK'
          go_step
          exact hK'.out
        · rfl
        apply Reg.RC_pure (hc := rfl) (hst := rfl) (hw := rfl) (t := 35) (hd := rfl) (ht := Nat.le_of_ble_eq_true rfl)
        · intro D v W hc hj hf K' hK'
          go_step
          exact hK'.out
        · rfl
        apply Reg.RC_pure (hc := rfl) (hst := rfl) (hw := rfl) (t := 36) (hd := rfl) (ht := Nat.le_of_ble_eq_true rfl)
        · intro D v W hc hj hf K' hK'
          go_step
          exact hK'.out
        · rfl
        apply Reg.RC_pure (hc := rfl) (hst := rfl) (hw := rfl) (t := 5) (hd := rfl) (ht := Nat.le_of_ble_eq_true rfl)
        · intro D v W hc hj hf K' hK'
          go_step
          exact hK'.out
        · rfl
        refine Reg.RC_end (fun D v w9 hd hj hf => ?_)
        obtain ⟨j0, oa, ob⟩ := hj
        have B := j0
        clear hd hf j0
        refine hQ _ _ ?_
        clear hQ hops Q' ops'
        repeat' (first | go_values | go_skip | go_guarded | go_step | go_upon)
        go_roundw
        case rel => exact ⟨i + 1, by omega, by go_num, by rw [HN.out], ownK, ownK, belowB⟩
        case measure => simp [intOf]; omega
      · have hne : (c == 0) = false := by simpa using c0
        have HE4 : Hid (e 4 = c) := hs c0 4 (by omega) (by omega)
        clear hn hs hc hi
        go_wp2_with fail
        go_loopw [5, 8] (fun cc kk wr => ∃ i : Nat, i ≤ 4 ∧ kk = .int .i64 i ∧ cc = .int .i64 (e (4 + i)) ∧ Blk wr (w.heap.size) 31 CA ∧ Blk wr (w.heap.size + 1) 31 CB ∧ Below w.heap.size w wr) (fun _ kk _ => 4 - (intOf kk).toNat)
        case atStart => exact ⟨0, by omega, rfl, by rw [show 4 + 0 = 4 from rfl, HE4.out], ownK, ownK, belowB⟩
        case round =>
          obtain ⟨i, hi, rfl, rfl, za, zb, zB⟩ := hrel
          clear oa ob B
          have oa := za
          have ob := zb
          have B := zB
          clear za zb zB
          rcases Nat.lt_or_ge i 4 with i4 | i4
          · have hlt : decide ((i : Int) < 4) = true := decide_eq_true (by omega)
            have hn := h2 i i4
            have hs := hst (4 + i)
            obtain ⟨c, hc⟩ : ∃ z, e (4 + i) = z := ⟨_, rfl⟩
            rw [hc] at hn hs ⊢
            by_cases c0 : c = 0
            · subst c0
              have ha := hka i i4
              have hb := hkb i i4
              have ba := hba i i4
              have bb := hbb i i4
              obtain ⟨x, hx⟩ : ∃ z, k i = z := ⟨_, rfl⟩
              obtain ⟨y, hy⟩ : ∃ z, l i = z := ⟨_, rfl⟩
              rw [hx] at ha ba hn
              rw [hy] at hb bb hn
              have HN : Hid (e (4 + i + 1) = x - y) := by rw [show orI 0 (x - y) = x - y from rfl] at hn; exact hn
              clear hn hs hx hy hc
              go_wp2_with fail
              refine Reg.wp_chain (fun D v W => Below w.heap.size w W ∧ Blk W (w.heap.size) 31 CA ∧ Blk W (w.heap.size + 1) 31 CB) (Reg.inl []) (Reg.gv []) Reg.None_ (fun _ => Reg.Any) (fun _ _ => False) (Reg.pl []) (Reg.pl [])
                (by kernel_rfl) (by kernel_rfl) (by kernel_rfl) (Reg.gv_some _ (by intro p hp; cases hp)) (fun _ => ⟨belowB, ownK, ownK⟩) (fun _ _ _ _ _ h => h) (fun _ _ _ _ _ _ _ _ _ _ _ _ _ => Reg.none_) (fun _ _ _ _ h => h.elim) (fun ops' Q' hops hQ => ?_)
              apply Reg.RC_pure (hc := rfl) (hst := rfl) (hw := rfl) (t := 45) (hd := rfl) (ht := Nat.le_of_ble_eq_true rfl)
              · intro D v W hc hj hf K' hK'
                go_step
                exact hK'.out
              · rfl
              apply Reg.RC_pure (hc := rfl) (hst := rfl) (hw := rfl) (t := 46) (hd := rfl) (ht := Nat.le_of_ble_eq_true rfl)
              · intro D v W hc hj hf K' hK'
                go_step
                exact hK'.out
              · rfl
              apply Reg.RC_pure (hc := rfl) (hst := rfl) (hw := rfl) (t := 47) (hd := rfl) (ht := Nat.le_of_ble_eq_true rfl)
              · intro D v W hc hj hf K' hK'
                go_step
                exact hK'.out
              · rfl
              apply Reg.RC_pure (hc := rfl) (hst := rfl) (hw := rfl) (t := 48) (hd := rfl) (ht := Nat.le_of_ble_eq_true rfl)
              · intro D v W hc hj hf K' hK'
                obtain ⟨j0, oa, ob⟩ := hj
                have c0 : World.cell? W ⟨w.heap.size, i, none⟩ = some (.int .i64 x) := oa.c _ ha
                go_step
                exact hK'.out
              · rfl
              apply Reg.RC_pure (hc := rfl) (hst := rfl) (hw := rfl) (t := 49) (hd := rfl) (ht := Nat.le_of_ble_eq_true rfl)
              · intro D v W hc hj hf K' hK'
                go_step
                exact hK'.out
              · rfl
              apply Reg.RC_pure (hc := rfl) (hst := rfl) (hw := rfl) (t := 50) (hd := rfl) (ht := Nat.le_of_ble_eq_true rfl)
              · intro D v W hc hj hf K' hK'
                go_step
                exact hK'.out
              · rfl
              apply Reg.RC_pure (hc := rfl) (hst := rfl) (hw := rfl) (t := 51) (hd := rfl) (ht := Nat.le_of_ble_eq_true rfl)
              · intro D v W hc hj hf K' hK'
                go_step
                exact hK'.out
              · rfl
              apply Reg.RC_pure (hc := rfl) (hst := rfl) (hw := rfl) (t := 52) (hd := rfl) (ht := Nat.le_of_ble_eq_true rfl)
              · intro D v W hc hj hf K' hK'
                obtain ⟨j0, oa, ob⟩ := hj
                have c0 : World.cell? W ⟨w.heap.size + 1, i, none⟩ = some (.int .i64 y) := ob.c _ hb
                go_step
                exact hK'.out
              · rfl
              apply Reg.RC_pure (hc := rfl) (hst := rfl) (hw := rfl) (t := 53) (hd := rfl) (ht := Nat.le_of_ble_eq_true rfl)
              · intro D v W hc hj hf K' hK'
                go_step
                exact hK'.out
              · rfl
              apply Reg.RC_pure (hc := rfl) (hst := rfl) (hw := rfl) (t := 5) (hd := rfl) (ht := Nat.le_of_ble_eq_true rfl)
              · intro D v W hc hj hf K' hK'
                go_step
                exact hK'.out
              · rfl
              refine Reg.RC_end (fun D v w9 hd hj hf => ?_)
              obtain ⟨j0, oa, ob⟩ := hj
              have B := j0
              clear hd hf j0
              refine hQ _ _ ?_
              clear hQ hops Q' ops'
              repeat' (first | go_values | go_skip | go_guarded | go_step | go_upon)
              go_roundw
              case rel => exact ⟨i + 1, by omega, by go_num, by rw [show 4 + (i + 1) = 4 + i + 1 from by omega, HN.out], ownK, ownK, belowB⟩
              case measure => simp [intOf]; omega
            · have hne : (c == 0) = false := by simpa using c0
              have HE : Hid (e 8 = c) := hs c0 8 (by omega) (by omega)
              clear hn hs hc
              go_wp2
              go_returns
              exact ⟨retB (by rw [HE.out]), belowB⟩
          · obtain rfl : i = 4 := by omega
            rw [show ((4 : Nat) : Int) = 4 from rfl]
            go_wp2
            go_returns
            exact ⟨rfl, belowB⟩
    · obtain rfl : i = 4 := by omega
      rw [show ((4 : Nat) : Int) = 4 from rfl]
      go_wp2_with fail
      go_loopw [5, 8] (fun cc kk wr => ∃ i : Nat, i ≤ 4 ∧ kk = .int .i64 i ∧ cc = .int .i64 (e (4 + i)) ∧ Blk wr (w.heap.size) 31 CA ∧ Blk wr (w.heap.size + 1) 31 CB ∧ Below w.heap.size w wr) (fun _ kk _ => 4 - (intOf kk).toNat)
      case atStart => exact ⟨0, by omega, rfl, rfl, ownK, ownK, belowB⟩
      case round =>
        obtain ⟨i, hi, rfl, rfl, za, zb, zB⟩ := hrel
        clear oa ob B
        have oa := za
        have ob := zb
        have B := zB
        clear za zb zB
        rcases Nat.lt_or_ge i 4 with i4 | i4
        · have hlt : decide ((i : Int) < 4) = true := decide_eq_true (by omega)
          have hn := h2 i i4
          have hs := hst (4 + i)
          obtain ⟨c, hc⟩ : ∃ z, e (4 + i) = z := ⟨_, rfl⟩
          rw [hc] at hn hs ⊢
          by_cases c0 : c = 0
          · subst c0
            have ha := hka i i4
            have hb := hkb i i4
            have ba := hba i i4
            have bb := hbb i i4
            obtain ⟨x, hx⟩ : ∃ z, k i = z := ⟨_, rfl⟩
            obtain ⟨y, hy⟩ : ∃ z, l i = z := ⟨_, rfl⟩
            rw [hx] at ha ba hn
            rw [hy] at hb bb hn
            have HN : Hid (e (4 + i + 1) = x - y) := by rw [show orI 0 (x - y) = x - y from rfl] at hn; exact hn
            clear hn hs hx hy hc
            go_wp2_with fail
            refine Reg.wp_chain (fun D v W => Below w.heap.size w W ∧ Blk W (w.heap.size) 31 CA ∧ Blk W (w.heap.size + 1) 31 CB) (Reg.inl []) (Reg.gv []) Reg.None_ (fun _ => Reg.Any) (fun _ _ => False) (Reg.pl []) (Reg.pl [])
              (by kernel_rfl) (by kernel_rfl) (by kernel_rfl) (Reg.gv_some _ (by intro p hp; cases hp)) (fun _ => ⟨belowB, ownK, ownK⟩) (fun _ _ _ _ _ h => h) (fun _ _ _ _ _ _ _ _ _ _ _ _ _ => Reg.none_) (fun _ _ _ _ h => h.elim) (fun ops' Q' hops hQ => ?_)
            apply Reg.RC_pure (hc := rfl) (hst := rfl) (hw := rfl) (t := 45) (hd := rfl) (ht := Nat.le_of_ble_eq_true rfl)
            · intro D v W hc hj hf K' hK'
              go_step
              exact hK'.out
            · rfl
            apply Reg.RC_pure (hc := rfl) (hst := rfl) (hw := rfl) (t := 46) (hd := rfl) (ht := Nat.le_of_ble_eq_true rfl)
            · intro D v W hc hj hf K' hK'
              go_step
              exact hK'.out
            · rfl
            apply Reg.RC_pure (hc := rfl) (hst := rfl) (hw := rfl) (t := 47) (hd := rfl) (ht := Nat.le_of_ble_eq_true rfl)
            · intro D v W hc hj hf K' hK'
              go_step
              exact hK'.out
            · rfl
            apply Reg.RC_pure (hc := rfl) (hst := rfl) (hw := rfl) (t := 48) (hd := rfl) (ht := Nat.le_of_ble_eq_true rfl)
            · intro D v W hc hj hf K' hK'
              obtain ⟨j0, oa, ob⟩ := hj
              have c0 : World.cell? W ⟨w.heap.size, i, none⟩ = some (.int .i64 x) := oa.c _ ha
              go_step
              exact hK'.out
            · rfl
            apply Reg.RC_pure (hc := rfl) (hst := rfl) (hw := rfl) (t := 49) (hd := rfl) (ht := Nat.le_of_ble_eq_true rfl)
            · intro D v W hc hj hf K' hK'
              go_step
              exact hK'.out
            · rfl
            apply Reg.RC_pure (hc := rfl) (hst := rfl) (hw := rfl) (t := 50) (hd := rfl) (ht := Nat.le_of_ble_eq_true rfl)
            · intro D v W hc hj hf K' hK'
              go_step
              exact hK'.out
            · rfl
            apply Reg.RC_pure (hc := rfl) (hst := rfl) (hw := rfl) (t := 51) (hd := rfl) (ht := Nat.le_of_ble_eq_true rfl)
            · intro D v W hc hj hf K' hK'
              go_step
              exact hK'.out
            · rfl
            apply Reg.RC_pure (hc := rfl) (hst := rfl) (hw := rfl) (t := 52) (hd := rfl) (ht := Nat.le_of_ble_eq_true rfl)
            · intro D v W hc hj hf K' hK'
              obtain ⟨j0, oa, ob⟩ := hj
              have c0 : World.cell? W ⟨w.heap.size + 1, i, none⟩ = some (.int .i64 y) := ob.c _ hb
              go_step
              exact hK'.out
            · rfl
            apply Reg.RC_pure (hc := rfl) (hst := rfl) (hw := rfl) (t := 53) (hd := rfl) (ht := Nat.le_of_ble_eq_true rfl)
            · intro D v W hc hj hf K' hK'
              go_step
              exact hK'.out
            · rfl
            apply Reg.RC_pure (hc := rfl) (hst := rfl) (hw := rfl) (t := 5) (hd := rfl) (ht := Nat.le_of_ble_eq_true rfl)
            · intro D v W hc hj hf K' hK'
              go_step
              exact hK'.out
            · rfl
            refine Reg.RC_end (fun D v w9 hd hj hf => ?_)
            obtain ⟨j0, oa, ob⟩ := hj
            have B := j0
            clear hd hf j0
            refine hQ _ _ ?_
            clear hQ hops Q' ops'
            repeat' (first | go_values | go_skip | go_guarded | go_step | go_upon)
            go_roundw
            case rel => exact ⟨i + 1, by omega, by go_num, by rw [show 4 + (i + 1) = 4 + i + 1 from by omega, HN.out], ownK, ownK, belowB⟩
            case measure => simp [intOf]; omega
          · have hne : (c == 0) = false := by simpa using c0
            have HE : Hid (e 8 = c) := hs c0 8 (by omega) (by omega)
            clear hn hs hc
            go_wp2
            go_returns
            exact ⟨retB (by rw [HE.out]), belowB⟩
        · obtain rfl : i = 4 := by omega
          rw [show ((4 : Nat) : Int) = 4 from rfl]
          go_wp2
          go_returns
          exact ⟨rfl, belowB⟩
end Go.Proofs.Ytibdehlmflaodaa
