import Derived.Test.YtibdehlmflaodaaCVe
import Derived.Test.YtibdehlmflaodaaCGluQ
namespace Go.Proofs.Ytibdehlmflaodaa
open Go.RowKit
theorem IntsR.at {w : World} {ao : Option Addr} {n cap : Nat} {l : List Int} (h : IntsR w (.slice ao n cap) l) {t : Nat} (ht : t < l.length) : ∃ b o, ao = some ⟨b, o, none⟩ ∧ b < w.heap.size ∧ w.cell? ⟨b, o + t, none⟩ = some (.int .i64 (l.getD t 0)) := by
  obtain ⟨ao', cap', e, _, h2⟩ := h
  injection e with e1 e2 e3
  subst e1
  obtain ⟨b, o, e, hb, hc⟩ := h2 (fun e => by rw [e] at ht; cases ht)
  exact ⟨b, o, e, hb, hc t ht⟩
set_option maxHeartbeats 6400000 in
set_option maxRecDepth 1000000 in
theorem rsameInts {va vb : Value} {l : List Int} (w : World) (h : IntsR w va l) (h' : IntsR w vb l) (hl : l.length ≤ 100000) : Calls Try.prog 18 #[va, vb] w fun e w' => e = .returned (.bool true) ∧ Steps w w' := by
  have HA := Hid.mk_ h
  have HB := Hid.mk_ h'
  obtain ⟨ao, cap, rfl⟩ := h.shape
  obtain ⟨bo, cbp, rfl⟩ := h'.shape
  obtain ⟨n, hn⟩ : ∃ n, l.length = n := ⟨_, rfl⟩
  have HL := Hid.mk_ hn
  rw [hn] at HA HB hl ⊢
  clear h h' hn
  go_enter Try.func18, Try.ntmps18
  go_wp2_with fail
  go_loopw [5] (fun kk wr => ∃ i : Nat, i ≤ n ∧ kk = .int .i64 i ∧ Below w.heap.size w wr) (fun kk _ => n - (intOf kk).toNat)
  case atStart => exact ⟨0, by omega, rfl, belowB⟩
  case round =>
    obtain ⟨i, hi, rfl, B⟩ := hrel
    rcases Nat.lt_or_ge i n with i4 | i4
    · have hlt : decide ((i : Int) < (n : Int)) = true := decide_eq_true (by omega)
      obtain ⟨b, o, rfl, hb, ha⟩ := HA.out.at (t := i) (by have := HL.out; omega)
      obtain ⟨b', o', rfl, hb', ha'⟩ := HB.out.at (t := i) (by have := HL.out; omega)
      obtain ⟨x, hx⟩ : ∃ x, l.getD i 0 = x := ⟨_, rfl⟩
      rw [hx] at ha ha'
      have exx : (x == x) = true := by simp
      clear hx
      repeat' (first | go_values | go_skip | go_guarded | go_step | go_upon)
      refine Reg.wp_chain (fun D v W => Below wr.heap.size wr W ∧ True) (Reg.inl []) (Reg.gv []) Reg.None_ (fun _ => Reg.Any) (fun _ _ => False) (Reg.pl []) (Reg.pl [])
        (by kernel_rfl) (by kernel_rfl) (by kernel_rfl) (Reg.gv_some _ (by intro p hp; cases hp)) (fun _ => ⟨belowB, trivial⟩) (fun _ _ _ _ _ h => h) (fun _ _ _ _ _ _ _ _ _ _ _ _ _ => Reg.none_) (fun _ _ _ _ h => h.elim) (fun ops' Q' hops hQ => ?_)
      apply Reg.RC_pure (hc := rfl) (hst := rfl) (hw := rfl) (t := 17) (hd := rfl) (ht := Nat.le_of_ble_eq_true rfl)
      · intro D v W hc hj hf K' hK'
        go_step
        exact hK'.out
      · rfl
      apply Reg.RC_pure (hc := rfl) (hst := rfl) (hw := rfl) (t := 18) (hd := rfl) (ht := Nat.le_of_ble_eq_true rfl)
      · intro D v W hc hj hf K' hK'
        go_step
        exact hK'.out
      · rfl
      apply Reg.RC_pure (hc := rfl) (hst := rfl) (hw := rfl) (t := 19) (hd := rfl) (ht := Nat.le_of_ble_eq_true rfl)
      · intro D v W hc hj hf K' hK'
        go_step
        exact hK'.out
      · rfl
      apply Reg.RC_pure (hc := rfl) (hst := rfl) (hw := rfl) (t := 20) (hd := rfl) (ht := Nat.le_of_ble_eq_true rfl)
      · intro D v W hc hj hf K' hK'
        obtain ⟨j0, _⟩ := hj
        have c0 : W.cell? ⟨b, o + i, none⟩ = some (.int .i64 x) := (below_steps B (Nat.le_refl _) j0).cell (p := ⟨b, _, none⟩) hb |>.trans ha
        go_step
        exact hK'.out
      · rfl
      apply Reg.RC_pure (hc := rfl) (hst := rfl) (hw := rfl) (t := 21) (hd := rfl) (ht := Nat.le_of_ble_eq_true rfl)
      · intro D v W hc hj hf K' hK'
        go_step
        exact hK'.out
      · rfl
      apply Reg.RC_pure (hc := rfl) (hst := rfl) (hw := rfl) (t := 22) (hd := rfl) (ht := Nat.le_of_ble_eq_true rfl)
      · intro D v W hc hj hf K' hK'
        go_step
        exact hK'.out
      · rfl
      apply Reg.RC_pure (hc := rfl) (hst := rfl) (hw := rfl) (t := 23) (hd := rfl) (ht := Nat.le_of_ble_eq_true rfl)
      · intro D v W hc hj hf K' hK'
        go_step
        exact hK'.out
      · rfl
      apply Reg.RC_pure (hc := rfl) (hst := rfl) (hw := rfl) (t := 24) (hd := rfl) (ht := Nat.le_of_ble_eq_true rfl)
      · intro D v W hc hj hf K' hK'
        obtain ⟨j0, _⟩ := hj
        have c0 : W.cell? ⟨b', o' + i, none⟩ = some (.int .i64 x) := (below_steps B (Nat.le_refl _) j0).cell (p := ⟨b', _, none⟩) hb' |>.trans ha'
        go_step
        exact hK'.out
      · rfl
      apply Reg.RC_pure (hc := rfl) (hst := rfl) (hw := rfl) (t := 25) (hd := rfl) (ht := Nat.le_of_ble_eq_true rfl)
      · intro D v W hc hj hf K' hK'
        go_step
        exact hK'.out
      · rfl
      refine Reg.RC_end (fun D v w9 hd hj hf => ?_)
      obtain ⟨j0, _⟩ := hj
      have B9 := j0
      clear hd hf j0
      refine hQ _ _ ?_
      clear hQ hops Q' ops'
      have B6 := below_steps B (Nat.le_refl _) B9
      go_wp2
      go_roundw
      case rel => exact ⟨i + 1, by omega, by go_num, B6⟩
      case measure => simp [intOf]; omega
    · obtain rfl : i = n := by omega
      go_wp2
      go_returns
      exact ⟨rfl, B⟩
def greatQ (la lb : Nat → Nat) : Nat → Bool
  | 0 => false
  | i + 1 => greatQ la lb i || (decide (6 < la i) || decide (6 < lb i))
theorem greatQ_stay {la lb : Nat → Nat} {i : Nat} (h : greatQ la lb i = true) : ∀ m, i ≤ m → greatQ la lb m = true := by
  intro m hm
  induction m with
  | zero => obtain rfl : i = 0 := by omega
            exact h
  | succ m ih =>
    rcases Nat.lt_or_ge m i with g | g
    · obtain rfl : i = m + 1 := by omega
      exact h
    · unfold greatQ; rw [ih g]; rfl
theorem greatQ_yes {la lb : Nat → Nat} {i : Nat} (hi : i < 4) (h : 6 < la i ∨ 6 < lb i) : greatQ la lb 4 = true :=
  greatQ_stay (i := i + 1) (by unfold greatQ; rcases h with h | h <;> simp [h]) 4 (by omega)
theorem greatQ_no {la lb : Nat → Nat} {i : Nat} (hg : greatQ la lb i = false) (h : la i ≤ 6) (h' : lb i ≤ 6) : greatQ la lb (i + 1) = false := by
  unfold greatQ; rw [hg, decide_eq_false (by omega), decide_eq_false (by omega)]; rfl
theorem greatQ_get {la lb : Nat → Nat} : ∀ {n : Nat}, greatQ la lb n = false → ∀ i, i < n → la i ≤ 6 ∧ lb i ≤ 6
  | n + 1, h, i, hi => by
    unfold greatQ at h
    simp only [Bool.or_eq_false_iff, decide_eq_false_iff_not] at h
    rcases Nat.lt_or_ge i n with g | g
    · exact greatQ_get h.1 i g
    · obtain rfl : i = n := by omega
      omega
set_option maxHeartbeats 6400000 in
set_option maxRecDepth 1000000 in
theorem rGreat {C : Array Value} {la lb : Nat → Nat} (w : World) (h : Lens C la lb) : Calls Try.prog 15 #[.agg C] w fun e w' => e = .returned (.bool (greatQ la lb 4)) ∧ Steps w w' := by
  have HQ := Hid.mk_ h
  clear h
  go_enter Try.func15, Try.ntmps15
  go_wp2_with fail
  go_loopw [3] (fun kk wr => ∃ i : Nat, i ≤ 4 ∧ kk = .int .i64 i ∧ greatQ la lb i = false ∧ Blk wr (w.heap.size) 31 C ∧ Below w.heap.size w wr) (fun kk _ => 4 - (intOf kk).toNat)
  case atStart => exact ⟨0, by omega, rfl, rfl, ownK, belowB⟩
  case round =>
    obtain ⟨i, hi, rfl, hq, oa, B⟩ := hrel
    rcases Nat.lt_or_ge i 4 with i4 | i4
    · have hl4 : decide ((i : Int) < 4) = true := decide_eq_true (by omega)
      obtain ⟨⟨a, c, h1⟩, a', c', h2⟩ := HQ.out i i4
      have c1 : World.cell? wr ⟨w.heap.size, 4 + i * 4 + 1, none⟩ = _ := oa.c _ h1
      have c2 : World.cell? wr ⟨w.heap.size, 4 + i * 4 + 2 + 1, none⟩ = _ := oa.c _ h2
      have NO := greatQ_no hq
      have YES := fun h => greatQ_yes (la := la) (lb := lb) i4 h
      generalize la i = p at *
      generalize lb i = q at *
      clear h1 h2 hq
      by_cases g1 : 6 < p
      · have g1' : (6 : Int) < (p : Int) := by omega
        have Y0 := YES (.inl g1)
        clear NO YES
        go_wp2
        go_returns
        first | exact ⟨by rw [Y0]; rfl, belowB⟩ | exact ⟨rfl, belowB⟩
      · have g1' : ¬ (6 : Int) < (p : Int) := by omega
        by_cases g2 : 6 < q
        · have g2' : (6 : Int) < (q : Int) := by omega
          have Y0 := YES (.inr g2)
          clear NO YES
          go_wp2
          go_returns
          first | exact ⟨by rw [Y0]; rfl, belowB⟩ | exact ⟨rfl, belowB⟩
        · have g2' : ¬ (6 : Int) < (q : Int) := by omega
          have N0 := NO (by omega) (by omega)
          clear NO YES
          go_wp2
          go_roundw
          case rel => exact ⟨i + 1, by omega, by go_num, N0, ownK, belowB⟩
          case measure => simp [intOf]; omega
    · obtain rfl : i = 4 := by omega
      go_wp2
      go_returns
      exact ⟨by rw [hq]; rfl, B⟩
theorem sz6 {r : Nat → Option Rat} {la lb : Nat → Nat} (h : Few4 r la lb) (hg : greatQ la lb 4 = false) (i : Nat) (hi : i < 4) : sz (rq r i) 500 := by
  have ⟨h1, h2⟩ := greatQ_get hg i hi
  unfold rq
  cases e : r i with
  | none => exact ⟨by have := bp_pos 500; show absN 0 ≤ _; unfold absN; omega, by have := bp_pos 500; show (1 : Int) ≤ _; omega⟩
  | some q =>
    have ⟨g1, g2⟩ := h i hi q e
    exact ⟨Int.le_trans g1 (bp_mono (by omega)), Int.le_trans g2 (bp_mono (by omega))⟩
theorem sz6o {o : Option Rat} {p q : Nat} (h : ∀ z, o = some z → absN z.num ≤ bp p ∧ (z.den : Int) ≤ bp q) (hp : p ≤ 6) (hq : q ≤ 6) : sz (rq (fun _ => o) 0) 500 := by
  unfold rq
  cases e : o with
  | none => exact ⟨by have := bp_pos 500; show absN 0 ≤ _; unfold absN; omega, by have := bp_pos 500; show (1 : Int) ≤ _; omega⟩
  | some z =>
    have ⟨g1, g2⟩ := h z e
    exact ⟨Int.le_trans g1 (bp_mono (by omega)), Int.le_trans g2 (bp_mono (by omega))⟩
theorem findS_len (n : Nat) (R : Nat → Nat → Option Rat) (q : Nat → Option Rat) (o : Option Rat) (hn : n ≤ 1000) : (findS n R q o).1.length ≤ 100000 := by
  unfold findS
  split
  · simp
  · split
    · split
      · exact found_le _ _ _ hn
      · simp
    · simp
set_option maxHeartbeats 6400000 in
set_option maxRecDepth 1000000 in
theorem finds_walk {v : Value} {n : Nat} {CS : Nat → Array Value} {R : Nat → Nat → Option Rat} {LA LB : Nat → Nat → Nat} {CQ : Array Value} {q : Nat → Option Rat} {la lb : Nat → Nat} {o : Option Rat} {t1 t5 : Bool} {t2 t6 : Option Addr} {p t4 p' t8 : Nat} (w : World)
    (h : QSl w v n CS R) (hL : ∀ t, t < n → Lens (CS t) (LA t) (LB t) ∧ Few4 (R t) (LA t) (LB t)) (hq : QX w CQ q) (hl : Lens CQ la lb) (hF : Few4 q la lb) (hf : FB w (.agg #[.bool t1, .slice t2 p t4, .bool t5, .slice t6 p' t8]) o) (ho : ∀ z, o = some z → absN z.num ≤ bp p ∧ (z.den : Int) ≤ bp p') :
    Calls Try.prog 5 #[v, .agg CQ, .agg #[.bool t1, .slice t2 p t4, .bool t5, .slice t6 p' t8]] w fun e w' => e = .returned (.bool true) ∧ Steps w w' := by
  have ia : (Try.prog.info? 31).map (·.size) = some CQ.size := by rw [hq.1]; kernel_rfl
  obtain ⟨ao, cap, rfl⟩ := h.shape
  have HS := Hid.mk_ h
  have gq : ∀ w', Calls Try.prog 15 #[.agg CQ] w' fun e w2 => e = .returned (.bool (greatQ la lb 4)) ∧ Steps w' w2 := fun w' => rGreat w' hl
  have gl : ∀ t, t < n → ∀ w', Calls Try.prog 15 #[.agg (CS t)] w' fun e w2 => e = .returned (.bool (greatQ (LA t) (LB t) 4)) ∧ Steps w' w2 := fun t ht w' => rGreat w' (hL t ht).1
  have cF : n ≤ 1000 → greatQ la lb 4 = false → p ≤ 6 → p' ≤ 6 → (∀ t, t < n → greatQ (LA t) (LB t) 4 = false) → ∀ w', Steps w w' → Calls Try.prog 16 #[.slice ao n cap, .agg CQ, .agg #[.bool t1, .slice t2 p t4, .bool t5, .slice t6 p' t8]] w' fun e w2 => ∃ u, e = .returned (.tuple #[u, .int .i64 (findS n R q o).2]) ∧ IntsR w2 u (findS n R q o).1 ∧ Steps w' w2 := fun h0 h1 h2 h3 h4 w' s => qFind w' (h.steps s) h0 (hq.steps s) (hf.keeps (Keeps.steps s)) (fun t ht => sz6 (hL t ht).2 (h4 t ht)) (sz6 hF h1) (sz6o ho h2 h3)
  have cR : n ≤ 1000 → greatQ la lb 4 = false → p ≤ 6 → p' ≤ 6 → (∀ t, t < n → greatQ (LA t) (LB t) 4 = false) → ∀ w', Steps w w' → Calls Try.prog 17 #[.slice ao n cap, .agg CQ, .agg #[.bool t1, .slice t2 p t4, .bool t5, .slice t6 p' t8]] w' fun e w2 => ∃ u, e = .returned (.tuple #[u, .int .i64 (findS n R q o).2]) ∧ IntsR w2 u (findS n R q o).1 ∧ Steps w' w2 := fun h0 h1 h2 h3 h4 w' s => rFind w' (h.steps s) h0 (hq.steps s) (hf.keeps (Keeps.steps s)) (fun t ht => sz6 (hL t ht).2 (h4 t ht)) (sz6 hF h1) (sz6o ho h2 h3)
  have cN : greatQ la lb 4 = false → p ≤ 6 → p' ≤ 6 → (∀ t, t < n → greatQ (LA t) (LB t) 4 = false) → ∀ t, t < n → ∀ w', Steps w w' → Calls Try.prog 19 #[.agg (CS t), .agg CQ, .agg #[.bool t1, .slice t2 p t4, .bool t5, .slice t6 p' t8]] w' fun e w2 => e = .returned (.tuple #[.bool (nearS (R t) q o).1, .int .i64 (nearS (R t) q o).2]) ∧ Steps w' w2 := fun h1 h2 h3 h4 t ht w' s => qNear w' ((h.1 t ht).steps s) (hq.steps s) (hf.keeps (Keeps.steps s)) (sz6 (hL t ht).2 (h4 t ht)) (sz6 hF h1) (sz6o ho h2 h3)
  have cM : greatQ la lb 4 = false → p ≤ 6 → p' ≤ 6 → (∀ t, t < n → greatQ (LA t) (LB t) 4 = false) → ∀ t, t < n → ∀ w', Steps w w' → Calls Try.prog 20 #[.agg (CS t), .agg CQ, .agg #[.bool t1, .slice t2 p t4, .bool t5, .slice t6 p' t8]] w' fun e w2 => e = .returned (.tuple #[.bool (nearS (R t) q o).1, .int .i64 (nearS (R t) q o).2]) ∧ Steps w' w2 := fun h1 h2 h3 h4 t ht w' s => rNear w' ((h.1 t ht).steps s) (hq.steps s) (hf.keeps (Keeps.steps s)) (sz6 (hL t ht).2 (h4 t ht)) (sz6 hF h1) (sz6o ho h2 h3)
  have sI : ∀ w' u u', n ≤ 1000 → IntsR w' u (findS n R q o).1 → IntsR w' u' (findS n R q o).1 → Calls Try.prog 18 #[u, u'] w' fun e w2 => e = .returned (.bool true) ∧ Steps w' w2 := fun w' u u' hn h1 h2 => rsameInts w' h1 h2 (findS_len n R q o hn)
  obtain ⟨FL, hFL⟩ : ∃ z, (findS n R q o).1 = z := ⟨_, rfl⟩
  obtain ⟨FE, hFE⟩ : ∃ z, (findS n R q o).2 = z := ⟨_, rfl⟩
  rw [hFL, hFE] at cF cR
  rw [hFL] at sI
  obtain ⟨NB, hNB⟩ : ∃ z : Nat → Bool, ∀ t, (nearS (R t) q o).1 = z t := ⟨_, fun _ => rfl⟩
  obtain ⟨NE, hNE⟩ : ∃ z : Nat → Int, ∀ t, (nearS (R t) q o).2 = z t := ⟨_, fun _ => rfl⟩
  simp only [hNB, hNE] at cN cM
  generalize greatQ la lb 4 = G at *
  obtain ⟨GL, hGL⟩ : ∃ z : Nat → Bool, ∀ t, greatQ (LA t) (LB t) 4 = z t := ⟨_, fun _ => rfl⟩
  simp only [hGL] at gl cF cR cN cM
  have hneF : (FE != FE) = false := by simp
  clear h hL hq hl hF hf ho hFL hFE hNB hNE hGL
  have HcF := Hid.mk_ cF
  have HcR := Hid.mk_ cR
  have HcN := Hid.mk_ cN
  have HcM := Hid.mk_ cM
  clear cF cR cN cM
  go_enter Try.func5, Try.ntmps5
  go_upto_region 1 with fail
  go_cut [47] (fun c wx => (c = .bool true ∨ (c = .bool false ∧ n ≤ 510 ∧ G = false ∧ p ≤ 6 ∧ p' ≤ 6)) ∧ Blk wx (w.heap.size) 31 CQ ∧ Blk wx (w.heap.size + 1) 28 #[.bool t1, .slice t2 p t4, .bool t5, .slice t6 p' t8] ∧ Below w.heap.size w wx)
  case first =>
    rcases (show n ≤ 30 ∨ (30 < n ∧ n ≤ 500) ∨ (500 < n ∧ n ≤ 510) ∨ 510 < n by omega) with g | g | g | g
    · have g1 : ¬ (30 : Int) < (n : Int) := by omega
      have g2 : ¬ (510 : Int) < (n : Int) := by omega
      repeat' (first | ((with_reducible show wpList _ _ _ (⟨some 31, _, _, _, _, _⟩ :: _) _ _); refine load_bigH rfl 31 (.tmp 4) rfl (w.heap.size) rfl 31 CQ _ ownK Try.underlying31 rfl ia ?_) | go_values | go_skip | go_guarded | go_step | go_upon)
      refine (gq _).mono ?_
      rintro e w2 ⟨rfl, hs⟩
      have oq2 : Blk w2 (w.heap.size) 31 CQ := Blk.stepsK hs
      have oc2 : Blk w2 (w.heap.size + 1) 28 #[.bool t1, .slice t2 p t4, .bool t5, .slice t6 p' t8] := Blk.stepsK hs
      have B2 : Below w.heap.size w w2 := belowA hs
      clear hs
      cases G with
      | true =>
        go_wp2_with fail
        go_meet
        exact ⟨.inl rfl, ownK, ownK, belowB⟩
      | false =>
        have cc1 := oc2.c 1 rfl
        have cc3 := oc2.c 3 rfl
        by_cases g5 : 6 < p
        · have g5' : (6 : Int) < (p : Int) := by omega
          go_wp2_with fail
          go_meet
          exact ⟨.inl rfl, ownK, ownK, belowB⟩
        · have g5' : ¬ (6 : Int) < (p : Int) := by omega
          by_cases g6 : 6 < p'
          · have g6' : (6 : Int) < (p' : Int) := by omega
            go_wp2_with fail
            go_meet
            exact ⟨.inl rfl, ownK, ownK, belowB⟩
          · have g6' : ¬ (6 : Int) < (p' : Int) := by omega
            go_wp2_with fail
            go_meet
            exact ⟨.inr ⟨by rw [decide_eq_false (by omega : ¬ (6 : Int) < (p : Int)), decide_eq_false (by omega : ¬ (6 : Int) < (p' : Int))]; rfl, by omega, by first | rfl | trivial, by omega, by omega⟩, ownK, ownK, belowB⟩
    · have g1 : (30 : Int) < (n : Int) := by omega
      have g3 : (n : Int) ≤ 500 := by omega
      go_wp2_with fail
      go_meet
      exact ⟨.inl rfl, ownK, ownK, belowB⟩
    · have g1 : (30 : Int) < (n : Int) := by omega
      have g3 : ¬ (n : Int) ≤ 500 := by omega
      have g2 : ¬ (510 : Int) < (n : Int) := by omega
      repeat' (first | ((with_reducible show wpList _ _ _ (⟨some 31, _, _, _, _, _⟩ :: _) _ _); refine load_bigH rfl 31 (.tmp 4) rfl (w.heap.size) rfl 31 CQ _ ownK Try.underlying31 rfl ia ?_) | go_values | go_skip | go_guarded | go_step | go_upon)
      refine (gq _).mono ?_
      rintro e w2 ⟨rfl, hs⟩
      have oq2 : Blk w2 (w.heap.size) 31 CQ := Blk.stepsK hs
      have oc2 : Blk w2 (w.heap.size + 1) 28 #[.bool t1, .slice t2 p t4, .bool t5, .slice t6 p' t8] := Blk.stepsK hs
      have B2 : Below w.heap.size w w2 := belowA hs
      clear hs
      cases G with
      | true =>
        go_wp2_with fail
        go_meet
        exact ⟨.inl rfl, ownK, ownK, belowB⟩
      | false =>
        have cc1 := oc2.c 1 rfl
        have cc3 := oc2.c 3 rfl
        by_cases g5 : 6 < p
        · have g5' : (6 : Int) < (p : Int) := by omega
          go_wp2_with fail
          go_meet
          exact ⟨.inl rfl, ownK, ownK, belowB⟩
        · have g5' : ¬ (6 : Int) < (p : Int) := by omega
          by_cases g6 : 6 < p'
          · have g6' : (6 : Int) < (p' : Int) := by omega
            go_wp2_with fail
            go_meet
            exact ⟨.inl rfl, ownK, ownK, belowB⟩
          · have g6' : ¬ (6 : Int) < (p' : Int) := by omega
            go_wp2_with fail
            go_meet
            exact ⟨.inr ⟨by rw [decide_eq_false (by omega : ¬ (6 : Int) < (p : Int)), decide_eq_false (by omega : ¬ (6 : Int) < (p' : Int))]; rfl, by omega, by first | rfl | trivial, by omega, by omega⟩, ownK, ownK, belowB⟩
    · have g1 : (30 : Int) < (n : Int) := by omega
      have g3 : ¬ (n : Int) ≤ 500 := by omega
      have g2 : (510 : Int) < (n : Int) := by omega
      go_wp2_with fail
      go_meet
      exact ⟨.inl rfl, ownK, ownK, belowB⟩
  case rest =>
    obtain ⟨hc, oq, oc, B⟩ := hcut
    rcases hc with rfl | ⟨rfl, hn, rfl, hp, hp'⟩
    · go_wp2_with fail
      go_returns
      exact ⟨rfl, belowB⟩
    · go_wp2_with fail
      go_loopw [7] (fun kk wr => ∃ t : Nat, t ≤ n ∧ kk = .int .i64 t ∧ (∀ s, s < t → GL s = false) ∧ Blk wr (w.heap.size) 31 CQ ∧ Blk wr (w.heap.size + 1) 28 #[.bool t1, .slice t2 p t4, .bool t5, .slice t6 p' t8] ∧ Below w.heap.size w wr) (fun kk _ => n - (intOf kk).toNat)
      case atStart => exact ⟨0, by omega, rfl, fun s hs => by omega, ownK, ownK, belowB⟩
      case round =>
        clear oq oc B
        obtain ⟨t, ht, rfl, hg, oq, oc, B⟩ := hrel
        rcases Nat.lt_or_ge t n with tn | tn
        · have hlt : decide ((t : Int) < (n : Int)) = true := decide_eq_true (by omega)
          obtain ⟨b, o', rfl, hb, hcell⟩ := HS.out.at tn
          have qx := HS.out.1 t tn
          have nc := gl t tn
          obtain ⟨C, hC⟩ : ∃ C, CS t = C := ⟨_, rfl⟩
          rw [hC] at hcell qx nc
          have hsz := qx.1
          have hcw : ∀ j, j < C.size → wr.cell? ⟨b, o' + t * 20 + j, none⟩ = C[j]? := fun j hj => (B.cell (p := ⟨b, _, none⟩) hb).trans (hcell j (by omega))
          have ic : (Try.prog.info? 31).map (·.size) = some C.size := by rw [hsz]; kernel_rfl
          have hg' : GL t = false → ∀ s, s < t + 1 → GL s = false := fun h s hs => by
            rcases Nat.lt_or_ge s t with g | g
            · exact hg s g
            · obtain rfl : s = t := by omega
              exact h
          generalize GL t = gt at *
          clear hcell hC qx gl hg
          repeat' (first | ((with_reducible show wpList _ _ _ (⟨some 57, _, _, _, _, _⟩ :: _) _ _); refine load_at rfl 31 (.tmp 56) rfl b (o' + t * 20) rfl C _ hcw Try.underlying31 rfl ic ?_) | go_values | go_skip | go_guarded | go_step | go_upon)
          refine (nc _).mono ?_
          rintro e w6 ⟨rfl, hs6⟩
          have oq6 : Blk w6 (w.heap.size) 31 CQ := oq.steps hs6
          have oc6 : Blk w6 (w.heap.size + 1) 28 #[.bool t1, .slice t2 p t4, .bool t5, .slice t6 p' t8] := oc.steps hs6
          have B6 : Below w.heap.size w w6 := below_steps B (Nat.le_refl _) hs6
          clear hs6 oq oc B nc hcw ic hsz
          cases gt with
          | true =>
            clear hg'
            go_wp2_with fail
            go_returns
            exact ⟨rfl, belowB⟩
          | false =>
            have Y0 := hg' rfl
            clear hg'
            go_wp2_with fail
            go_roundw
            case rel => exact ⟨t + 1, by omega, by go_num, Y0, oq6, oc6, B6⟩
            case measure => simp [intOf]; omega
        · obtain rfl : n = t := by omega
          have cF := HcF.out (by omega) (by first | rfl | trivial) hp hp' hg
          have cR := HcR.out (by omega) (by first | rfl | trivial) hp hp' hg
          have cN := HcN.out (by first | rfl | trivial) hp hp' hg
          have cM := HcM.out (by first | rfl | trivial) hp hp' hg
          clear HcF HcR HcN HcM gl hg
          have cc0 := oc.c 0 rfl
          have cc1 := oc.c 1 rfl
          have cc2 := oc.c 2 rfl
          have cc3 := oc.c 3 rfl
          repeat' (first | ((with_reducible show wpList _ _ _ (⟨some 61, _, _, _, _, _⟩ :: _) _ _); refine load_big rfl 31 (.tmp 4) rfl (w.heap.size) rfl 31 CQ _ oq Try.underlying31 rfl ia ?_) | go_values | go_skip | go_guarded | go_step | go_upon)
          refine (cF _ B).mono ?_
          rintro e w2 ⟨u, rfl, hu, hs2⟩
          clear cc0 cc1 cc2 cc3
          have oq2 : Blk w2 (w.heap.size) 31 CQ := oq.steps hs2
          have oc2 : Blk w2 (w.heap.size + 1) 28 #[.bool t1, .slice t2 p t4, .bool t5, .slice t6 p' t8] := oc.steps hs2
          have B2 : Below w.heap.size w w2 := below_steps B (Nat.le_refl _) hs2
          clear hs2 oq oc B
          have cc0 := oc2.c 0 rfl
          have cc1 := oc2.c 1 rfl
          have cc2 := oc2.c 2 rfl
          have cc3 := oc2.c 3 rfl
          obtain ⟨ua, uc, rfl⟩ := hu.shape
          dsimp only
          repeat' (first | ((with_reducible show wpList _ _ _ (⟨some 68, _, _, _, _, _⟩ :: _) _ _); refine load_big rfl 31 (.tmp 4) rfl (w.heap.size) rfl 31 CQ _ oq2 Try.underlying31 rfl ia ?_) | go_values | go_skip | go_guarded | go_step | go_upon)
          refine (cR _ B2).mono ?_
          rintro e w3 ⟨u', rfl, hu', hs3⟩
          clear cc0 cc1 cc2 cc3
          have oq3 : Blk w3 (w.heap.size) 31 CQ := oq2.steps hs3
          have oc3 : Blk w3 (w.heap.size + 1) 28 #[.bool t1, .slice t2 p t4, .bool t5, .slice t6 p' t8] := oc2.steps hs3
          have B3 : Below w.heap.size w w3 := below_steps B2 (Nat.le_refl _) hs3
          have hu3 := hu.steps hs3
          clear hs3 oq2 oc2 B2 hu cF cR
          obtain ⟨ua', uc', rfl⟩ := hu'.shape
          go_wp2_with fail
          refine (sI _ _ _ (by omega) hu3 hu').mono ?_
          rintro e w4 ⟨rfl, hs4⟩
          have oq4 : Blk w4 (w.heap.size) 31 CQ := oq3.steps hs4
          have oc4 : Blk w4 (w.heap.size + 1) 28 #[.bool t1, .slice t2 p t4, .bool t5, .slice t6 p' t8] := oc3.steps hs4
          have B4 : Below w.heap.size w w4 := below_steps B3 (Nat.le_refl _) hs4
          clear hs4 oq3 oc3 B3 hu3 hu' sI
          go_wp2_with fail
          go_loopw [12] (fun kk wr => ∃ t : Nat, t ≤ n ∧ t ≤ 30 ∧ kk = .int .i64 t ∧ Blk wr (w.heap.size) 31 CQ ∧ Blk wr (w.heap.size + 1) 28 #[.bool t1, .slice t2 p t4, .bool t5, .slice t6 p' t8] ∧ Below w.heap.size w wr) (fun kk _ => n - (intOf kk).toNat)
          case atStart => exact ⟨0, by omega, by omega, rfl, ownK, ownK, belowB⟩
          case round =>
            clear oq4 oc4 B4
            obtain ⟨t, ht, h30, rfl, oq, oc, B⟩ := hrel
            rcases Nat.lt_or_ge t n with tn | tn
            · have hlt : decide ((t : Int) < (n : Int)) = true := decide_eq_true (by omega)
              rcases Nat.lt_or_ge t 30 with t30 | t30
              · have hl30 : decide ((t : Int) < 30) = true := decide_eq_true (by omega)
                obtain ⟨b, o', rfl, hb, hcell⟩ := HS.out.at tn
                have qx := HS.out.1 t tn
                have nc := cN t tn
                have mc := cM t tn
                obtain ⟨C, hC⟩ : ∃ C, CS t = C := ⟨_, rfl⟩
                rw [hC] at hcell qx nc mc
                have hsz := qx.1
                have hcw : ∀ W, Steps wr W → ∀ j, j < C.size → W.cell? ⟨b, o' + t * 20 + j, none⟩ = C[j]? := fun W s j hj => ((below_steps B (Nat.le_refl _) s).cell (p := ⟨b, _, none⟩) hb).trans (hcell j (by omega))
                have ic : (Try.prog.info? 31).map (·.size) = some C.size := by rw [hsz]; kernel_rfl
                generalize NB t = nb at *
                generalize NE t = ne at *
                have hnb : (nb != nb) = false := by simp
                have hne : (ne != ne) = false := by simp
                clear hcell hC qx cN cM
                repeat' (first | go_values | go_skip | go_guarded | go_step | go_upon)
                refine Reg.wp_chain (fun D v W => Below wr.heap.size wr W ∧ True) (Reg.inl [6]) (Reg.gv [(6, fun z_ => z_ = .tuple #[.bool nb, .int .i64 ne])]) Reg.None_ (fun _ => Reg.Any) (fun _ _ => False) (Reg.pl []) (Reg.pl [])
                  (by kernel_rfl) (by kernel_rfl) (by kernel_rfl) (Reg.gv_some _ (by intro p hp; simp only [List.mem_cons, List.not_mem_nil, or_false] at hp; rcases hp with rfl <;> first | exact ⟨_, rfl⟩ | exact ⟨_, none, 0, 0, rfl⟩ | exact ⟨_, false, none, 0, 0, rfl⟩ | exact ⟨_, false, none, 0, 0, false, none, 0, 0, rfl⟩)) (fun _ => ⟨belowB, trivial⟩) (fun _ _ _ _ _ h => h) (fun _ _ _ _ _ _ _ _ _ _ _ _ _ => Reg.none_) (fun _ _ _ _ h => h.elim) (fun ops' Q' hops hQ => ?_)
                apply Reg.RC_pure (hc := rfl) (hst := rfl) (hw := rfl) (t := 93) (hd := rfl) (ht := Nat.le_of_ble_eq_true rfl)
                · intro D v W hc hj hf K' hK'
                  go_step
                  exact hK'.out
                · rfl
                apply Reg.RC_pure (hc := rfl) (hst := rfl) (hw := rfl) (t := 94) (hd := rfl) (ht := Nat.le_of_ble_eq_true rfl)
                · intro D v W hc hj hf K' hK'
                  go_step
                  exact hK'.out
                · rfl
                apply Reg.RC_pure (hc := rfl) (hst := rfl) (hw := rfl) (t := 95) (hd := rfl) (ht := Nat.le_of_ble_eq_true rfl)
                · intro D v W hc hj hf K' hK'
                  go_step
                  exact hK'.out
                · rfl
                apply Reg.RC_pure (hc := rfl) (hst := rfl) (hw := rfl) (t := 96) (hd := rfl) (ht := Nat.le_of_ble_eq_true rfl)
                · intro D v W hc hj hf K' hK'
                  obtain ⟨j0, _⟩ := hj
                  exact wp_load_at 31 (.tmp 95) rfl b (o' + t * 20) rfl C _ (hcw W j0) Try.underlying31 rfl ic hK'.out
                · rfl
                apply Reg.RC_pure (hc := rfl) (hst := rfl) (hw := rfl) (t := 97) (hd := rfl) (ht := Nat.le_of_ble_eq_true rfl)
                · intro D v W hc hj hf K' hK'
                  obtain ⟨j0, _⟩ := hj
                  exact wp_load_row 31 (.tmp 4) rfl (w.heap.size) rfl 31 CQ (0, 0) _ (oq.steps j0) Try.underlying31 rfl ia hK'.out
                · rfl
                apply Reg.RC_pure (hc := rfl) (hst := rfl) (hw := rfl) (t := 98) (hd := rfl) (ht := Nat.le_of_ble_eq_true rfl)
                · intro D v W hc hj hf K' hK'
                  obtain ⟨j0, _⟩ := hj
                  have od := oc.steps j0
                  have cd0 := od.c 0 rfl
                  have cd1 := od.c 1 rfl
                  have cd2 := od.c 2 rfl
                  have cd3 := od.c 3 rfl
                  go_step
                  exact hK'.out
                · rfl
                refine Reg.RC_call rfl (by intro t ht; cases ht; exact Nat.le_of_ble_eq_true rfl) rfl (fun D v W hc hj hf K' hK' => ?_) ?_
                · obtain ⟨j0, _⟩ := hj
                  go_step
                  refine (nc _ (below_steps B (Nat.le_refl _) j0)).mono ?_
                  rintro e W2 ⟨rfl, hs⟩
                  exact hK'.out _ W2 Reg.any ⟨below_steps j0 (Nat.le_refl _) hs, trivial⟩ trivial rfl
                rintro _ rfl
                refine Reg.RC_at (b := ⟨#[_,_,_,_,_,_,_,_,_,_,_,_,_,_,_,_,_,_,_,_,_,_,_,_,_,_,_,_,_,_,_,_,_,_,_,_,_,_,_,_,_,_,_,_,_,_,_,_,_,_,_,_,_,_,_,_,_,_,_,_,_,_,_,_,_,_,_,_,_,_,_,_,_,_,_,_,_,_,_,_,_,_,_,_,_,_,_,_,_,_,_,_,_,_,_,_,_,_,_,_,_,_,_,_,_,_,_,_,_,_,_,_,_,_,_,_,_,_,_,_], _⟩) rfl ?_
                apply Reg.RC_pure (hc := rfl) (hst := rfl) (hw := rfl) (t := 92) (hd := rfl) (ht := Nat.le_of_ble_eq_true rfl)
                · intro D v W hc hj hf K' hK'
                  go_step
                  exact hK'.out
                · rfl
                apply Reg.RC_pure (hc := rfl) (hst := rfl) (hw := rfl) (t := 100) (hd := rfl) (ht := Nat.le_of_ble_eq_true rfl)
                · intro D v W hc hj hf K' hK'
                  go_step
                  exact hK'.out
                · rfl
                apply Reg.RC_pure (hc := rfl) (hst := rfl) (hw := rfl) (t := 101) (hd := rfl) (ht := Nat.le_of_ble_eq_true rfl)
                · intro D v W hc hj hf K' hK'
                  go_step
                  exact hK'.out
                · rfl
                apply Reg.RC_pure (hc := rfl) (hst := rfl) (hw := rfl) (t := 13) (hd := rfl) (ht := Nat.le_of_ble_eq_true rfl)
                · intro D v W hc hj hf K' hK'
                  go_step
                  exact hK'.out
                · rfl
                apply Reg.RC_pure (hc := rfl) (hst := rfl) (hw := rfl) (t := 14) (hd := rfl) (ht := Nat.le_of_ble_eq_true rfl)
                · intro D v W hc hj hf K' hK'
                  go_step
                  exact hK'.out
                · rfl
                refine Reg.RC_end (fun D v w9 hd hj hf => ?_)
                obtain ⟨j0, _⟩ := hj
                have st9 := j0
                clear hd hf j0
                refine hQ _ _ ?_
                clear hQ hops Q' ops'
                have oq9 := oq.steps st9
                have oc9 := oc.steps st9
                repeat' (first | go_values | go_skip | go_guarded | go_step | go_upon)
                refine Reg.wp_chain (fun D v W => Below w9.heap.size w9 W ∧ True) (Reg.inl [6]) (Reg.gv [(6, fun z_ => z_ = .tuple #[.bool nb, .int .i64 ne])]) Reg.None_ (fun _ => Reg.Any) (fun _ _ => False) (Reg.pl []) (Reg.pl [])
                  (by kernel_rfl) (by kernel_rfl) (by kernel_rfl) (Reg.gv_some _ (by intro p hp; simp only [List.mem_cons, List.not_mem_nil, or_false] at hp; rcases hp with rfl <;> first | exact ⟨_, rfl⟩ | exact ⟨_, none, 0, 0, rfl⟩ | exact ⟨_, false, none, 0, 0, rfl⟩ | exact ⟨_, false, none, 0, 0, false, none, 0, 0, rfl⟩)) (fun _ => ⟨belowB, trivial⟩) (fun _ _ _ _ _ h => h) (fun _ _ _ _ _ _ _ _ _ _ _ _ _ => Reg.none_) (fun _ _ _ _ h => h.elim) (fun ops' Q' hops hQ => ?_)
                apply Reg.RC_pure (hc := rfl) (hst := rfl) (hw := rfl) (t := 103) (hd := rfl) (ht := Nat.le_of_ble_eq_true rfl)
                · intro D v W hc hj hf K' hK'
                  go_step
                  exact hK'.out
                · rfl
                apply Reg.RC_pure (hc := rfl) (hst := rfl) (hw := rfl) (t := 104) (hd := rfl) (ht := Nat.le_of_ble_eq_true rfl)
                · intro D v W hc hj hf K' hK'
                  go_step
                  exact hK'.out
                · rfl
                apply Reg.RC_pure (hc := rfl) (hst := rfl) (hw := rfl) (t := 105) (hd := rfl) (ht := Nat.le_of_ble_eq_true rfl)
                · intro D v W hc hj hf K' hK'
                  go_step
                  exact hK'.out
                · rfl
                apply Reg.RC_pure (hc := rfl) (hst := rfl) (hw := rfl) (t := 106) (hd := rfl) (ht := Nat.le_of_ble_eq_true rfl)
                · intro D v W hc hj hf K' hK'
                  obtain ⟨j0, _⟩ := hj
                  exact wp_load_at 31 (.tmp 105) rfl b (o' + t * 20) rfl C _ (hcw W (below_steps st9 (Nat.le_refl _) j0)) Try.underlying31 rfl ic hK'.out
                · rfl
                apply Reg.RC_pure (hc := rfl) (hst := rfl) (hw := rfl) (t := 107) (hd := rfl) (ht := Nat.le_of_ble_eq_true rfl)
                · intro D v W hc hj hf K' hK'
                  obtain ⟨j0, _⟩ := hj
                  exact wp_load_row 31 (.tmp 4) rfl (w.heap.size) rfl 31 CQ (0, 0) _ (oq9.steps j0) Try.underlying31 rfl ia hK'.out
                · rfl
                apply Reg.RC_pure (hc := rfl) (hst := rfl) (hw := rfl) (t := 108) (hd := rfl) (ht := Nat.le_of_ble_eq_true rfl)
                · intro D v W hc hj hf K' hK'
                  obtain ⟨j0, _⟩ := hj
                  have od := oc9.steps j0
                  have cd0 := od.c 0 rfl
                  have cd1 := od.c 1 rfl
                  have cd2 := od.c 2 rfl
                  have cd3 := od.c 3 rfl
                  go_step
                  exact hK'.out
                · rfl
                refine Reg.RC_call rfl (by intro t ht; cases ht; exact Nat.le_of_ble_eq_true rfl) rfl (fun D v W hc hj hf K' hK' => ?_) ?_
                · obtain ⟨j0, _⟩ := hj
                  go_step
                  refine (mc _ (below_steps B (Nat.le_refl _) (below_steps st9 (Nat.le_refl _) j0))).mono ?_
                  rintro e W2 ⟨rfl, hs⟩
                  exact hK'.out _ W2 Reg.any ⟨below_steps j0 (Nat.le_refl _) hs, trivial⟩ trivial rfl
                rintro _ rfl
                refine Reg.RC_at (b := ⟨#[_,_,_,_,_,_,_,_,_,_,_,_,_,_,_,_,_,_,_,_,_,_,_,_,_,_,_,_,_,_,_,_,_,_,_,_,_,_,_,_,_,_,_,_,_,_,_,_,_,_,_,_,_,_,_,_,_,_,_,_,_,_,_,_,_,_,_,_,_,_,_,_,_,_,_,_,_,_,_,_,_,_,_,_,_,_,_,_,_,_,_,_,_,_,_,_,_,_,_,_,_,_,_,_,_,_,_,_,_,_,_,_,_,_,_,_,_,_,_,_], _⟩) rfl ?_
                apply Reg.RC_pure (hc := rfl) (hst := rfl) (hw := rfl) (t := 102) (hd := rfl) (ht := Nat.le_of_ble_eq_true rfl)
                · intro D v W hc hj hf K' hK'
                  go_step
                  exact hK'.out
                · rfl
                apply Reg.RC_pure (hc := rfl) (hst := rfl) (hw := rfl) (t := 110) (hd := rfl) (ht := Nat.le_of_ble_eq_true rfl)
                · intro D v W hc hj hf K' hK'
                  go_step
                  exact hK'.out
                · rfl
                apply Reg.RC_pure (hc := rfl) (hst := rfl) (hw := rfl) (t := 111) (hd := rfl) (ht := Nat.le_of_ble_eq_true rfl)
                · intro D v W hc hj hf K' hK'
                  go_step
                  exact hK'.out
                · rfl
                apply Reg.RC_pure (hc := rfl) (hst := rfl) (hw := rfl) (t := 15) (hd := rfl) (ht := Nat.le_of_ble_eq_true rfl)
                · intro D v W hc hj hf K' hK'
                  go_step
                  exact hK'.out
                · rfl
                apply Reg.RC_pure (hc := rfl) (hst := rfl) (hw := rfl) (t := 16) (hd := rfl) (ht := Nat.le_of_ble_eq_true rfl)
                · intro D v W hc hj hf K' hK'
                  go_step
                  exact hK'.out
                · rfl
                refine Reg.RC_end (fun D v w10 hd hj hf => ?_)
                obtain ⟨j0, _⟩ := hj
                have st10 := below_steps st9 (Nat.le_refl _) j0
                clear hd hf j0
                refine hQ _ _ ?_
                clear hQ hops Q' ops'
                clear oq9 oc9 st9
                have B6 := below_steps B (Nat.le_refl _) st10
                have oq6 := oq.steps st10
                have oc6 := oc.steps st10
                clear st10 oq oc B hcw ic hsz nc mc
                go_wp2_with fail
                go_roundw
                case rel => exact ⟨t + 1, by omega, by omega, by go_num, oq6, oc6, B6⟩
                case measure => simp [intOf]; omega
              · have hl30 : decide ((t : Int) < 30) = false := decide_eq_false (by omega)
                go_wp2_with fail
                go_returns
                exact ⟨rfl, B⟩
            · obtain rfl : n = t := by omega
              go_wp2_with fail
              go_returns
              exact ⟨rfl, B⟩
end Go.Proofs.Ytibdehlmflaodaa
