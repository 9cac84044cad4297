import Derived.Test.YtibdehlmflaodaaCQs
namespace Go.Proofs.Ytibdehlmflaodaa
open Go.RowKit
theorem QF.qn {w : World} {cs : Array Value} {a : Arr} (hn : 0 < a.n) (h : QF w cs (kA a) (rA a)) : QN w (.agg cs) a := by
  obtain ⟨hs, -, hk, hf⟩ := h
  obtain ⟨l⟩ := cs
  replace hs : l.length = 20 := by simpa using hs
  match l, hs with
  | [x0, x1, x2, x3, x4, x5, x6, x7, x8, x9, x10, x11, x12, x13, x14, x15, x16, x17, x18, x19], _ =>
    obtain ⟨a1, a2, a3, a4, a5, a6, a7, a8, p0, p1, p2, p3, f0⟩ := hf 0 (by omega)
    obtain ⟨b1, b2, b3, b4, b5, b6, b7, b8, p4, p5, p6, p7, f1⟩ := hf 1 (by omega)
    obtain ⟨c1, c2, c3, c4, c5, c6, c7, c8, p8, p9, p10, p11, f2⟩ := hf 2 (by omega)
    obtain ⟨d1, d2, d3, d4, d5, d6, d7, d8, p12, p13, p14, p15, f3⟩ := hf 3 (by omega)
    have k0 := hk 0 (by omega)
    have k1 := hk 1 (by omega)
    have k2 := hk 2 (by omega)
    have k3 := hk 3 (by omega)
    replace k0 : some x0 = some _ := k0
    injection k0 with k0
    replace k1 : some x1 = some _ := k1
    injection k1 with k1
    replace k2 : some x2 = some _ := k2
    injection k2 with k2
    replace k3 : some x3 = some _ := k3
    injection k3 with k3
    replace p0 : some x4 = some _ := p0
    injection p0 with p0
    replace p1 : some x5 = some _ := p1
    injection p1 with p1
    replace p2 : some x6 = some _ := p2
    injection p2 with p2
    replace p3 : some x7 = some _ := p3
    injection p3 with p3
    replace p4 : some x8 = some _ := p4
    injection p4 with p4
    replace p5 : some x9 = some _ := p5
    injection p5 with p5
    replace p6 : some x10 = some _ := p6
    injection p6 with p6
    replace p7 : some x11 = some _ := p7
    injection p7 with p7
    replace p8 : some x12 = some _ := p8
    injection p8 with p8
    replace p9 : some x13 = some _ := p9
    injection p9 with p9
    replace p10 : some x14 = some _ := p10
    injection p10 with p10
    replace p11 : some x15 = some _ := p11
    injection p11 with p11
    replace p12 : some x16 = some _ := p12
    injection p12 with p12
    replace p13 : some x17 = some _ := p13
    injection p13 with p13
    replace p14 : some x18 = some _ := p14
    injection p14 with p14
    replace p15 : some x19 = some _ := p15
    injection p15 with p15
    subst k0 k1 k2 k3 p0 p1 p2 p3 p4 p5 p6 p7 p8 p9 p10 p11 p12 p13 p14 p15
    exact ⟨_, _, _, _, _, _, _, _, _, _, _, _, _, _, _, _, rfl, f0.num2 hn, f1.num2 hn, f2.num2 hn, f3.num2 hn⟩
set_option maxHeartbeats 6400000 in
set_option maxRecDepth 1000000 in
theorem rcode_bad {v : Value} {l : PL} (k : Nat → Int) (w : World) (hv : Pts w v l) (hl : l.length ≤ 1000) (hc : chkP l ≠ 0) :
    Calls Try.prog 9 #[v, .agg #[.int .i64 (k 0), .int .i64 (k 1), .int .i64 (k 2), .int .i64 (k 3)]] w (CodeP w l k) := by
  have HS : Hid (codeS l k = (chkP l, noArr)) := if_pos hc
  have ck : ∀ w', Steps w w' → Calls Try.prog 11 #[v] w' fun e w2 => e = .returned (.int .i64 (chkP l)) ∧ Steps w' w2 := fun w' hs => rcheckP w' (hv.steps hs) hl
  obtain ⟨c, hcc⟩ : ∃ c, chkP l = c := ⟨_, rfl⟩
  rw [hcc] at HS ck hc
  have hc' : (c == 0) = false := by simpa using hc
  clear hv hcc
  go_enter Try.func9, Try.ntmps9
  go_wp2_with fail
  refine (ck _ belowB).mono ?_
  rintro e w1 ⟨rfl, hb1⟩
  have st : Steps _ w1 := hb1
  have B : Below w.heap.size w w1 := belowA st
  have or : Blk w1 (w.heap.size + 1) 31 #[.int .i64 0, .int .i64 0, .int .i64 0, .int .i64 0, .bool false, .slice none 0 0, .bool false, .slice none 0 0, .bool false, .slice none 0 0, .bool false, .slice none 0 0, .bool false, .slice none 0 0, .bool false, .slice none 0 0, .bool false, .slice none 0 0, .bool false, .slice none 0 0] := Blk.stepsK st
  clear st ck hb1
  go_wp2_with (first | (refine build_big rfl 31 #[] rfl #[.int .i64 0, .int .i64 0, .int .i64 0, .int .i64 0, .bool false, .slice none 0 0, .bool false, .slice none 0 0, .bool false, .slice none 0 0, .bool false, .slice none 0 0, .bool false, .slice none 0 0, .bool false, .slice none 0 0, .bool false, .slice none 0 0, .bool false, .slice none 0 0] (by kernel_rfl) ?_) | (refine store_big rfl 31 (.tmp 4) (.tmp 13) rfl (w.heap.size + 1) #[.int .i64 0, .int .i64 0, .int .i64 0, .int .i64 0, .bool false, .slice none 0 0, .bool false, .slice none 0 0, .bool false, .slice none 0 0, .bool false, .slice none 0 0, .bool false, .slice none 0 0, .bool false, .slice none 0 0, .bool false, .slice none 0 0, .bool false, .slice none 0 0] rfl rfl 31 #[.int .i64 0, .int .i64 0, .int .i64 0, .int .i64 0, .bool false, .slice none 0 0, .bool false, .slice none 0 0, .bool false, .slice none 0 0, .bool false, .slice none 0 0, .bool false, .slice none 0 0, .bool false, .slice none 0 0, .bool false, .slice none 0 0, .bool false, .slice none 0 0] ownK (by kernel_rfl) rfl (by simp [Value.oneCell']) (fun wz rz => ?_)))
  refine bodyPost_ret (results_row2 rfl _ _ (w.heap.size + 1) rfl (cs := #[.int .i64 0, .int .i64 0, .int .i64 0, .int .i64 0, .bool false, .slice none 0 0, .bool false, .slice none 0 0, .bool false, .slice none 0 0, .bool false, .slice none 0 0, .bool false, .slice none 0 0, .bool false, .slice none 0 0, .bool false, .slice none 0 0, .bool false, .slice none 0 0]) rz.blk Try.underlying31 rfl (by kernel_rfl)) rfl ?_
  have Bz := rz.below B (Nat.le_succ _)
  exact CodeP.none HS.out Bz
set_option maxHeartbeats 6400000 in
set_option maxRecDepth 1000000 in
theorem rcode_in {v : Value} {l : PL} (k : Nat → Int) (w : World) (hv : Pts w v l) (hl : l.length ≤ 1000) (hb : ∀ i, -9223372036854775808 ≤ k i ∧ k i ≤ 9223372036854775807) (hc : chkP l = 0) :
    Calls Try.prog 9 #[v, .agg #[.int .i64 (k 0), .int .i64 (k 1), .int .i64 (k 2), .int .i64 (k 3)]] w (CodeP w l k) := by
  have HB : ∀ i, i < 4 → ¬ okAt l.length k i → Hid (codeS l k = (2, noArr)) := fun i hi h => by
    show codeS l k = _
    unfold codeS
    rw [if_neg (by rw [hc]; simp), if_pos (fun hq => h (hq i hi))]
  have HN : okIdx l.length k → wid l (KK k) = 0 → Hid (codeS l k = (18, noArr)) := fun h h2 => by
    show codeS l k = _
    unfold codeS
    rw [if_neg (by rw [hc]; simp), if_neg (fun hq => hq h), if_pos h2]
  have HG : okIdx l.length k → wid l (KK k) ≠ 0 → Hid (codeS l k = (0, bestOf l (KK k))) := fun h h2 => by
    show codeS l k = _
    unfold codeS
    rw [if_neg (by rw [hc]; simp), if_neg (fun hq => hq h), if_neg h2]
  have ck : ∀ w', Steps w w' → Calls Try.prog 11 #[v] w' fun e w2 => e = .returned (.int .i64 0) ∧ Steps w' w2 := fun w' hs => by rw [← hc]; exact rcheckP w' (hv.steps hs) hl
  have cf : okIdx l.length k → ∀ w', Steps w w' → Calls Try.prog 32 #[v, .agg #[.int .i64 (k 0), .int .i64 (k 1), .int .i64 (k 2), .int .i64 (k 3)]] w' fun e w2 => e = .returned (.int .i64 (wid l (KK k))) ∧ Steps w' w2 := fun h w' hs => by
    have := rwidest (k 0).toNat (k 1).toNat (k 2).toNat (k 3).toNat _ rfl w' (hv.steps hs) (fun i => KK_lt h i) (fun i => chk_pts hc _ (KK_lt h i))
    rw [Int.toNat_of_nonneg (h 0 (by omega)).1.1, Int.toNat_of_nonneg (h 1 (by omega)).1.1, Int.toNat_of_nonneg (h 2 (by omega)).1.1, Int.toNat_of_nonneg (h 3 (by omega)).1.1] at this
    exact this
  have cq : okIdx l.length k → wid l (KK k) ≠ 0 → ∀ w', Steps w w' → Calls Try.prog 33 #[v, .agg #[.int .i64 (k 0), .int .i64 (k 1), .int .i64 (k 2), .int .i64 (k 3)]] w' fun e w2 => ∃ cs, e = .returned (.agg cs) ∧ QN w2 (.agg cs) (bestOf l (KK k)) ∧ (cs.size = 20 ∧ cs.all (·.oneCell') = true) ∧ Steps w' w2 := fun h h2 w' hs => by
    have hw : 0 < wid l (KK k) := by have := wid_nonneg l (KK k); omega
    have := rcode (k 0).toNat (k 1).toNat (k 2).toNat (k 3).toNat _ rfl w' (hv.steps hs) hl (fun i => KK_lt h i) (fun i => chk_pts hc _ (KK_lt h i)) hw
    rw [Int.toNat_of_nonneg (h 0 (by omega)).1.1, Int.toNat_of_nonneg (h 1 (by omega)).1.1, Int.toNat_of_nonneg (h 2 (by omega)).1.1, Int.toNat_of_nonneg (h 3 (by omega)).1.1] at this
    refine this.mono ?_
    rintro e w2 ⟨cs, rfl, hq, st⟩
    exact ⟨cs, rfl, (show QF w2 cs (kA (bestOf l (KK k))) (rA (bestOf l (KK k))) from hq).qn (by rw [(bestOf_spec l (KK k) hw).2.1]; exact hw), ⟨hq.1, hq.2.1⟩, st⟩
  obtain ⟨ao, cap, rfl⟩ := hv.shape
  obtain ⟨len, hlen⟩ : ∃ n, l.length = n := ⟨_, rfl⟩
  rw [hlen] at HB HN HG ck cf cq hl ⊢
  have hk4 : ∀ i, i < 4 → (#[.int .i64 (k 0), .int .i64 (k 1), .int .i64 (k 2), .int .i64 (k 3)] : Array Value)[i]? = some (.int .i64 (k i)) := fun i hi => by rcases (show i = 0 ∨ i = 1 ∨ i = 2 ∨ i = 3 by omega) with rfl | rfl | rfl | rfl <;> rfl
  obtain ⟨wd, hwd⟩ : ∃ z, wid l (KK k) = z := ⟨_, rfl⟩
  rw [hwd] at HN HG cf cq
  clear hv hc hlen hwd
  go_enter Try.func9, Try.ntmps9
  go_wp2_with fail
  refine (ck _ belowB).mono ?_
  rintro e w1 ⟨rfl, hb1⟩
  have st : Steps _ w1 := hb1
  have B : Below w.heap.size w w1 := belowA st
  have oa : Blk w1 (w.heap.size) 23 #[.int .i64 (k 0), .int .i64 (k 1), .int .i64 (k 2), .int .i64 (k 3)] := Blk.stepsK st
  have or : Blk w1 (w.heap.size + 1) 31 #[.int .i64 0, .int .i64 0, .int .i64 0, .int .i64 0, .bool false, .slice none 0 0, .bool false, .slice none 0 0, .bool false, .slice none 0 0, .bool false, .slice none 0 0, .bool false, .slice none 0 0, .bool false, .slice none 0 0, .bool false, .slice none 0 0, .bool false, .slice none 0 0] := Blk.stepsK st
  clear st ck hb1
  go_wp2_with fail
  go_loopw [7] (fun kk wr => ∃ i : Nat, i ≤ 4 ∧ kk = .int .i64 i ∧ (∀ j, j < i → okAt len k j) ∧ Blk wr (w.heap.size) 23 #[.int .i64 (k 0), .int .i64 (k 1), .int .i64 (k 2), .int .i64 (k 3)] ∧ Blk wr (w.heap.size + 1) 31 #[.int .i64 0, .int .i64 0, .int .i64 0, .int .i64 0, .bool false, .slice none 0 0, .bool false, .slice none 0 0, .bool false, .slice none 0 0, .bool false, .slice none 0 0, .bool false, .slice none 0 0, .bool false, .slice none 0 0, .bool false, .slice none 0 0, .bool false, .slice none 0 0] ∧ Below w.heap.size w wr) (fun kk _ => 4 - (intOf kk).toNat)
  case atStart => exact ⟨0, by omega, rfl, fun _ h => by omega, ownK, ownK, belowB⟩
  case round =>
    obtain ⟨i, hi, rfl, hall, za, zr, zB⟩ := hrel
    clear oa or B
    rcases Nat.lt_or_ge i 4 with i4 | i4
    · have bi := hb i
      have HX := HB i i4
      unfold okAt at HX
      have hlt : decide ((i : Int) < 4) = true := decide_eq_true (by omega)
      have hci := hk4 i i4
      have ci := za.c i hci
      obtain ⟨x, hx⟩ : ∃ x, k i = x := ⟨_, rfl⟩
      rw [hx] at ci bi HX hci
      by_cases b0 : x < 0
      · have E := HX (by omega)
        clear HB HN HG cf cq hb hk4 hall HX
        go_wp2_with (first | (refine build_big rfl 31 #[] rfl #[.int .i64 0, .int .i64 0, .int .i64 0, .int .i64 0, .bool false, .slice none 0 0, .bool false, .slice none 0 0, .bool false, .slice none 0 0, .bool false, .slice none 0 0, .bool false, .slice none 0 0, .bool false, .slice none 0 0, .bool false, .slice none 0 0, .bool false, .slice none 0 0] (by kernel_rfl) ?_) | (refine store_big rfl 31 (.tmp 4) (.tmp 31) rfl (w.heap.size + 1) #[.int .i64 0, .int .i64 0, .int .i64 0, .int .i64 0, .bool false, .slice none 0 0, .bool false, .slice none 0 0, .bool false, .slice none 0 0, .bool false, .slice none 0 0, .bool false, .slice none 0 0, .bool false, .slice none 0 0, .bool false, .slice none 0 0, .bool false, .slice none 0 0] rfl rfl 31 #[.int .i64 0, .int .i64 0, .int .i64 0, .int .i64 0, .bool false, .slice none 0 0, .bool false, .slice none 0 0, .bool false, .slice none 0 0, .bool false, .slice none 0 0, .bool false, .slice none 0 0, .bool false, .slice none 0 0, .bool false, .slice none 0 0, .bool false, .slice none 0 0] ownK (by kernel_rfl) rfl (by simp [Value.oneCell']) (fun wz rz => ?_)))
        refine bodyPost_ret (results_row2 rfl _ _ (w.heap.size + 1) rfl (cs := #[.int .i64 0, .int .i64 0, .int .i64 0, .int .i64 0, .bool false, .slice none 0 0, .bool false, .slice none 0 0, .bool false, .slice none 0 0, .bool false, .slice none 0 0, .bool false, .slice none 0 0, .bool false, .slice none 0 0, .bool false, .slice none 0 0, .bool false, .slice none 0 0]) rz.blk Try.underlying31 rfl (by kernel_rfl)) rfl ?_
        exact CodeP.none E.out (rz.below zB (Nat.le_succ _))
      by_cases b1 : (len : Int) ≤ x
      · have E := HX (by omega)
        clear HB HN HG cf cq hb hk4 hall HX
        go_wp2_with (first | (refine build_big rfl 31 #[] rfl #[.int .i64 0, .int .i64 0, .int .i64 0, .int .i64 0, .bool false, .slice none 0 0, .bool false, .slice none 0 0, .bool false, .slice none 0 0, .bool false, .slice none 0 0, .bool false, .slice none 0 0, .bool false, .slice none 0 0, .bool false, .slice none 0 0, .bool false, .slice none 0 0] (by kernel_rfl) ?_) | (refine store_big rfl 31 (.tmp 4) (.tmp 31) rfl (w.heap.size + 1) #[.int .i64 0, .int .i64 0, .int .i64 0, .int .i64 0, .bool false, .slice none 0 0, .bool false, .slice none 0 0, .bool false, .slice none 0 0, .bool false, .slice none 0 0, .bool false, .slice none 0 0, .bool false, .slice none 0 0, .bool false, .slice none 0 0, .bool false, .slice none 0 0] rfl rfl 31 #[.int .i64 0, .int .i64 0, .int .i64 0, .int .i64 0, .bool false, .slice none 0 0, .bool false, .slice none 0 0, .bool false, .slice none 0 0, .bool false, .slice none 0 0, .bool false, .slice none 0 0, .bool false, .slice none 0 0, .bool false, .slice none 0 0, .bool false, .slice none 0 0] ownK (by kernel_rfl) rfl (by simp [Value.oneCell']) (fun wz rz => ?_)))
        refine bodyPost_ret (results_row2 rfl _ _ (w.heap.size + 1) rfl (cs := #[.int .i64 0, .int .i64 0, .int .i64 0, .int .i64 0, .bool false, .slice none 0 0, .bool false, .slice none 0 0, .bool false, .slice none 0 0, .bool false, .slice none 0 0, .bool false, .slice none 0 0, .bool false, .slice none 0 0, .bool false, .slice none 0 0, .bool false, .slice none 0 0]) rz.blk Try.underlying31 rfl (by kernel_rfl)) rfl ?_
        exact CodeP.none E.out (rz.below zB (Nat.le_succ _))
      go_wp2_with fail
      go_loopw [8] (fun mm wr => ∃ m : Nat, m ≤ i ∧ mm = .int .i64 m ∧ (∀ j, j < m → k j ≠ x) ∧ Blk wr (w.heap.size) 23 #[.int .i64 (k 0), .int .i64 (k 1), .int .i64 (k 2), .int .i64 (k 3)] ∧ Blk wr (w.heap.size + 1) 31 #[.int .i64 0, .int .i64 0, .int .i64 0, .int .i64 0, .bool false, .slice none 0 0, .bool false, .slice none 0 0, .bool false, .slice none 0 0, .bool false, .slice none 0 0, .bool false, .slice none 0 0, .bool false, .slice none 0 0, .bool false, .slice none 0 0, .bool false, .slice none 0 0] ∧ Below w.heap.size w wr) (fun mm _ => i - (intOf mm).toNat)
      case atStart => exact ⟨0, by omega, rfl, fun _ h => by omega, ownK, ownK, belowB⟩
      case round =>
        obtain ⟨m, hm, rfl, hal2, oa, or, B⟩ := hrel
        clear za zr zB ci
        rcases Nat.lt_or_ge m i with mi | mi
        · have hcm := hk4 m (by omega)
          have hlm : decide ((m : Int) < (i : Int)) = true := decide_eq_true (by omega)
          obtain ⟨y, hy⟩ : ∃ y, k m = y := ⟨_, rfl⟩
          rw [hy] at hcm
          by_cases e : x = y
          · subst e
            have E := HX (fun h => h.2 m mi hy)
            clear HB HN HG cf cq hb hk4 hall HX hal2
            have y_ : x = x := rfl
            obtain ⟨y, hyy⟩ : ∃ y, x = y := ⟨_, rfl⟩
            rw [hyy] at hcm
            have hq : (x == y) = true := by simp [hyy]
            go_wp2_with fail
            refine Reg.wp_chain (fun D v W => Below w.heap.size w W ∧ Blk W (w.heap.size) 23 #[.int .i64 (k 0), .int .i64 (k 1), .int .i64 (k 2), .int .i64 (k 3)] ∧ Blk W (w.heap.size + 1) 31 #[.int .i64 0, .int .i64 0, .int .i64 0, .int .i64 0, .bool false, .slice none 0 0, .bool false, .slice none 0 0, .bool false, .slice none 0 0, .bool false, .slice none 0 0, .bool false, .slice none 0 0, .bool false, .slice none 0 0, .bool false, .slice none 0 0, .bool false, .slice none 0 0]) (Reg.inl []) (Reg.gv []) Reg.None_ (fun _ => Reg.Any) (fun _ _ => False) (Reg.pl []) (Reg.pl [])
              (by kernel_rfl) (by kernel_rfl) (by kernel_rfl) (Reg.gv_some _ (by intro p hp; cases hp)) (fun _ => ⟨belowB, ownK, ownK⟩) (fun _ _ _ _ _ h => h) (fun _ _ _ _ _ _ _ _ _ _ _ _ _ => Reg.none_) (fun _ _ _ _ h => h.elim) (fun ops' Q' hops hQ => ?_)
            apply Reg.RC_pure (hc := rfl) (hst := rfl) (hw := rfl) (t := 37) (hd := rfl) (ht := Nat.le_of_ble_eq_true rfl)
            · intro D v W hc hj hf K' hK'
              go_step
              exact hK'.out
            · rfl
            apply Reg.RC_pure (hc := rfl) (hst := rfl) (hw := rfl) (t := 38) (hd := rfl) (ht := Nat.le_of_ble_eq_true rfl)
            · intro D v W hc hj hf K' hK'
              go_step
              exact hK'.out
            · rfl
            apply Reg.RC_pure (hc := rfl) (hst := rfl) (hw := rfl) (t := 39) (hd := rfl) (ht := Nat.le_of_ble_eq_true rfl)
            · intro D v W hc hj hf K' hK'
              obtain ⟨j0, oa, or⟩ := hj
              have c0 : World.cell? W ⟨w.heap.size, i, none⟩ = some (.int .i64 x) := oa.c _ hci
              go_step
              exact hK'.out
            · rfl
            apply Reg.RC_pure (hc := rfl) (hst := rfl) (hw := rfl) (t := 40) (hd := rfl) (ht := Nat.le_of_ble_eq_true rfl)
            · intro D v W hc hj hf K' hK'
              go_step
              exact hK'.out
            · rfl
            apply Reg.RC_pure (hc := rfl) (hst := rfl) (hw := rfl) (t := 41) (hd := rfl) (ht := Nat.le_of_ble_eq_true rfl)
            · intro D v W hc hj hf K' hK'
              go_step
              exact hK'.out
            · rfl
            apply Reg.RC_pure (hc := rfl) (hst := rfl) (hw := rfl) (t := 42) (hd := rfl) (ht := Nat.le_of_ble_eq_true rfl)
            · intro D v W hc hj hf K' hK'
              obtain ⟨j0, oa, or⟩ := hj
              have c0 : World.cell? W ⟨w.heap.size, m, none⟩ = some (.int .i64 y) := oa.c _ hcm
              go_step
              exact hK'.out
            · rfl
            apply Reg.RC_pure (hc := rfl) (hst := rfl) (hw := rfl) (t := 43) (hd := rfl) (ht := Nat.le_of_ble_eq_true rfl)
            · intro D v W hc hj hf K' hK'
              go_step
              exact hK'.out
            · rfl
            refine Reg.RC_end (fun D v w9 hd hj hf => ?_)
            obtain ⟨j0, oa, or⟩ := hj
            have B := j0
            clear hd hf j0
            refine hQ _ _ ?_
            clear hQ hops Q' ops'
            go_wp2_with (first | (refine build_big rfl 31 #[] rfl #[.int .i64 0, .int .i64 0, .int .i64 0, .int .i64 0, .bool false, .slice none 0 0, .bool false, .slice none 0 0, .bool false, .slice none 0 0, .bool false, .slice none 0 0, .bool false, .slice none 0 0, .bool false, .slice none 0 0, .bool false, .slice none 0 0, .bool false, .slice none 0 0] (by kernel_rfl) ?_) | (refine store_big rfl 31 (.tmp 4) (.tmp 44) rfl (w.heap.size + 1) #[.int .i64 0, .int .i64 0, .int .i64 0, .int .i64 0, .bool false, .slice none 0 0, .bool false, .slice none 0 0, .bool false, .slice none 0 0, .bool false, .slice none 0 0, .bool false, .slice none 0 0, .bool false, .slice none 0 0, .bool false, .slice none 0 0, .bool false, .slice none 0 0] rfl rfl 31 #[.int .i64 0, .int .i64 0, .int .i64 0, .int .i64 0, .bool false, .slice none 0 0, .bool false, .slice none 0 0, .bool false, .slice none 0 0, .bool false, .slice none 0 0, .bool false, .slice none 0 0, .bool false, .slice none 0 0, .bool false, .slice none 0 0, .bool false, .slice none 0 0] ownK (by kernel_rfl) rfl (by simp [Value.oneCell']) (fun wz rz => ?_)))
            refine bodyPost_ret (results_row2 rfl _ _ (w.heap.size + 1) rfl (cs := #[.int .i64 0, .int .i64 0, .int .i64 0, .int .i64 0, .bool false, .slice none 0 0, .bool false, .slice none 0 0, .bool false, .slice none 0 0, .bool false, .slice none 0 0, .bool false, .slice none 0 0, .bool false, .slice none 0 0, .bool false, .slice none 0 0, .bool false, .slice none 0 0]) rz.blk Try.underlying31 rfl (by kernel_rfl)) rfl ?_
            exact CodeP.none E.out (rz.below B (Nat.le_succ _))
          · have hq : (x == y) = false := by simpa using e
            go_wp2_with fail
            refine Reg.wp_chain (fun D v W => Below w.heap.size w W ∧ Blk W (w.heap.size) 23 #[.int .i64 (k 0), .int .i64 (k 1), .int .i64 (k 2), .int .i64 (k 3)] ∧ Blk W (w.heap.size + 1) 31 #[.int .i64 0, .int .i64 0, .int .i64 0, .int .i64 0, .bool false, .slice none 0 0, .bool false, .slice none 0 0, .bool false, .slice none 0 0, .bool false, .slice none 0 0, .bool false, .slice none 0 0, .bool false, .slice none 0 0, .bool false, .slice none 0 0, .bool false, .slice none 0 0]) (Reg.inl []) (Reg.gv []) Reg.None_ (fun _ => Reg.Any) (fun _ _ => False) (Reg.pl []) (Reg.pl [])
              (by kernel_rfl) (by kernel_rfl) (by kernel_rfl) (Reg.gv_some _ (by intro p hp; cases hp)) (fun _ => ⟨belowB, ownK, ownK⟩) (fun _ _ _ _ _ h => h) (fun _ _ _ _ _ _ _ _ _ _ _ _ _ => Reg.none_) (fun _ _ _ _ h => h.elim) (fun ops' Q' hops hQ => ?_)
            apply Reg.RC_pure (hc := rfl) (hst := rfl) (hw := rfl) (t := 37) (hd := rfl) (ht := Nat.le_of_ble_eq_true rfl)
            · intro D v W hc hj hf K' hK'
              go_step
              exact hK'.out
            · rfl
            apply Reg.RC_pure (hc := rfl) (hst := rfl) (hw := rfl) (t := 38) (hd := rfl) (ht := Nat.le_of_ble_eq_true rfl)
            · intro D v W hc hj hf K' hK'
              go_step
              exact hK'.out
            · rfl
            apply Reg.RC_pure (hc := rfl) (hst := rfl) (hw := rfl) (t := 39) (hd := rfl) (ht := Nat.le_of_ble_eq_true rfl)
            · intro D v W hc hj hf K' hK'
              obtain ⟨j0, oa, or⟩ := hj
              have c0 : World.cell? W ⟨w.heap.size, i, none⟩ = some (.int .i64 x) := oa.c _ hci
              go_step
              exact hK'.out
            · rfl
            apply Reg.RC_pure (hc := rfl) (hst := rfl) (hw := rfl) (t := 40) (hd := rfl) (ht := Nat.le_of_ble_eq_true rfl)
            · intro D v W hc hj hf K' hK'
              go_step
              exact hK'.out
            · rfl
            apply Reg.RC_pure (hc := rfl) (hst := rfl) (hw := rfl) (t := 41) (hd := rfl) (ht := Nat.le_of_ble_eq_true rfl)
            · intro D v W hc hj hf K' hK'
              go_step
              exact hK'.out
            · rfl
            apply Reg.RC_pure (hc := rfl) (hst := rfl) (hw := rfl) (t := 42) (hd := rfl) (ht := Nat.le_of_ble_eq_true rfl)
            · intro D v W hc hj hf K' hK'
              obtain ⟨j0, oa, or⟩ := hj
              have c0 : World.cell? W ⟨w.heap.size, m, none⟩ = some (.int .i64 y) := oa.c _ hcm
              go_step
              exact hK'.out
            · rfl
            apply Reg.RC_pure (hc := rfl) (hst := rfl) (hw := rfl) (t := 43) (hd := rfl) (ht := Nat.le_of_ble_eq_true rfl)
            · intro D v W hc hj hf K' hK'
              go_step
              exact hK'.out
            · rfl
            refine Reg.RC_end (fun D v w9 hd hj hf => ?_)
            obtain ⟨j0, oa, or⟩ := hj
            have B := j0
            clear hd hf j0
            refine hQ _ _ ?_
            clear hQ hops Q' ops'
            go_wp2
            go_roundw
            case rel =>
              refine ⟨m + 1, by omega, by go_num, fun j hj => ?_, ownK, ownK, belowB⟩
              rcases Nat.lt_or_ge j m with g | g
              · exact hal2 j g
              · obtain rfl : j = m := by omega
                rw [hy]; exact Ne.symm e
            case measure => simp [intOf]; omega
        · obtain rfl : m = i := by omega
          go_wp2
          go_roundw
          case rel =>
            refine ⟨m + 1, by omega, by go_num, fun j hj => ?_, ownK, ownK, belowB⟩
            rcases Nat.lt_or_ge j m with g | g
            · exact hall j g
            · obtain rfl : j = m := by omega
              unfold okAt
              rw [hx]
              exact ⟨by omega, hal2⟩
          case measure => simp [intOf]; omega
    · obtain rfl : i = 4 := by omega
      have OK : okIdx len k := fun j hj => hall j hj
      replace cf := cf OK
      replace cq := cq OK
      replace HN := HN OK
      replace HG := HG OK
      have ca0 := za.c 0 (hk4 0 (by omega))
      have ca1 := za.c 1 (hk4 1 (by omega))
      have ca2 := za.c 2 (hk4 2 (by omega))
      have ca3 := za.c 3 (hk4 3 (by omega))
      go_wp2_with fail
      refine (cf _ zB).mono ?_
      rintro e w2 ⟨rfl, st⟩
      have oa := za.steps st
      have or := zr.steps st
      have B := below_steps zB (Nat.le_refl _) st
      clear za zr zB st cf ca0 ca1 ca2 ca3
      have lr := or.lt
      by_cases hw : wd = 0
      · have E := HN hw
        subst hw
        clear cq HG HN HB hall hb OK hk4
        dsimp only
        go_wp2_with (first | (refine build_big rfl 31 #[] rfl #[.int .i64 0, .int .i64 0, .int .i64 0, .int .i64 0, .bool false, .slice none 0 0, .bool false, .slice none 0 0, .bool false, .slice none 0 0, .bool false, .slice none 0 0, .bool false, .slice none 0 0, .bool false, .slice none 0 0, .bool false, .slice none 0 0, .bool false, .slice none 0 0] (by kernel_rfl) ?_) | (refine store_big rfl 31 (.tmp 4) (.tmp 49) rfl (w.heap.size + 1) #[.int .i64 0, .int .i64 0, .int .i64 0, .int .i64 0, .bool false, .slice none 0 0, .bool false, .slice none 0 0, .bool false, .slice none 0 0, .bool false, .slice none 0 0, .bool false, .slice none 0 0, .bool false, .slice none 0 0, .bool false, .slice none 0 0, .bool false, .slice none 0 0] rfl rfl 31 #[.int .i64 0, .int .i64 0, .int .i64 0, .int .i64 0, .bool false, .slice none 0 0, .bool false, .slice none 0 0, .bool false, .slice none 0 0, .bool false, .slice none 0 0, .bool false, .slice none 0 0, .bool false, .slice none 0 0, .bool false, .slice none 0 0, .bool false, .slice none 0 0] ownK (by kernel_rfl) rfl (by simp [Value.oneCell']) (fun wz rz => ?_)))
        refine bodyPost_ret (results_row2 rfl _ _ (w.heap.size + 1) rfl (cs := #[.int .i64 0, .int .i64 0, .int .i64 0, .int .i64 0, .bool false, .slice none 0 0, .bool false, .slice none 0 0, .bool false, .slice none 0 0, .bool false, .slice none 0 0, .bool false, .slice none 0 0, .bool false, .slice none 0 0, .bool false, .slice none 0 0, .bool false, .slice none 0 0]) rz.blk Try.underlying31 rfl (by kernel_rfl)) rfl ?_
        exact CodeP.none E.out (rz.below B (Nat.le_succ _))
      · have E := HG hw
        have hz : (wd == 0) = false := by simpa using hw
        replace cq := cq hw
        have ca0 := oa.c 0 (hk4 0 (by omega))
        have ca1 := oa.c 1 (hk4 1 (by omega))
        have ca2 := oa.c 2 (hk4 2 (by omega))
        have ca3 := oa.c 3 (hk4 3 (by omega))
        clear HG HN HB hall hb OK hk4
        dsimp only
        go_wp2_with fail
        refine (cq _ B).mono ?_
        rintro e w3 ⟨cs, rfl, hq, ⟨hsz, hone⟩, st3⟩
        have or3 := or.steps st3
        have B3 := below_steps B (Nat.le_refl _) st3
        have hi : (Try.prog.info? 31).map (·.size) = some cs.size := by rw [hsz]; kernel_rfl
        clear or oa B cq hz st3 ca0 ca1 ca2 ca3
        dsimp only
        go_wp2_with (first | (refine store_big rfl 31 (.tmp 4) (.tmp 52) rfl (w.heap.size + 1) cs rfl rfl 31 #[.int .i64 0, .int .i64 0, .int .i64 0, .int .i64 0, .bool false, .slice none 0 0, .bool false, .slice none 0 0, .bool false, .slice none 0 0, .bool false, .slice none 0 0, .bool false, .slice none 0 0, .bool false, .slice none 0 0, .bool false, .slice none 0 0, .bool false, .slice none 0 0] or3 hi hsz.symm hone (fun wz rz => ?_)))
        refine bodyPost_ret (results_row2 rfl _ _ (w.heap.size + 1) rfl (cs := cs) rz.blk Try.underlying31 rfl hi) rfl ?_
        exact retC E.out (hq.keeps (rz.keeps rfl)) (rz.below B3 (Nat.le_succ _))
theorem rCode {v : Value} {l : PL} (k : Nat → Int) (w : World) (hv : Pts w v l) (hl : l.length ≤ 1000) (hb : ∀ i, -9223372036854775808 ≤ k i ∧ k i ≤ 9223372036854775807) :
    Calls Try.prog 9 #[v, .agg #[.int .i64 (k 0), .int .i64 (k 1), .int .i64 (k 2), .int .i64 (k 3)]] w (CodeP w l k) := by
  by_cases hc : chkP l = 0
  · exact rcode_in k w hv hl hb hc
  · exact rcode_bad k w hv hl hc
end Go.Proofs.Ytibdehlmflaodaa
