import Derived.Test.YtibdehlmflaodaaCQu
import Derived.Test.YtibdehlmflaodaaCQx
namespace Go.Proofs.Ytibdehlmflaodaa
open Go.RowKit
theorem codeS_cases {l : PL} (k : Nat → Int) (hl : l.length ≤ 40) : ((codeS l k = (8, noArr) ∨ codeS l k = (2, noArr)) ∨ codeS l k = (18, noArr)) ∨ (okIdx l.length k ∧ 0 < wid l (KK k) ∧ chkP l = 0 ∧ codeS l k = (0, bestOf l (KK k))) := by
  by_cases h : chkP l = 0
  · rcases codeS_ok k h with ⟨_, e⟩ | ⟨_, _, e⟩ | ⟨o, z, e⟩
    · exact .inl (.inl (.inr e))
    · exact .inl (.inr e)
    · exact .inr ⟨o, by have := wid_nonneg l (KK k); omega, h, e⟩
  · have e8 : chkP l = 8 := by
      unfold chkP at h ⊢
      rw [if_neg (by omega)] at h ⊢
      split at h
      · exact absurd rfl h
      · rename_i g; rw [if_neg g]
    exact .inl (.inl (.inl (by unfold codeS; rw [if_pos h, e8])))
set_option maxHeartbeats 6400000 in
set_option maxRecDepth 1000000 in
theorem within_bad {v : Value} {l : PL} (k : Nat → Int) (c : Int) (w : World) (hv : Pts w v l) (hl : l.length ≤ 40) (hb : ∀ i, -9223372036854775808 ≤ k i ∧ k i ≤ 9223372036854775807) (h : codeS l k = (c, noArr)) (hc : (c = 8 ∨ c = 2) ∨ c = 18) :
    Calls Try.prog 7 #[v, .agg #[.int .i64 (k 0), .int .i64 (k 1), .int .i64 (k 2), .int .i64 (k 3)]] w fun e w' => e = .returned (.bool true) ∧ Below w.heap.size w w' := by
  have qc : ∀ w', Steps w w' → Calls Try.prog 8 #[v, .agg #[.int .i64 (k 0), .int .i64 (k 1), .int .i64 (k 2), .int .i64 (k 3)]] w' (CodeP w' l k) := fun w' hs => qcode k w' (hv.steps hs) (by omega) hb
  unfold CodeP at qc
  rw [h] at qc
  dsimp only at qc
  have hk4 : ∀ i, i < 4 → (#[.int .i64 (k 0), .int .i64 (k 1), .int .i64 (k 2), .int .i64 (k 3)] : Array Value)[i]? = some (.int .i64 (k i)) := fun i hi => by rcases (show i = 0 ∨ i = 1 ∨ i = 2 ∨ i = 3 by omega) with rfl | rfl | rfl | rfl <;> rfl
  obtain ⟨ao, cap, rfl⟩ := hv.shape
  obtain ⟨n, hln⟩ : ∃ n, l.length = n := ⟨_, rfl⟩
  rw [hln] at qc hl ⊢
  clear hv hln hb h
  have g1 : ¬ (40 : Int) < (n : Int) := by omega
  go_enter Try.func7, Try.ntmps7
  go_wp2_with fail
  refine (lalive20 _).mono ?_
  rintro e w1 ⟨rfl, hs1⟩
  have oa : Blk w1 (w.heap.size) 23 #[.int .i64 (k 0), .int .i64 (k 1), .int .i64 (k 2), .int .i64 (k 3)] := Blk.stepsK hs1
  have B : Below w.heap.size w w1 := belowA hs1
  clear hs1
  have ca0 := oa.c 0 (hk4 0 (by omega))
  have ca1 := oa.c 1 (hk4 1 (by omega))
  have ca2 := oa.c 2 (hk4 2 (by omega))
  have ca3 := oa.c 3 (hk4 3 (by omega))
  go_wp2_with fail
  refine (qc _ belowB).mono ?_
  rintro e w3 ⟨u, rfl, hq3, hs3⟩
  obtain ⟨CA, rfl, qa⟩ := hq3.qm
  replace oa := oa.steps hs3
  have B3 := below_steps B (Nat.le_refl _) hs3
  have ia : (Try.prog.info? 31).map (·.size) = some CA.size := by rw [qa.1]; kernel_rfl
  have sa := qa.1
  have na := qa.2.1
  clear hq3 hs3 qc B ca0 ca1 ca2 ca3
  have z3 := oa.lt
  dsimp only
  iterate 13 (first | go_values | go_skip | go_guarded | go_step | go_upon)
  (refine store_big rfl 31 (.tmp 6) (.tmp 42) rfl (w3.heap.size) CA rfl rfl 31 #[.int .i64 0, .int .i64 0, .int .i64 0, .int .i64 0, .bool false, .slice none 0 0, .bool false, .slice none 0 0, .bool false, .slice none 0 0, .bool false, .slice none 0 0, .bool false, .slice none 0 0, .bool false, .slice none 0 0, .bool false, .slice none 0 0, .bool false, .slice none 0 0] ownK ia sa.symm na (fun w4 r4 => ?_); have oq4 := r4.blk; have B4 := r4.below (B3.alloc B3.size _) B3.size; have oa4 := r4.far (oa.alloc _) (by omega); have kp4 : Keeps w3 w4 := Keeps.trans keepsB (r4.keeps rfl))
  rcases hc with (rfl | rfl) | rfl
  all_goals
    repeat' (first | go_values | go_skip | go_guarded | go_step | go_upon)
    go_returns
    exact ⟨rfl, belowB⟩
theorem cntA_le (a : Arr) (x : Int) : ∀ m, cntA a x m ≤ m
  | 0 => Nat.le_refl _
  | m + 1 => by have := cntA_le a x m; unfold cntA; split <;> omega
set_option maxHeartbeats 6400000 in
set_option maxRecDepth 1000000 in
theorem within_ok {v : Value} {l : PL} (k : Nat → Int) (w : World) (hv : Pts w v l) (hl : l.length ≤ 40) (hb : ∀ i, -9223372036854775808 ≤ k i ∧ k i ≤ 9223372036854775807) (ho : okIdx l.length k) (hw : 0 < wid l (KK k)) (hc : chkP l = 0) (h : codeS l k = (0, bestOf l (KK k))) :
    Calls Try.prog 7 #[v, .agg #[.int .i64 (k 0), .int .i64 (k 1), .int .i64 (k 2), .int .i64 (k 3)]] w fun e w' => e = .returned (.bool true) ∧ Below w.heap.size w w' := by
  obtain ⟨mm, bk⟩ := best_backs hw (fun i => KK_lt ho i)
  have hpt := fun i (hi : i < 4) => chk_pts hc _ (bk.lt i hi)
  have nm := bestOf_num (fun i => chk_pts hc _ (KK_lt ho i)) hw
  have hn : 0 < (bestOf l (KK k)).n := by rw [(bestOf_spec l (KK k) hw).2.1]; exact hw
  have bi := best_in hw
  have once := fun i (hi : i < 4) => best_once ho hw hi
  have qc : ∀ w', Steps w w' → Calls Try.prog 8 #[v, .agg #[.int .i64 (k 0), .int .i64 (k 1), .int .i64 (k 2), .int .i64 (k 3)]] w' (CodeP w' l k) := fun w' hs => qcode k w' (hv.steps hs) (by omega) hb
  unfold CodeP at qc
  rw [h] at qc
  dsimp only at qc
  have hk4 : ∀ i, i < 4 → (#[.int .i64 (k 0), .int .i64 (k 1), .int .i64 (k 2), .int .i64 (k 3)] : Array Value)[i]? = some (.int .i64 (k i)) := fun i hi => by rcases (show i = 0 ∨ i = 1 ∨ i = 2 ∨ i = 3 by omega) with rfl | rfl | rfl | rfl <;> rfl
  obtain ⟨ao, cap, rfl⟩ := hv.shape
  have hki : ∀ i, i < 4 → 0 ≤ k i ∧ k i < l.length := fun i hi => (ho i hi).1
  generalize bestOf l (KK k) = AA at *
  obtain ⟨n, hln⟩ : ∃ n, l.length = n := ⟨_, rfl⟩
  rw [hln] at qc hl hki ⊢
  have HL := Hid.mk_ hln
  have Hbk := Hid.mk_ bk
  have Hpt := Hid.mk_ hpt
  clear hln hb h ho hw hc bk hpt
  have Hbi := Hid.mk_ bi
  have Hon := Hid.mk_ once
  have Hki := Hid.mk_ hki
  have Hv := Hid.mk_ hv
  have Hnm := Hid.mk_ nm
  have Hn := Hid.mk_ hn
  clear bi once hki hv
  have g1 : ¬ (40 : Int) < (n : Int) := by omega
  go_enter Try.func7, Try.ntmps7
  go_wp2_with fail
  refine (lalive20 _).mono ?_
  rintro e w1 ⟨rfl, hs1⟩
  have oa : Blk w1 (w.heap.size) 23 #[.int .i64 (k 0), .int .i64 (k 1), .int .i64 (k 2), .int .i64 (k 3)] := Blk.stepsK hs1
  have B : Below w.heap.size w w1 := belowA hs1
  clear hs1
  have ca0 := oa.c 0 (hk4 0 (by omega))
  have ca1 := oa.c 1 (hk4 1 (by omega))
  have ca2 := oa.c 2 (hk4 2 (by omega))
  have ca3 := oa.c 3 (hk4 3 (by omega))
  go_wp2_with fail
  refine (qc _ belowB).mono ?_
  rintro e w3 ⟨u, rfl, hq3, hs3⟩
  obtain ⟨CA, rfl, qa⟩ := hq3.qm
  replace oa := oa.steps hs3
  have B3 := below_steps B (Nat.le_refl _) hs3
  have ia : (Try.prog.info? 31).map (·.size) = some CA.size := by rw [qa.1]; kernel_rfl
  have sa := qa.1
  have na := qa.2.1
  clear hq3 hs3 qc B ca0 ca1 ca2 ca3
  have z3 := oa.lt
  dsimp only
  iterate 13 (first | go_values | go_skip | go_guarded | go_step | go_upon)
  (refine store_big rfl 31 (.tmp 6) (.tmp 42) rfl (w3.heap.size) CA rfl rfl 31 #[.int .i64 0, .int .i64 0, .int .i64 0, .int .i64 0, .bool false, .slice none 0 0, .bool false, .slice none 0 0, .bool false, .slice none 0 0, .bool false, .slice none 0 0, .bool false, .slice none 0 0, .bool false, .slice none 0 0, .bool false, .slice none 0 0, .bool false, .slice none 0 0] ownK ia sa.symm na (fun w4 r4 => ?_); have oq4 := r4.blk; have B4 := r4.below (B3.alloc B3.size _) B3.size; have oa4 := r4.far (oa.alloc _) (by omega); have kp4 : Keeps w3 w4 := Keeps.trans keepsB (r4.keeps rfl))
  have qf := (QM.qf hn nm qa).keeps kp4
  clear hn nm
  have HQ := Hid.mk_ qf
  clear qa qf kp4 r4 sa na B3 oa z3 ia
  have B := B4
  have oa := oa4
  have oq := oq4
  clear B4 oa4 oq4
  have z3 := oq.lt
  repeat' (first | go_values | go_skip | go_guarded | go_step | go_upon)
  go_loopw [8] (fun kk wr => ∃ i : Nat, i ≤ 4 ∧ kk = .int .i64 i ∧ Blk wr (w.heap.size) 23 #[.int .i64 (k 0), .int .i64 (k 1), .int .i64 (k 2), .int .i64 (k 3)] ∧ Blk wr (w3.heap.size) 31 CA ∧ Below w.heap.size w wr ∧ Keeps w4 wr) (fun kk _ => 4 - (intOf kk).toNat)
  case atStart => exact ⟨0, by omega, rfl, ownK, ownK, belowB, keepsB⟩
  case round =>
    obtain ⟨i, hi, rfl, za, zq, zB, zC⟩ := hrel
    clear oa oq B
    have oa := za
    have oq := zq
    have B := zB
    have C := zC
    clear za zq zB zC
    rcases Nat.lt_or_ge i 4 with i4 | i4
    · have hlt : decide ((i : Int) < 4) = true := decide_eq_true (by omega)
      repeat' (first | go_values | go_skip | go_guarded | go_step | go_upon)
      go_loopw [9, 10] (fun cc mm wr => ∃ m : Nat, m ≤ 4 ∧ mm = .int .i64 m ∧ cc = .int .i64 (cntA AA (k i) m : Nat) ∧ Blk wr (w.heap.size) 23 #[.int .i64 (k 0), .int .i64 (k 1), .int .i64 (k 2), .int .i64 (k 3)] ∧ Blk wr (w3.heap.size) 31 CA ∧ Below w.heap.size w wr ∧ Keeps w4 wr) (fun _ kk _ => 4 - (intOf kk).toNat)
      case atStart => exact ⟨0, by omega, rfl, rfl, ownK, ownK, belowB, C⟩
      case round =>
        obtain ⟨m, hm, rfl, rfl, za, zq, zB, zC⟩ := hrel
        clear oa oq B C
        have oa := za
        have oq := zq
        have B := zB
        have C := zC
        clear za zq zB zC
        rcases Nat.lt_or_ge m 4 with m4 | m4
        · have hlm : decide ((m : Int) < 4) = true := decide_eq_true (by omega)
          have hA := HQ.out.2.2.1 m m4
          have hB := hk4 i i4
          have hcl := cntA_le AA (k i) m
          have HC : Hid (cntA AA (k i) (m + 1) = cntA AA (k i) m + if kA AA m = k i then 1 else 0) := Hid.mk_ rfl
          generalize kA AA m = x at hA HC
          obtain ⟨c, hcc⟩ : ∃ c, cntA AA (k i) m = c := ⟨_, rfl⟩
          rw [hcc] at hcl HC ⊢
          clear hcc
          by_cases exy : x = k i
          · have hxy : (x == k i) = true := by simpa using exy
            have HE := Hid.mk_ exy
            clear exy
            repeat' (first | go_values | go_skip | go_guarded | go_step | go_upon)
            refine Reg.wp_chain (fun D v W => Below w.heap.size w W ∧ Keeps w4 W ∧ Blk W (w.heap.size) 23 #[.int .i64 (k 0), .int .i64 (k 1), .int .i64 (k 2), .int .i64 (k 3)] ∧ Blk W (w3.heap.size) 31 CA) (Reg.inl []) (Reg.gv []) Reg.None_ (fun _ => Reg.Any) (fun _ _ => False) (Reg.pl []) (Reg.pl [])
              (by kernel_rfl) (by kernel_rfl) (by kernel_rfl) (Reg.gv_some _ (by intro p hp; cases hp)) (fun _ => ⟨belowB, keepsB, ownK, ownK⟩) (fun _ _ _ _ _ h => h) (fun _ _ _ _ _ _ _ _ _ _ _ _ _ => Reg.none_) (fun _ _ _ _ h => h.elim) (fun ops' Q' hops hQ => ?_)
            apply Reg.RC_pure (hc := rfl) (hst := rfl) (hw := rfl) (t := 67) (hd := rfl) (ht := Nat.le_of_ble_eq_true rfl)
            · intro D v W hc hj hf K' hK'
              go_step
              exact hK'.out
            · rfl
            apply Reg.RC_pure (hc := rfl) (hst := rfl) (hw := rfl) (t := 68) (hd := rfl) (ht := Nat.le_of_ble_eq_true rfl)
            · intro D v W hc hj hf K' hK'
              go_step
              exact hK'.out
            · rfl
            apply Reg.RC_pure (hc := rfl) (hst := rfl) (hw := rfl) (t := 69) (hd := rfl) (ht := Nat.le_of_ble_eq_true rfl)
            · intro D v W hc hj hf K' hK'
              go_step
              exact hK'.out
            · rfl
            apply Reg.RC_pure (hc := rfl) (hst := rfl) (hw := rfl) (t := 70) (hd := rfl) (ht := Nat.le_of_ble_eq_true rfl)
            · intro D v W hc hj hf K' hK'
              obtain ⟨j0, jk, oa, oq⟩ := hj
              have c0 : World.cell? W ⟨w3.heap.size, m, none⟩ = _ := oq.c _ hA
              go_step
              exact hK'.out
            · rfl
            apply Reg.RC_pure (hc := rfl) (hst := rfl) (hw := rfl) (t := 71) (hd := rfl) (ht := Nat.le_of_ble_eq_true rfl)
            · intro D v W hc hj hf K' hK'
              go_step
              exact hK'.out
            · rfl
            apply Reg.RC_pure (hc := rfl) (hst := rfl) (hw := rfl) (t := 72) (hd := rfl) (ht := Nat.le_of_ble_eq_true rfl)
            · intro D v W hc hj hf K' hK'
              go_step
              exact hK'.out
            · rfl
            apply Reg.RC_pure (hc := rfl) (hst := rfl) (hw := rfl) (t := 73) (hd := rfl) (ht := Nat.le_of_ble_eq_true rfl)
            · intro D v W hc hj hf K' hK'
              obtain ⟨j0, jk, oa, oq⟩ := hj
              have c0 : World.cell? W ⟨w.heap.size, i, none⟩ = _ := oa.c _ hB
              go_step
              exact hK'.out
            · rfl
            apply Reg.RC_pure (hc := rfl) (hst := rfl) (hw := rfl) (t := 74) (hd := rfl) (ht := Nat.le_of_ble_eq_true rfl)
            · intro D v W hc hj hf K' hK'
              go_step
              exact hK'.out
            · rfl
            refine Reg.RC_end (fun D v w9 hd hj hf => ?_)
            obtain ⟨j0, jk, oa, oq⟩ := hj
            have B := j0
            clear hd hf j0
            refine hQ _ _ ?_
            clear hQ hops Q' ops'
            repeat' (first | go_values | go_skip | go_guarded | go_step | go_upon)
            go_roundw
            case rel => exact ⟨m + 1, by omega, by go_num, by rw [HC.out, if_pos HE.out]; go_num, ownK, ownK, belowB, jk⟩
            case measure => simp [intOf]; omega
          · have hxy : (x == k i) = false := by simpa using exy
            have HE := Hid.mk_ exy
            clear exy
            repeat' (first | go_values | go_skip | go_guarded | go_step | go_upon)
            refine Reg.wp_chain (fun D v W => Below w.heap.size w W ∧ Keeps w4 W ∧ Blk W (w.heap.size) 23 #[.int .i64 (k 0), .int .i64 (k 1), .int .i64 (k 2), .int .i64 (k 3)] ∧ Blk W (w3.heap.size) 31 CA) (Reg.inl []) (Reg.gv []) Reg.None_ (fun _ => Reg.Any) (fun _ _ => False) (Reg.pl []) (Reg.pl [])
              (by kernel_rfl) (by kernel_rfl) (by kernel_rfl) (Reg.gv_some _ (by intro p hp; cases hp)) (fun _ => ⟨belowB, keepsB, ownK, ownK⟩) (fun _ _ _ _ _ h => h) (fun _ _ _ _ _ _ _ _ _ _ _ _ _ => Reg.none_) (fun _ _ _ _ h => h.elim) (fun ops' Q' hops hQ => ?_)
            apply Reg.RC_pure (hc := rfl) (hst := rfl) (hw := rfl) (t := 67) (hd := rfl) (ht := Nat.le_of_ble_eq_true rfl)
            · intro D v W hc hj hf K' hK'
              go_step
              exact hK'.out
            · rfl
            apply Reg.RC_pure (hc := rfl) (hst := rfl) (hw := rfl) (t := 68) (hd := rfl) (ht := Nat.le_of_ble_eq_true rfl)
            · intro D v W hc hj hf K' hK'
              go_step
              exact hK'.out
            · rfl
            apply Reg.RC_pure (hc := rfl) (hst := rfl) (hw := rfl) (t := 69) (hd := rfl) (ht := Nat.le_of_ble_eq_true rfl)
            · intro D v W hc hj hf K' hK'
              go_step
              exact hK'.out
            · rfl
            apply Reg.RC_pure (hc := rfl) (hst := rfl) (hw := rfl) (t := 70) (hd := rfl) (ht := Nat.le_of_ble_eq_true rfl)
            · intro D v W hc hj hf K' hK'
              obtain ⟨j0, jk, oa, oq⟩ := hj
              have c0 : World.cell? W ⟨w3.heap.size, m, none⟩ = _ := oq.c _ hA
              go_step
              exact hK'.out
            · rfl
            apply Reg.RC_pure (hc := rfl) (hst := rfl) (hw := rfl) (t := 71) (hd := rfl) (ht := Nat.le_of_ble_eq_true rfl)
            · intro D v W hc hj hf K' hK'
              go_step
              exact hK'.out
            · rfl
            apply Reg.RC_pure (hc := rfl) (hst := rfl) (hw := rfl) (t := 72) (hd := rfl) (ht := Nat.le_of_ble_eq_true rfl)
            · intro D v W hc hj hf K' hK'
              go_step
              exact hK'.out
            · rfl
            apply Reg.RC_pure (hc := rfl) (hst := rfl) (hw := rfl) (t := 73) (hd := rfl) (ht := Nat.le_of_ble_eq_true rfl)
            · intro D v W hc hj hf K' hK'
              obtain ⟨j0, jk, oa, oq⟩ := hj
              have c0 : World.cell? W ⟨w.heap.size, i, none⟩ = _ := oa.c _ hB
              go_step
              exact hK'.out
            · rfl
            apply Reg.RC_pure (hc := rfl) (hst := rfl) (hw := rfl) (t := 74) (hd := rfl) (ht := Nat.le_of_ble_eq_true rfl)
            · intro D v W hc hj hf K' hK'
              go_step
              exact hK'.out
            · rfl
            refine Reg.RC_end (fun D v w9 hd hj hf => ?_)
            obtain ⟨j0, jk, oa, oq⟩ := hj
            have B := j0
            clear hd hf j0
            refine hQ _ _ ?_
            clear hQ hops Q' ops'
            repeat' (first | go_values | go_skip | go_guarded | go_step | go_upon)
            go_roundw
            case rel => exact ⟨m + 1, by omega, by go_num, by rw [HC.out, if_neg HE.out]; rfl, ownK, ownK, belowB, jk⟩
            case measure => simp [intOf]; omega
        · obtain rfl : m = 4 := by omega
          rw [Hon.out i i4]
          rw [show ((1 : Nat) : Int) = 1 from rfl, show ((4 : Nat) : Int) = 4 from rfl]
          have bi := Hbi.out
          have hn := Hn.out
          rcases (show i = 0 ∨ i = 1 ∨ i = 2 ∨ i = 3 by omega) with rfl | rfl | rfl | rfl
          · rw [show ((0 : Nat) : Int) = 0 from rfl]
            obtain ⟨hk0, hk1⟩ := Hki.out 0 i4
            have g2 : ¬ k 0 < 0 := by omega
            have g3 : ¬ (n : Int) ≤ k 0 := by omega
            have ca : World.cell? wr ⟨w.heap.size, 0, none⟩ = _ := oa.c 0 (hk4 0 i4)
            obtain ⟨t1, t2, t3, t4, t5, t6, t7, t8, q0, q1, q2, q3, f⟩ := HQ.out.2.2.2 0 i4
            have cq0 : World.cell? wr ⟨w3.heap.size, 4, none⟩ = some (.bool t1) := oq.c 4 q0
            have cq1 : World.cell? wr ⟨w3.heap.size, 5, none⟩ = some (.slice t2 t3 t4) := oq.c 5 q1
            have cq2 : World.cell? wr ⟨w3.heap.size, 6, none⟩ = some (.bool t5) := oq.c 6 q2
            have cq3 : World.cell? wr ⟨w3.heap.size, 7, none⟩ = some (.slice t6 t7 t8) := oq.c 7 q3
            have bt : ∀ w', Keeps w4 w' → Calls Try.prog 24 #[.agg #[.bool t1, .slice t2 t3 t4, .bool t5, .slice t6 t7 t8], .int .i64 (0), .int .i64 1] w' fun e w2 => e = .returned (.bool true) ∧ Steps w' w2 := fun w' kp => lbetween w' (f.keeps kp) ((rA_sz Hnm.out hn 0).mono (by omega)) (by omega) (by omega) (frac_ge hn (by have := bi.1.1; show (0 : Int) * AA.n ≤ AA.a1; omega)) (frac_le hn (by have := bi.1.2; show AA.a1 ≤ (1 : Int) * AA.n; omega))
            clear q0 q1 q2 q3 f hk0 hk1 bi hn
            repeat' (first | go_values | go_skip | go_guarded | go_step | go_upon)
            refine (bt _ keepsB).mono ?_
            rintro e w6 ⟨rfl, hs6⟩
            have oa6 : Blk w6 (w.heap.size) 23 #[.int .i64 (k 0), .int .i64 (k 1), .int .i64 (k 2), .int .i64 (k 3)] := Blk.stepsK hs6
            have oq6 : Blk w6 (w3.heap.size) 31 CA := Blk.stepsK hs6
            have B6 : Below w.heap.size w w6 := below_steps B (Nat.le_refl _) hs6
            have C6 : Keeps w4 w6 := Keeps.then_ C hs6
            clear hs6 oa oq B C ca cq0 cq1 cq2 cq3 bt g2 g3
            dsimp only
            repeat' (first | go_values | go_skip | go_guarded | go_step | go_upon)
            go_roundw
            case rel => exact ⟨1, by omega, by go_num, ownK, ownK, belowB, keepsB⟩
            case measure => simp [intOf]
          · rw [show ((1 : Nat) : Int) = 1 from rfl]
            obtain ⟨hk0, hk1⟩ := Hki.out 1 i4
            have g2 : ¬ k 1 < 0 := by omega
            have g3 : ¬ (n : Int) ≤ k 1 := by omega
            have ca : World.cell? wr ⟨w.heap.size, 1, none⟩ = _ := oa.c 1 (hk4 1 i4)
            obtain ⟨t1, t2, t3, t4, t5, t6, t7, t8, q0, q1, q2, q3, f⟩ := HQ.out.2.2.2 1 i4
            have cq0 : World.cell? wr ⟨w3.heap.size, 8, none⟩ = some (.bool t1) := oq.c 8 q0
            have cq1 : World.cell? wr ⟨w3.heap.size, 9, none⟩ = some (.slice t2 t3 t4) := oq.c 9 q1
            have cq2 : World.cell? wr ⟨w3.heap.size, 10, none⟩ = some (.bool t5) := oq.c 10 q2
            have cq3 : World.cell? wr ⟨w3.heap.size, 11, none⟩ = some (.slice t6 t7 t8) := oq.c 11 q3
            have bt : ∀ w', Keeps w4 w' → Calls Try.prog 24 #[.agg #[.bool t1, .slice t2 t3 t4, .bool t5, .slice t6 t7 t8], .int .i64 (-1), .int .i64 1] w' fun e w2 => e = .returned (.bool true) ∧ Steps w' w2 := fun w' kp => lbetween w' (f.keeps kp) ((rA_sz Hnm.out hn 1).mono (by omega)) (by omega) (by omega) (frac_ge hn (by have := bi.2.1.1; show (-1 : Int) * AA.n ≤ AA.a2; omega)) (frac_le hn (by have := bi.2.1.2; show AA.a2 ≤ (1 : Int) * AA.n; omega))
            clear q0 q1 q2 q3 f hk0 hk1 bi hn
            repeat' (first | go_values | go_skip | go_guarded | go_step | go_upon)
            refine (bt _ keepsB).mono ?_
            rintro e w6 ⟨rfl, hs6⟩
            have oa6 : Blk w6 (w.heap.size) 23 #[.int .i64 (k 0), .int .i64 (k 1), .int .i64 (k 2), .int .i64 (k 3)] := Blk.stepsK hs6
            have oq6 : Blk w6 (w3.heap.size) 31 CA := Blk.stepsK hs6
            have B6 : Below w.heap.size w w6 := below_steps B (Nat.le_refl _) hs6
            have C6 : Keeps w4 w6 := Keeps.then_ C hs6
            clear hs6 oa oq B C ca cq0 cq1 cq2 cq3 bt g2 g3
            dsimp only
            repeat' (first | go_values | go_skip | go_guarded | go_step | go_upon)
            go_roundw
            case rel => exact ⟨2, by omega, by go_num, ownK, ownK, belowB, keepsB⟩
            case measure => simp [intOf]
          · rw [show ((2 : Nat) : Int) = 2 from rfl]
            obtain ⟨hk0, hk1⟩ := Hki.out 2 i4
            have g2 : ¬ k 2 < 0 := by omega
            have g3 : ¬ (n : Int) ≤ k 2 := by omega
            have ca : World.cell? wr ⟨w.heap.size, 2, none⟩ = _ := oa.c 2 (hk4 2 i4)
            obtain ⟨t1, t2, t3, t4, t5, t6, t7, t8, q0, q1, q2, q3, f⟩ := HQ.out.2.2.2 2 i4
            have cq0 : World.cell? wr ⟨w3.heap.size, 12, none⟩ = some (.bool t1) := oq.c 12 q0
            have cq1 : World.cell? wr ⟨w3.heap.size, 13, none⟩ = some (.slice t2 t3 t4) := oq.c 13 q1
            have cq2 : World.cell? wr ⟨w3.heap.size, 14, none⟩ = some (.bool t5) := oq.c 14 q2
            have cq3 : World.cell? wr ⟨w3.heap.size, 15, none⟩ = some (.slice t6 t7 t8) := oq.c 15 q3
            have bt : ∀ w', Keeps w4 w' → Calls Try.prog 24 #[.agg #[.bool t1, .slice t2 t3 t4, .bool t5, .slice t6 t7 t8], .int .i64 (0), .int .i64 1] w' fun e w2 => e = .returned (.bool true) ∧ Steps w' w2 := fun w' kp => lbetween w' (f.keeps kp) ((rA_sz Hnm.out hn 2).mono (by omega)) (by omega) (by omega) (frac_ge hn (by have := bi.2.2.1.1; show (0 : Int) * AA.n ≤ AA.b1; omega)) (frac_le hn (by have := bi.2.2.1.2; show AA.b1 ≤ (1 : Int) * AA.n; omega))
            clear q0 q1 q2 q3 f hk0 hk1 bi hn
            repeat' (first | go_values | go_skip | go_guarded | go_step | go_upon)
            refine (bt _ keepsB).mono ?_
            rintro e w6 ⟨rfl, hs6⟩
            have oa6 : Blk w6 (w.heap.size) 23 #[.int .i64 (k 0), .int .i64 (k 1), .int .i64 (k 2), .int .i64 (k 3)] := Blk.stepsK hs6
            have oq6 : Blk w6 (w3.heap.size) 31 CA := Blk.stepsK hs6
            have B6 : Below w.heap.size w w6 := below_steps B (Nat.le_refl _) hs6
            have C6 : Keeps w4 w6 := Keeps.then_ C hs6
            clear hs6 oa oq B C ca cq0 cq1 cq2 cq3 bt g2 g3
            dsimp only
            repeat' (first | go_values | go_skip | go_guarded | go_step | go_upon)
            go_roundw
            case rel => exact ⟨3, by omega, by go_num, ownK, ownK, belowB, keepsB⟩
            case measure => simp [intOf]
          · rw [show ((3 : Nat) : Int) = 3 from rfl]
            obtain ⟨hk0, hk1⟩ := Hki.out 3 i4
            have g2 : ¬ k 3 < 0 := by omega
            have g3 : ¬ (n : Int) ≤ k 3 := by omega
            have ca : World.cell? wr ⟨w.heap.size, 3, none⟩ = _ := oa.c 3 (hk4 3 i4)
            obtain ⟨t1, t2, t3, t4, t5, t6, t7, t8, q0, q1, q2, q3, f⟩ := HQ.out.2.2.2 3 i4
            have cq0 : World.cell? wr ⟨w3.heap.size, 16, none⟩ = some (.bool t1) := oq.c 16 q0
            have cq1 : World.cell? wr ⟨w3.heap.size, 17, none⟩ = some (.slice t2 t3 t4) := oq.c 17 q1
            have cq2 : World.cell? wr ⟨w3.heap.size, 18, none⟩ = some (.bool t5) := oq.c 18 q2
            have cq3 : World.cell? wr ⟨w3.heap.size, 19, none⟩ = some (.slice t6 t7 t8) := oq.c 19 q3
            have bt : ∀ w', Keeps w4 w' → Calls Try.prog 24 #[.agg #[.bool t1, .slice t2 t3 t4, .bool t5, .slice t6 t7 t8], .int .i64 (-1), .int .i64 1] w' fun e w2 => e = .returned (.bool true) ∧ Steps w' w2 := fun w' kp => lbetween w' (f.keeps kp) ((rA_sz Hnm.out hn 3).mono (by omega)) (by omega) (by omega) (frac_ge hn (by have := bi.2.2.2.1.1; show (-1 : Int) * AA.n ≤ AA.b2; omega)) (frac_le hn (by have := bi.2.2.2.1.2; show AA.b2 ≤ (1 : Int) * AA.n; omega))
            clear q0 q1 q2 q3 f hk0 hk1 bi hn
            repeat' (first | go_values | go_skip | go_guarded | go_step | go_upon)
            refine (bt _ keepsB).mono ?_
            rintro e w6 ⟨rfl, hs6⟩
            have oa6 : Blk w6 (w.heap.size) 23 #[.int .i64 (k 0), .int .i64 (k 1), .int .i64 (k 2), .int .i64 (k 3)] := Blk.stepsK hs6
            have oq6 : Blk w6 (w3.heap.size) 31 CA := Blk.stepsK hs6
            have B6 : Below w.heap.size w w6 := below_steps B (Nat.le_refl _) hs6
            have C6 : Keeps w4 w6 := Keeps.then_ C hs6
            clear hs6 oa oq B C ca cq0 cq1 cq2 cq3 bt g2 g3
            dsimp only
            repeat' (first | go_values | go_skip | go_guarded | go_step | go_upon)
            go_roundw
            case rel => exact ⟨4, by omega, by go_num, ownK, ownK, belowB, keepsB⟩
            case measure => simp [intOf]
    · obtain rfl : i = 4 := by omega
      rw [show ((4 : Nat) : Int) = 4 from rfl]
      have bi := Hbi.out
      have hn := Hn.out
      obtain ⟨t1, t2, t3, t4, t5, t6, t7, t8, q0, q1, q2, q3, f0⟩ := HQ.out.2.2.2 0 (by omega)
      obtain ⟨u1, u2, u3, u4, u5, u6, u7, u8, q8, q9, q10, q11, f2⟩ := HQ.out.2.2.2 2 (by omega)
      have cq4 : World.cell? wr ⟨w3.heap.size, 4, none⟩ = some (.bool t1) := oq.c 4 q0
      have cq5 : World.cell? wr ⟨w3.heap.size, 5, none⟩ = some (.slice t2 t3 t4) := oq.c 5 q1
      have cq6 : World.cell? wr ⟨w3.heap.size, 6, none⟩ = some (.bool t5) := oq.c 6 q2
      have cq7 : World.cell? wr ⟨w3.heap.size, 7, none⟩ = some (.slice t6 t7 t8) := oq.c 7 q3
      have cq12 : World.cell? wr ⟨w3.heap.size, 12, none⟩ = some (.bool u1) := oq.c 12 q8
      have cq13 : World.cell? wr ⟨w3.heap.size, 13, none⟩ = some (.slice u2 u3 u4) := oq.c 13 q9
      have cq14 : World.cell? wr ⟨w3.heap.size, 14, none⟩ = some (.bool u5) := oq.c 14 q10
      have cq15 : World.cell? wr ⟨w3.heap.size, 15, none⟩ = some (.slice u6 u7 u8) := oq.c 15 q11
      have ad : ∀ w', Keeps w4 w' → Calls Try.prog 25 #[.agg #[.bool t1, .slice t2 t3 t4, .bool t5, .slice t6 t7 t8], .agg #[.bool u1, .slice u2 u3 u4, .bool u5, .slice u6 u7 u8]] w' fun e w2 => ∃ v, e = .returned (.tuple #[v, .int .i64 0]) ∧ FR w2 v (rA AA 0 + rA AA 2) ∧ Steps w' w2 := fun w' kp => fAddQ w' (f0.keeps kp) (f2.keeps kp) (rA_sz Hnm.out hn 0) (rA_sz Hnm.out hn 2) (by omega)
      have bt : ∀ w' v, FR w' v (rA AA 0 + rA AA 2) → Calls Try.prog 24 #[v, .int .i64 0, .int .i64 1] w' fun e w2 => e = .returned (.bool true) ∧ Steps w' w2 := fun w' v h => lbetween w' h (((rA_sz Hnm.out hn 0).add (rA_sz Hnm.out hn 2)).mono (by omega)) (by omega) (by omega) (by unfold rA; rw [frac_sum]; exact frac_ge hn (by show (0 : Int) * AA.n ≤ AA.a1 + AA.b1; omega)) (by unfold rA; rw [frac_sum]; exact frac_le hn (by show AA.a1 + AA.b1 ≤ (1 : Int) * AA.n; omega))
      clear q0 q1 q2 q3 q8 q9 q10 q11 f0 f2 bi hn
      repeat' (first | go_values | go_skip | go_guarded | go_step | go_upon)
      refine (ad _ keepsB).mono ?_
      rintro e w6 ⟨vs, rfl, hvs, hs6⟩
      have oa6 : Blk w6 (w.heap.size) 23 #[.int .i64 (k 0), .int .i64 (k 1), .int .i64 (k 2), .int .i64 (k 3)] := Blk.stepsK hs6
      have oq6 : Blk w6 (w3.heap.size) 31 CA := Blk.stepsK hs6
      have B6 : Below w.heap.size w w6 := below_steps B (Nat.le_refl _) hs6
      have C6 : Keeps w4 w6 := Keeps.then_ C hs6
      obtain ⟨s1, s2, s3, s4, s5, s6, s7, s8, rfl⟩ := hvs.shape
      have Hs := Hid.mk_ hvs
      clear hs6 oa oq B C hvs cq4 cq5 cq6 cq7 cq12 cq13 cq14 cq15 ad
      dsimp only
      repeat' (first | go_values | go_skip | go_guarded | go_step | go_upon)
      refine (bt _ _ (Hs.out.keeps keepsB)).mono ?_
      rintro e w7 ⟨rfl, hs7⟩
      have zz6 := B6.size
      have oq : Blk w7 (w3.heap.size) 31 CA := Blk.stepsK hs7
      have B : Below w.heap.size w w7 := belowA hs7
      have kk : Keeps w4 w7 := Keeps.then_ keepsB hs7
      clear hs7 oa6 oq6 B6 C6 bt
      have z3 := oq.lt
      have bk := Hbk.out
      have ln := HL.out
      obtain ⟨-, hcap, hm⟩ := Hv.out.cells
      obtain ⟨b, o, rfl, hb, hcell⟩ := hm (by have := bk.lt 0 (by omega); omega)
      have l0 := bk.lt 0 (by omega)
      have p0 := Hpt.out 0 (by omega)
      have c00 := (hcell (mm 0) l0).1
      have c01 := (hcell (mm 0) l0).2
      have k0 := bk.k 0 (by omega)
      have qk0 := HQ.out.2.2.1 0 (by omega)
      rw [k0] at qk0
      have l1 := bk.lt 1 (by omega)
      have p1 := Hpt.out 1 (by omega)
      have c10 := (hcell (mm 1) l1).1
      have c11 := (hcell (mm 1) l1).2
      have k1 := bk.k 1 (by omega)
      have qk1 := HQ.out.2.2.1 1 (by omega)
      rw [k1] at qk1
      have l2 := bk.lt 2 (by omega)
      have p2 := Hpt.out 2 (by omega)
      have c20 := (hcell (mm 2) l2).1
      have c21 := (hcell (mm 2) l2).2
      have k2 := bk.k 2 (by omega)
      have qk2 := HQ.out.2.2.1 2 (by omega)
      rw [k2] at qk2
      have l3 := bk.lt 3 (by omega)
      have p3 := Hpt.out 3 (by omega)
      have c30 := (hcell (mm 3) l3).1
      have c31 := (hcell (mm 3) l3).2
      have k3 := bk.k 3 (by omega)
      have qk3 := HQ.out.2.2.1 3 (by omega)
      rw [k3] at qk3
      have X2 := bk.x2
      have Y2 := bk.y2
      have X3 := bk.x3
      have Y3 := bk.y3
      unfold pt at X2 Y2 X3 Y3 p0 p1 p2 p3
      rw [ln] at l0 l1 l2 l3
      obtain ⟨m0, hm0⟩ : ∃ z, mm 0 = z := ⟨_, rfl⟩
      obtain ⟨m1, hm1⟩ : ∃ z, mm 1 = z := ⟨_, rfl⟩
      obtain ⟨m2, hm2⟩ : ∃ z, mm 2 = z := ⟨_, rfl⟩
      obtain ⟨m3, hm3⟩ : ∃ z, mm 3 = z := ⟨_, rfl⟩
      rw [hm0] at l0 p0 c00 c01 qk0
      rw [hm1] at l1 p1 c10 c11 qk1
      rw [hm2] at l2 p2 c20 c21 qk2
      rw [hm3] at l3 p3 c30 c31 qk3
      rw [hm0, hm1, hm2] at X2 Y2
      rw [hm0, hm1, hm3] at X3 Y3
      obtain ⟨x0, hx0⟩ : ∃ z, (l.getD m0 (0, 0)).1 = z := ⟨_, rfl⟩
      obtain ⟨y0, hy0⟩ : ∃ z, (l.getD m0 (0, 0)).2 = z := ⟨_, rfl⟩
      rw [hx0] at c00
      rw [hy0] at c01
      rw [hx0, hy0] at p0
      obtain ⟨x1, hx1⟩ : ∃ z, (l.getD m1 (0, 0)).1 = z := ⟨_, rfl⟩
      obtain ⟨y1, hy1⟩ : ∃ z, (l.getD m1 (0, 0)).2 = z := ⟨_, rfl⟩
      rw [hx1] at c10
      rw [hy1] at c11
      rw [hx1, hy1] at p1
      obtain ⟨x2, hx2⟩ : ∃ z, (l.getD m2 (0, 0)).1 = z := ⟨_, rfl⟩
      obtain ⟨y2, hy2⟩ : ∃ z, (l.getD m2 (0, 0)).2 = z := ⟨_, rfl⟩
      rw [hx2] at c20
      rw [hy2] at c21
      rw [hx2, hy2] at p2
      obtain ⟨x3, hx3⟩ : ∃ z, (l.getD m3 (0, 0)).1 = z := ⟨_, rfl⟩
      obtain ⟨y3, hy3⟩ : ∃ z, (l.getD m3 (0, 0)).2 = z := ⟨_, rfl⟩
      rw [hx3] at c30
      rw [hy3] at c31
      rw [hx3, hy3] at p3
      rw [hx0, hy0, hx1, hy1, hx2] at X2
      rw [hx0, hy0, hx1, hy1, hy2] at Y2
      rw [hx0, hy0, hx1, hy1, hx3] at X3
      rw [hx0, hy0, hx1, hy1, hy3] at Y3
      unfold okp at p0 p1 p2 p3
      obtain ⟨ux, hux⟩ : ∃ z, x1 - x0 = z := ⟨_, rfl⟩
      have bux : -4194304 ≤ ux ∧ ux ≤ 4194304 := by omega
      have wux : wrap64 (x1 - x0) = ux := by rw [← hux]; unfold wrap64; omega
      obtain ⟨uy, huy⟩ : ∃ z, y1 - y0 = z := ⟨_, rfl⟩
      have buy : -4194304 ≤ uy ∧ uy ≤ 4194304 := by omega
      have wuy : wrap64 (y1 - y0) = uy := by rw [← huy]; unfold wrap64; omega
      obtain ⟨vx2, hvx2⟩ : ∃ z, x2 - x0 = z := ⟨_, rfl⟩
      have bvx2 : -4194304 ≤ vx2 ∧ vx2 ≤ 4194304 := by omega
      have wvx2 : wrap64 (x2 - x0) = vx2 := by rw [← hvx2]; unfold wrap64; omega
      obtain ⟨vy2, hvy2⟩ : ∃ z, y2 - y0 = z := ⟨_, rfl⟩
      have bvy2 : -4194304 ≤ vy2 ∧ vy2 ≤ 4194304 := by omega
      have wvy2 : wrap64 (y2 - y0) = vy2 := by rw [← hvy2]; unfold wrap64; omega
      obtain ⟨vx3, hvx3⟩ : ∃ z, x3 - x0 = z := ⟨_, rfl⟩
      have bvx3 : -4194304 ≤ vx3 ∧ vx3 ≤ 4194304 := by omega
      have wvx3 : wrap64 (x3 - x0) = vx3 := by rw [← hvx3]; unfold wrap64; omega
      obtain ⟨vy3, hvy3⟩ : ∃ z, y3 - y0 = z := ⟨_, rfl⟩
      have bvy3 : -4194304 ≤ vy3 ∧ vy3 ≤ 4194304 := by omega
      have wvy3 : wrap64 (y3 - y0) = vy3 := by rw [← hvy3]; unfold wrap64; omega
      rw [hux, huy, hvx2] at X2
      rw [hux, huy, hvy2] at Y2
      rw [hux, huy, hvx3] at X3
      rw [hux, huy, hvy3] at Y3
      have hn := Hn.out
      obtain ⟨t01, t02, t03, t04, t05, t06, t07, t08, g00, g01, g02, g03, f0⟩ := HQ.out.2.2.2 0 (by omega)
      have Fq0 := Hid.mk_ (f0.keeps kk)
      have sz0 := rA_sz Hnm.out hn 0
      obtain ⟨t11, t12, t13, t14, t15, t16, t17, t18, g10, g11, g12, g13, f1⟩ := HQ.out.2.2.2 1 (by omega)
      have Fq1 := Hid.mk_ (f1.keeps kk)
      have sz1 := rA_sz Hnm.out hn 1
      obtain ⟨t21, t22, t23, t24, t25, t26, t27, t28, g20, g21, g22, g23, f2⟩ := HQ.out.2.2.2 2 (by omega)
      have Fq2 := Hid.mk_ (f2.keeps kk)
      have sz2 := rA_sz Hnm.out hn 2
      obtain ⟨t31, t32, t33, t34, t35, t36, t37, t38, g30, g31, g32, g33, f3⟩ := HQ.out.2.2.2 3 (by omega)
      have Fq3 := Hid.mk_ (f3.keeps kk)
      have sz3 := rA_sz Hnm.out hn 3
      obtain ⟨r0, hr0⟩ : ∃ z, rA AA 0 = z := ⟨_, rfl⟩
      obtain ⟨r1, hr1⟩ : ∃ z, rA AA 1 = z := ⟨_, rfl⟩
      obtain ⟨r2, hr2⟩ : ∃ z, rA AA 2 = z := ⟨_, rfl⟩
      obtain ⟨r3, hr3⟩ : ∃ z, rA AA 3 = z := ⟨_, rfl⟩
      rw [hr0, hr1] at X2 Y2
      rw [hr2, hr3] at X3 Y3
      rw [hr0] at Fq0 sz0
      rw [hr1] at Fq1 sz1
      rw [hr2] at Fq2 sz2
      rw [hr3] at Fq3 sz3
      have HX2 := Hid.mk_ X2
      have HY2 := Hid.mk_ Y2
      have HX3 := Hid.mk_ X3
      have HY3 := Hid.mk_ Y3
      clear X2 Y2 X3 Y3 p0 p1 p2 p3 k0 k1 k2 k3 hm0 hm1 hm2 hm3 hx0 hx1 hx2 hx3 hy0 hy1 hy2 hy3 hux huy hvx2 hvy2 hvx3 hvy3 hr0 hr1 hr2 hr3 bk ln hcap hm hcell f0 f1 f2 f3 HQ Hbk Hpt Hv HL Hon Hki Hbi hn Hn Hnm hk4
      dsimp only
      have zq_7 : w3.heap.size < w7.heap.size := oq.lt
      have zz7 := B.size
      (try dsimp only); repeat' (first | go_values | go_skip | go_guarded | go_step | go_upon)
      refine Reg.wp_chain_n (fun N0 D v W => Below w.heap.size w W ∧ Keeps w7 W ∧ N0 ≤ W.heap.size ∧ Blk W (w3.heap.size) 31 CA ∧ (D 12 = true → ∃ g : Nat, v 12 = .pointer (some ⟨g, 0, none⟩) ∧ N0 ≤ g ∧ g < W.heap.size ∧ (D 14 = false → Blk W g 43 #[.int .i64 0, .int .i64 0]) ∧ (D 14 = true → Blk W g 43 #[.int .i64 x0, .int .i64 y0])) ∧ (D 13 = true → ∃ g : Nat, v 13 = .pointer (some ⟨g, 0, none⟩) ∧ N0 ≤ g ∧ g < W.heap.size ∧ (D 15 = false → Blk W g 43 #[.int .i64 0, .int .i64 0]) ∧ (D 15 = true → Blk W g 43 #[.int .i64 x1, .int .i64 y1])) ∧ (D 12 = true → D 13 = true → v 12 ≠ v 13))
        (Reg.inl [12, 13, 14, 15]) (Reg.gv [(12, IsPtr), (13, IsPtr)]) (gw []) (fun _ => Keeps) (fun _ _ => False) (Reg.pl [(14, [(12, some 13)]), (15, [(13, some 14)]), (16, [(12, some 13), (13, some 14)])]) (Reg.pl [(12, [14]), (13, [15])])
        (by kernel_rfl) (by kernel_rfl) (by kernel_rfl) (Reg.gv_some _ (by intro p hp; simp only [List.mem_cons, List.not_mem_nil, or_false] at hp; rcases hp with rfl | rfl <;> first | exact ⟨_, rfl⟩ | exact ⟨_, 0, rfl⟩ | exact ⟨_, none, 0, 0, rfl⟩ | exact ⟨_, false, none, 0, 0, rfl⟩ | exact ⟨_, false, none, 0, 0, false, none, 0, 0, rfl⟩)) (fun N0 hN0 => ⟨fun v => ?_, fun D v v' W hv hj => ?_, fun D v k j W W' x _ _ _ _ hk hg => gw_keeps _ (by intro p hp; cases hp) hk hg, fun _ _ _ _ h => h.elim, fun ops' Q' hops hQ => ?_⟩)
      · exact ⟨belowB, keepsB, Nat.le_of_eq hN0.out, ownK, (fun h => Bool.noConfusion h), (fun h => Bool.noConfusion h), (fun h => Bool.noConfusion h)⟩
      · obtain ⟨j0, jk, jn, b_q, a_12, a_13, q_12_13⟩ := hj
        exact ⟨j0, jk, jn, b_q, fun h => by obtain ⟨g, e1, e2, e3, e4, e5⟩ := a_12 h; exact ⟨g, (hv 12 h) ▸ e1, e2, e3, e4, e5⟩, fun h => by obtain ⟨g, e1, e2, e3, e4, e5⟩ := a_13 h; exact ⟨g, (hv 13 h) ▸ e1, e2, e3, e4, e5⟩, fun h h' => (hv 12 h) ▸ (hv 13 h') ▸ q_12_13 h h'⟩
      have i_q : w3.heap.size < N0 := by have e := hN0.out; (try simp only [World.size_alloc, World.size_setCell, World.size_drew, World.heap_drewN] at e); first | omega | (have h := oq.lt; omega)
      have iw : w.heap.size ≤ N0 := by have e := hN0.out; (try simp only [World.size_alloc, World.size_setCell, World.size_drew, World.heap_drewN] at e); first | omega | (have h := B.size; omega)
      clear hN0
      apply Reg.RC_pure (hc := rfl) (hst := rfl) (hw := rfl) (t := 121) (hd := rfl) (ht := Nat.le_of_ble_eq_true rfl)
      · intro D v' W' hc hj hf K hK
        go_step
        exact hK.out
      · rfl
      apply Reg.RC_pure (hc := rfl) (hst := rfl) (hw := rfl) (t := 122) (hd := rfl) (ht := Nat.le_of_ble_eq_true rfl)
      · intro D v' W' hc hj hf K hK
        go_step
        exact hK.out
      · rfl
      apply Reg.RC_pure (hc := rfl) (hst := rfl) (hw := rfl) (t := 123) (hd := rfl) (ht := Nat.le_of_ble_eq_true rfl)
      · intro D v' W' hc hj hf K hK
        go_step
        exact hK.out
      · rfl
      apply Reg.RC_pure (hc := rfl) (hst := rfl) (hw := rfl) (t := 124) (hd := rfl) (ht := Nat.le_of_ble_eq_true rfl)
      · intro D v' W' hc hj hf K hK
        obtain ⟨j0, jk, jn, b_q, a_12, a_13, q_12_13⟩ := hj
        have c0 : World.cell? W' ⟨w3.heap.size, 0, none⟩ = _ := b_q.c 0 qk0
        go_step
        exact hK.out
      · rfl
      apply Reg.RC_pure (hc := rfl) (hst := rfl) (hw := rfl) (t := 125) (hd := rfl) (ht := Nat.le_of_ble_eq_true rfl)
      · intro D v' W' hc hj hf K hK
        go_step
        exact hK.out
      · rfl
      apply Reg.RC_pure (hc := rfl) (hst := rfl) (hw := rfl) (t := 126) (hd := rfl) (ht := Nat.le_of_ble_eq_true rfl)
      · intro D v' W' hc hj hf K hK
        obtain ⟨j0, jk, jn, b_q, a_12, a_13, q_12_13⟩ := hj
        have x0_ : W'.cell? ⟨b, o + m0 * 2, none⟩ = some (.int .i64 x0) := (j0.cell (p := ⟨b, _, none⟩) hb).trans c00
        have x1_ : W'.cell? ⟨b, o + m0 * 2 + 1, none⟩ = some (.int .i64 y0) := (j0.cell (p := ⟨b, _, none⟩) hb).trans c01
        go_step
        exact hK.out
      · rfl
      apply Reg.RC_pure (hc := rfl) (hst := rfl) (hw := rfl) (t := 127) (hd := rfl) (ht := Nat.le_of_ble_eq_true rfl)
      · intro D v' W' hc hj hf K hK
        go_step
        exact hK.out
      · rfl
      apply Reg.RC_pure (hc := rfl) (hst := rfl) (hw := rfl) (t := 128) (hd := rfl) (ht := Nat.le_of_ble_eq_true rfl)
      · intro D v' W' hc hj hf K hK
        go_step
        exact hK.out
      · rfl
      apply Reg.RC_pure (hc := rfl) (hst := rfl) (hw := rfl) (t := 129) (hd := rfl) (ht := Nat.le_of_ble_eq_true rfl)
      · intro D v' W' hc hj hf K hK
        go_step
        exact hK.out
      · rfl
      apply Reg.RC_pure (hc := rfl) (hst := rfl) (hw := rfl) (t := 130) (hd := rfl) (ht := Nat.le_of_ble_eq_true rfl)
      · intro D v' W' hc hj hf K hK
        obtain ⟨j0, jk, jn, b_q, a_12, a_13, q_12_13⟩ := hj
        have c0 : World.cell? W' ⟨w3.heap.size, 1, none⟩ = _ := b_q.c 1 qk1
        go_step
        exact hK.out
      · rfl
      apply Reg.RC_pure (hc := rfl) (hst := rfl) (hw := rfl) (t := 131) (hd := rfl) (ht := Nat.le_of_ble_eq_true rfl)
      · intro D v' W' hc hj hf K hK
        go_step
        exact hK.out
      · rfl
      apply Reg.RC_pure (hc := rfl) (hst := rfl) (hw := rfl) (t := 132) (hd := rfl) (ht := Nat.le_of_ble_eq_true rfl)
      · intro D v' W' hc hj hf K hK
        obtain ⟨j0, jk, jn, b_q, a_12, a_13, q_12_13⟩ := hj
        have x0_ : W'.cell? ⟨b, o + m1 * 2, none⟩ = some (.int .i64 x1) := (j0.cell (p := ⟨b, _, none⟩) hb).trans c10
        have x1_ : W'.cell? ⟨b, o + m1 * 2 + 1, none⟩ = some (.int .i64 y1) := (j0.cell (p := ⟨b, _, none⟩) hb).trans c11
        go_step
        exact hK.out
      · rfl
      refine Reg.RC_call rfl (by intro t ht; cases ht; exact Nat.le_of_ble_eq_true rfl) rfl (fun D v' W' hc hj hf K hK => ?_) ?_
      · obtain ⟨j0, jk, jn, b_q, a_12, a_13, q_12_13⟩ := hj
        go_step
        have hs : ∀ o : Obj, Steps W' (W'.alloc o) := fun o => (Below.refl _ _).alloc (Nat.le_refl _) o
        exact hK.out _ _ (Keeps.steps (hs _)) ⟨below_steps j0 (Nat.le_refl _) (hs _), jk.then_ (hs _), Nat.le_trans jn (hs _).size, b_q.steps (hs _), fun _ => ⟨W'.heap.size, rfl, jn, by rw [World.size_alloc]; omega, fun _ => Blk.new _ _ _, fun h => Bool.noConfusion ((hc.2 14 (by decide)).symm.trans h)⟩, fun h => by obtain ⟨g, e1, e2, e3, e4, e5⟩ := a_13 h; exact ⟨g, e1, e2, Nat.lt_of_lt_of_le e3 ((hs _)).size, fun h => (e4 h).steps (hs _), fun h => (e5 h).steps (hs _)⟩, fun _ h' => by obtain ⟨g, e1, e2, e3, e4, e5⟩ := a_13 h'; exact fun e => Reg.ptr_ne e3 (e.trans e1)⟩ trivial ⟨_, rfl⟩
      rintro _ ⟨p13, rfl⟩
      refine Reg.RC_at (b := ⟨#[_,_,_,_,_,_,_,_,_,_,_,_,_,_,_,_,_,_,_,_,_,_,_,_,_,_,_,_,_,_,_,_,_,_,_,_,_,_,_,_,_,_,_,_,_,_,_,_,_,_,_,_,_,_,_,_,_,_,_,_,_,_,_,_,_,_,_,_,_,_,_,_,_,_,_,_,_,_,_,_,_,_,_,_,_,_,_,_,_,_,_,_,_,_,_,_,_,_,_,_,_,_,_,_,_,_,_,_,_,_,_,_,_,_,_,_,_,_,_,_,_,_,_,_,_,_,_,_,_,_,_,_,_,_,_,_,_,_,_,_,_,_,_,_,_,_,_,_,_,_,_,_,_,_,_,_,_,_,_,_,_,_,_,_,_,_,_,_,_,_,_,_,_,_,_,_,_,_,_,_,_,_,_,_,_,_,_,_,_,_,_,_,_,_,_,_,_,_,_,_,_,_,_,_,_,_,_,_,_,_,_,_,_,_,_,_,_,_,_,_,_,_,_,_,_,_,_,_,_,_,_,_,_], _⟩) rfl ?_
      refine Reg.RC_call rfl (by intro t ht; cases ht; exact Nat.le_of_ble_eq_true rfl) rfl (fun D v' W' hc hj hf K hK => ?_) ?_
      · obtain ⟨j0, jk, jn, b_q, a_12, a_13, q_12_13⟩ := hj
        go_step
        have hs : ∀ o : Obj, Steps W' (W'.alloc o) := fun o => (Below.refl _ _).alloc (Nat.le_refl _) o
        exact hK.out _ _ (Keeps.steps (hs _)) ⟨below_steps j0 (Nat.le_refl _) (hs _), jk.then_ (hs _), Nat.le_trans jn (hs _).size, b_q.steps (hs _), fun h => by obtain ⟨g, e1, e2, e3, e4, e5⟩ := a_12 h; exact ⟨g, e1, e2, Nat.lt_of_lt_of_le e3 ((hs _)).size, fun h => (e4 h).steps (hs _), fun h => (e5 h).steps (hs _)⟩, fun _ => ⟨W'.heap.size, rfl, jn, by rw [World.size_alloc]; omega, fun _ => Blk.new _ _ _, fun h => Bool.noConfusion ((hc.2 15 (by decide)).symm.trans h)⟩, fun h _ => by obtain ⟨g, e1, e2, e3, e4, e5⟩ := a_12 h; exact fun e => Reg.ptr_ne e3 (e.symm.trans e1)⟩ trivial ⟨_, rfl⟩
      rintro _ ⟨p14, rfl⟩
      refine Reg.RC_at (b := ⟨#[_,_,_,_,_,_,_,_,_,_,_,_,_,_,_,_,_,_,_,_,_,_,_,_,_,_,_,_,_,_,_,_,_,_,_,_,_,_,_,_,_,_,_,_,_,_,_,_,_,_,_,_,_,_,_,_,_,_,_,_,_,_,_,_,_,_,_,_,_,_,_,_,_,_,_,_,_,_,_,_,_,_,_,_,_,_,_,_,_,_,_,_,_,_,_,_,_,_,_,_,_,_,_,_,_,_,_,_,_,_,_,_,_,_,_,_,_,_,_,_,_,_,_,_,_,_,_,_,_,_,_,_,_,_,_,_,_,_,_,_,_,_,_,_,_,_,_,_,_,_,_,_,_,_,_,_,_,_,_,_,_,_,_,_,_,_,_,_,_,_,_,_,_,_,_,_,_,_,_,_,_,_,_,_,_,_,_,_,_,_,_,_,_,_,_,_,_,_,_,_,_,_,_,_,_,_,_,_,_,_,_,_,_,_,_,_,_,_,_,_,_,_,_,_,_,_,_,_,_,_,_,_,_], _⟩) rfl ?_
      refine Reg.RC_call rfl (by intro t ht; cases ht) rfl (fun D v' W' hc hj hf K hK => ?_) (fun _ _ => Reg.RC_at (b := ⟨_, _⟩) rfl ?_)
      · obtain ⟨j0, jk, jn, b_q, a_12, a_13, q_12_13⟩ := hj
        have f := hf (12, some 13) (.head _) rfl
        have e6 : v' 12 = .pointer (some ⟨p13, 0, none⟩) := f.2.1
        obtain ⟨g, e1, e2, e3, e4, e5⟩ := a_12 f.1
        obtain rfl : p13 = g := Reg.ptr_eq (e6.symm.trans e1)
        have hb := e4 hc.1
        clear e4 e5
        have ff := hb.fr
        have cc0 : W'.cell? ⟨p13, 0, none⟩ = some (.int .i64 0) := hb.c 0 rfl
        have cc1 : W'.cell? ⟨p13, 1, none⟩ = some (.int .i64 0) := hb.c 1 rfl
        go_step
        exact hK.out undef _ (Keeps.only hb rfl ((Only.refl _ _).set.set)) ⟨(Below.setCell (p := ⟨p13, 1, none⟩) (Below.setCell (p := ⟨p13, 0, none⟩) j0 (by show w.heap.size ≤ p13; omega) _) (by show w.heap.size ≤ p13; omega) _), jk.trans (Keeps.only hb rfl ((Only.refl _ _).set.set)), by simpa using jn, ((b_q).far' (show w3.heap.size ≠ p13 by omega)).far' (show w3.heap.size ≠ p13 by omega), fun _ => ⟨p13, e1, e2, by simpa using e3, fun h => Bool.noConfusion h, fun _ => (Blk.set2 (cs' := #[.int .i64 x0, .int .i64 y0]) (Blk.set2 (cs' := #[.int .i64 x0, .int .i64 0]) hb (i := 0) rfl) (i := 1) rfl)⟩, fun h => by obtain ⟨g, k1, k2, k3, k4, k5⟩ := a_13 h; have hne : g ≠ p13 := fun e => (q_12_13 f.1 h) (by rw [e6, k1, e]); exact ⟨g, k1, k2, by simpa using k3, fun h => ((k4 h).far' hne).far' hne, fun h => ((k5 h).far' hne).far' hne⟩, q_12_13⟩ trivial trivial
      refine Reg.RC_call rfl (by intro t ht; cases ht) rfl (fun D v' W' hc hj hf K hK => ?_) (fun _ _ => Reg.RC_at (b := ⟨_, _⟩) rfl ?_)
      · obtain ⟨j0, jk, jn, b_q, a_12, a_13, q_12_13⟩ := hj
        have f := hf (13, some 14) (.head _) rfl
        have e6 : v' 13 = .pointer (some ⟨p14, 0, none⟩) := f.2.1
        obtain ⟨g, e1, e2, e3, e4, e5⟩ := a_13 f.1
        obtain rfl : p14 = g := Reg.ptr_eq (e6.symm.trans e1)
        have hb := e4 hc.1
        clear e4 e5
        have ff := hb.fr
        have cc0 : W'.cell? ⟨p14, 0, none⟩ = some (.int .i64 0) := hb.c 0 rfl
        have cc1 : W'.cell? ⟨p14, 1, none⟩ = some (.int .i64 0) := hb.c 1 rfl
        go_step
        exact hK.out undef _ (Keeps.only hb rfl ((Only.refl _ _).set.set)) ⟨(Below.setCell (p := ⟨p14, 1, none⟩) (Below.setCell (p := ⟨p14, 0, none⟩) j0 (by show w.heap.size ≤ p14; omega) _) (by show w.heap.size ≤ p14; omega) _), jk.trans (Keeps.only hb rfl ((Only.refl _ _).set.set)), by simpa using jn, ((b_q).far' (show w3.heap.size ≠ p14 by omega)).far' (show w3.heap.size ≠ p14 by omega), fun h => by obtain ⟨g, k1, k2, k3, k4, k5⟩ := a_12 h; have hne : g ≠ p14 := fun e => (q_12_13 h f.1) (by rw [e6, k1, e]); exact ⟨g, k1, k2, by simpa using k3, fun h => ((k4 h).far' hne).far' hne, fun h => ((k5 h).far' hne).far' hne⟩, fun _ => ⟨p14, e1, e2, by simpa using e3, fun h => Bool.noConfusion h, fun _ => (Blk.set2 (cs' := #[.int .i64 x1, .int .i64 y1]) (Blk.set2 (cs' := #[.int .i64 x1, .int .i64 0]) hb (i := 0) rfl) (i := 1) rfl)⟩, q_12_13⟩ trivial trivial
      refine Reg.RC_end (fun Dn v' w8 hd hj hf => ?_)
      obtain ⟨j0, jk, jn, b_q, a_12, a_13, q_12_13⟩ := hj
      have B := j0
      have oq := b_q
      clear b_q
      have f := hf (12, some 13) (.head _) rfl
      have e6_ : v' 12 = .pointer (some ⟨p13, 0, none⟩) := f.2.1
      obtain ⟨g, e1_, zpa, -, -, e5_⟩ := a_12 f.1
      obtain rfl : p13 = g := Reg.ptr_eq (e6_.symm.trans e1_)
      have opa : Blk w8 p13 43 #[.int .i64 x0, .int .i64 y0] := e5_ (hd 14 (Nat.le_of_ble_eq_true rfl))
      clear f e5_ e1_ e6_
      have f := hf (13, some 14) (.tail _ (.head _)) rfl
      have e6_ : v' 13 = .pointer (some ⟨p14, 0, none⟩) := f.2.1
      obtain ⟨g, e1_, zpb, -, -, e5_⟩ := a_13 f.1
      obtain rfl : p14 = g := Reg.ptr_eq (e6_.symm.trans e1_)
      have opb : Blk w8 p14 43 #[.int .i64 x1, .int .i64 y1] := e5_ (hd 15 (Nat.le_of_ble_eq_true rfl))
      clear f e5_ e1_ e6_
      have y_12_13 : p13 ≠ p14 := fun e => q_12_13 (hf (12, some 13) (.head _) rfl).1 (hf (13, some 14) (.tail _ (.head _)) rfl).1 (by have h1 := (hf (12, some 13) (.head _) rfl).2.1; have h2 := (hf (13, some 14) (.tail _ (.head _)) rfl).2.1; rw [h1, h2]; show Value.pointer _ = .pointer _; rw [e])
      replace Fq0 := Hid.mk_ (Fq0.out.keeps jk)
      replace Fq1 := Hid.mk_ (Fq1.out.keeps jk)
      replace Fq2 := Hid.mk_ (Fq2.out.keeps jk)
      replace Fq3 := Hid.mk_ (Fq3.out.keeps jk)
      replace kk := kk.trans jk
      clear hd hf jk j0 q_12_13
      refine hQ _ _ ?_
      clear hQ hops Q' ops'
      (try dsimp only); repeat' (first | go_values | go_skip | go_guarded | go_step | go_upon)
      go_loopw [15] (fun sl0 wr => ∃ i : Nat, 2 ≤ i ∧ i ≤ 4 ∧ sl0 = .int .i64 i ∧ Blk wr (w3.heap.size) 31 CA ∧ Blk wr (p13) 43 #[.int .i64 x0, .int .i64 y0] ∧ Blk wr (p14) 43 #[.int .i64 x1, .int .i64 y1] ∧ Below w.heap.size w wr ∧ Keeps w8 wr) (fun sl0 _ => 4 - (intOf sl0).toNat)
      case atStart => exact ⟨2, by omega, by omega, rfl, ownK, ownK, ownK, belowB, keepsB⟩
      case round =>
        clear oq opa opb
        clear B
        obtain ⟨i, i2, i4, rfl, oq, opa, opb, B, kk⟩ := hrel
        replace Fq0 := Hid.mk_ (Fq0.out.keeps kk)
        replace Fq1 := Hid.mk_ (Fq1.out.keeps kk)
        replace Fq2 := Hid.mk_ (Fq2.out.keeps kk)
        replace Fq3 := Hid.mk_ (Fq3.out.keeps kk)
        rcases (show i = 2 ∨ i = 3 ∨ i = 4 by omega) with rfl | rfl | rfl
        · skip
          rw [show ((2 : Nat) : Int) = 2 from rfl]
          have c0_ : World.cell? wr ⟨w3.heap.size, 2, none⟩ = _ := oq.c 2 qk2
          have x0_ : World.cell? wr ⟨b, o + m2 * 2, none⟩ = some (.int .i64 x2) := (B.cell (p := ⟨b, _, none⟩) hb).trans c20
          have x1_ : World.cell? wr ⟨b, o + m2 * 2 + 1, none⟩ = some (.int .i64 y2) := (B.cell (p := ⟨b, _, none⟩) hb).trans c21
          have zpb_8 : p14 < wr.heap.size := opb.lt
          have zpa_8 : p13 < wr.heap.size := opa.lt
          have zz8 := B.size
          (try dsimp only); repeat' (first | go_values | go_skip | go_guarded | go_step | go_upon)
          refine Reg.wp_chain_n (fun N0 D v W => Below w.heap.size w W ∧ Keeps wr W ∧ N0 ≤ W.heap.size ∧ Blk W (w3.heap.size) 31 CA ∧ Blk W (p13) 43 #[.int .i64 x0, .int .i64 y0] ∧ Blk W (p14) 43 #[.int .i64 x1, .int .i64 y1] ∧ Blk W (wr.heap.size) 43 #[.int .i64 x2, .int .i64 y2] ∧ (D 12 = true → ∃ g : Nat, v 12 = .pointer (some ⟨g, 0, none⟩) ∧ N0 ≤ g ∧ g < W.heap.size ∧ (D 14 = false → Blk W g 28 #[.bool false, .slice none 0 0, .bool false, .slice none 0 0]) ∧ (D 14 = true → Blk W g 28 #[.bool t01, .slice t02 t03 t04, .bool t05, .slice t06 t07 t08])) ∧ (D 13 = true → ∃ g : Nat, v 13 = .pointer (some ⟨g, 0, none⟩) ∧ N0 ≤ g ∧ g < W.heap.size ∧ (D 15 = false → Blk W g 28 #[.bool false, .slice none 0 0, .bool false, .slice none 0 0]) ∧ (D 15 = true → Blk W g 28 #[.bool t11, .slice t12 t13 t14, .bool t15, .slice t16 t17 t18])) ∧ (D 12 = true → D 13 = true → v 12 ≠ v 13))
            (Reg.inl [12, 13, 14, 15]) (Reg.gv [(12, IsPtr), (13, IsPtr)]) (gw []) (fun _ => Keeps) (fun _ _ => False) (Reg.pl [(14, [(12, some 17)]), (15, [(13, some 18)]), (16, [(12, some 17), (13, some 18)])]) (Reg.pl [(12, [14]), (13, [15])])
            (by kernel_rfl) (by kernel_rfl) (by kernel_rfl) (Reg.gv_some _ (by intro p hp; simp only [List.mem_cons, List.not_mem_nil, or_false] at hp; rcases hp with rfl | rfl <;> first | exact ⟨_, rfl⟩ | exact ⟨_, 0, rfl⟩ | exact ⟨_, none, 0, 0, rfl⟩ | exact ⟨_, false, none, 0, 0, rfl⟩ | exact ⟨_, false, none, 0, 0, false, none, 0, 0, rfl⟩)) (fun N0 hN0 => ⟨fun v => ?_, fun D v v' W hv hj => ?_, fun D v k j W W' x _ _ _ _ hk hg => gw_keeps _ (by intro p hp; cases hp) hk hg, fun _ _ _ _ h => h.elim, fun ops' Q' hops hQ => ?_⟩)
          · exact ⟨belowB, keepsB, Nat.le_of_eq hN0.out, ownK, ownK, ownK, ownK, (fun h => Bool.noConfusion h), (fun h => Bool.noConfusion h), (fun h => Bool.noConfusion h)⟩
          · obtain ⟨j0, jk, jn, b_q, b_pa, b_pb, b_pc, a_12, a_13, q_12_13⟩ := hj
            exact ⟨j0, jk, jn, b_q, b_pa, b_pb, b_pc, fun h => by obtain ⟨g, e1, e2, e3, e4, e5⟩ := a_12 h; exact ⟨g, (hv 12 h) ▸ e1, e2, e3, e4, e5⟩, fun h => by obtain ⟨g, e1, e2, e3, e4, e5⟩ := a_13 h; exact ⟨g, (hv 13 h) ▸ e1, e2, e3, e4, e5⟩, fun h h' => (hv 12 h) ▸ (hv 13 h') ▸ q_12_13 h h'⟩
          have i_q : w3.heap.size < N0 := by have e := hN0.out; (try simp only [World.size_alloc, World.size_setCell, World.size_drew, World.heap_drewN] at e); first | omega | (have h := oq.lt; omega)
          have i_pa : p13 < N0 := by have e := hN0.out; (try simp only [World.size_alloc, World.size_setCell, World.size_drew, World.heap_drewN] at e); first | omega | (have h := opa.lt; omega)
          have i_pb : p14 < N0 := by have e := hN0.out; (try simp only [World.size_alloc, World.size_setCell, World.size_drew, World.heap_drewN] at e); first | omega | (have h := opb.lt; omega)
          have i_pc : wr.heap.size < N0 := by have e := hN0.out; (try simp only [World.size_alloc, World.size_setCell, World.size_drew, World.heap_drewN] at e); first | omega | (have h := opc.lt; omega)
          have iw : w.heap.size ≤ N0 := by have e := hN0.out; (try simp only [World.size_alloc, World.size_setCell, World.size_drew, World.heap_drewN] at e); first | omega | (have h := B.size; omega)
          clear hN0
          apply Reg.RC_pure (hc := rfl) (hst := rfl) (hw := rfl) (t := 144) (hd := rfl) (ht := Nat.le_of_ble_eq_true rfl)
          · intro D v' W' hc hj hf K hK
            go_step
            exact hK.out
          · rfl
          apply Reg.RC_pure (hc := rfl) (hst := rfl) (hw := rfl) (t := 145) (hd := rfl) (ht := Nat.le_of_ble_eq_true rfl)
          · intro D v' W' hc hj hf K hK
            go_step
            exact hK.out
          · rfl
          apply Reg.RC_pure (hc := rfl) (hst := rfl) (hw := rfl) (t := 146) (hd := rfl) (ht := Nat.le_of_ble_eq_true rfl)
          · intro D v' W' hc hj hf K hK
            go_step
            exact hK.out
          · rfl
          apply Reg.RC_pure (hc := rfl) (hst := rfl) (hw := rfl) (t := 147) (hd := rfl) (ht := Nat.le_of_ble_eq_true rfl)
          · intro D v' W' hc hj hf K hK
            go_step
            exact hK.out
          · rfl
          apply Reg.RC_pure (hc := rfl) (hst := rfl) (hw := rfl) (t := 148) (hd := rfl) (ht := Nat.le_of_ble_eq_true rfl)
          · intro D v' W' hc hj hf K hK
            go_step
            exact hK.out
          · rfl
          apply Reg.RC_pure (hc := rfl) (hst := rfl) (hw := rfl) (t := 149) (hd := rfl) (ht := Nat.le_of_ble_eq_true rfl)
          · intro D v' W' hc hj hf K hK
            obtain ⟨j0, jk, jn, b_q, b_pa, b_pb, b_pc, a_12, a_13, q_12_13⟩ := hj
            have c0 : World.cell? W' ⟨w3.heap.size, 4, none⟩ = _ := b_q.c 4 g00
            have c1 : World.cell? W' ⟨w3.heap.size, 5, none⟩ = _ := b_q.c 5 g01
            have c2 : World.cell? W' ⟨w3.heap.size, 6, none⟩ = _ := b_q.c 6 g02
            have c3 : World.cell? W' ⟨w3.heap.size, 7, none⟩ = _ := b_q.c 7 g03
            go_step
            exact hK.out
          · rfl
          apply Reg.RC_pure (hc := rfl) (hst := rfl) (hw := rfl) (t := 150) (hd := rfl) (ht := Nat.le_of_ble_eq_true rfl)
          · intro D v' W' hc hj hf K hK
            go_step
            exact hK.out
          · rfl
          apply Reg.RC_pure (hc := rfl) (hst := rfl) (hw := rfl) (t := 151) (hd := rfl) (ht := Nat.le_of_ble_eq_true rfl)
          · intro D v' W' hc hj hf K hK
            go_step
            exact hK.out
          · rfl
          apply Reg.RC_pure (hc := rfl) (hst := rfl) (hw := rfl) (t := 152) (hd := rfl) (ht := Nat.le_of_ble_eq_true rfl)
          · intro D v' W' hc hj hf K hK
            go_step
            exact hK.out
          · rfl
          apply Reg.RC_pure (hc := rfl) (hst := rfl) (hw := rfl) (t := 153) (hd := rfl) (ht := Nat.le_of_ble_eq_true rfl)
          · intro D v' W' hc hj hf K hK
            go_step
            exact hK.out
          · rfl
          apply Reg.RC_pure (hc := rfl) (hst := rfl) (hw := rfl) (t := 154) (hd := rfl) (ht := Nat.le_of_ble_eq_true rfl)
          · intro D v' W' hc hj hf K hK
            go_step
            exact hK.out
          · rfl
          apply Reg.RC_pure (hc := rfl) (hst := rfl) (hw := rfl) (t := 155) (hd := rfl) (ht := Nat.le_of_ble_eq_true rfl)
          · intro D v' W' hc hj hf K hK
            obtain ⟨j0, jk, jn, b_q, b_pa, b_pb, b_pc, a_12, a_13, q_12_13⟩ := hj
            have c0 : World.cell? W' ⟨w3.heap.size, 8, none⟩ = _ := b_q.c 8 g10
            have c1 : World.cell? W' ⟨w3.heap.size, 9, none⟩ = _ := b_q.c 9 g11
            have c2 : World.cell? W' ⟨w3.heap.size, 10, none⟩ = _ := b_q.c 10 g12
            have c3 : World.cell? W' ⟨w3.heap.size, 11, none⟩ = _ := b_q.c 11 g13
            go_step
            exact hK.out
          · rfl
          refine Reg.RC_call rfl (by intro t ht; cases ht; exact Nat.le_of_ble_eq_true rfl) rfl (fun D v' W' hc hj hf K hK => ?_) ?_
          · obtain ⟨j0, jk, jn, b_q, b_pa, b_pb, b_pc, a_12, a_13, q_12_13⟩ := hj
            go_step
            have hs : ∀ o : Obj, Steps W' (W'.alloc o) := fun o => (Below.refl _ _).alloc (Nat.le_refl _) o
            exact hK.out _ _ (Keeps.steps (hs _)) ⟨below_steps j0 (Nat.le_refl _) (hs _), jk.then_ (hs _), Nat.le_trans jn (hs _).size, b_q.steps (hs _), b_pa.steps (hs _), b_pb.steps (hs _), b_pc.steps (hs _), fun _ => ⟨W'.heap.size, rfl, jn, by rw [World.size_alloc]; omega, fun _ => Blk.new _ _ _, fun h => Bool.noConfusion ((hc.2 14 (by decide)).symm.trans h)⟩, fun h => by obtain ⟨g, e1, e2, e3, e4, e5⟩ := a_13 h; exact ⟨g, e1, e2, Nat.lt_of_lt_of_le e3 ((hs _)).size, fun h => (e4 h).steps (hs _), fun h => (e5 h).steps (hs _)⟩, fun _ h' => by obtain ⟨g, e1, e2, e3, e4, e5⟩ := a_13 h'; exact fun e => Reg.ptr_ne e3 (e.trans e1)⟩ trivial ⟨_, rfl⟩
          rintro _ ⟨p17, rfl⟩
          refine Reg.RC_at (b := ⟨#[_,_,_,_,_,_,_,_,_,_,_,_,_,_,_,_,_,_,_,_,_,_,_,_,_,_,_,_,_,_,_,_,_,_,_,_,_,_,_,_,_,_,_,_,_,_,_,_,_,_,_,_,_,_,_,_,_,_,_,_,_,_,_,_,_,_,_,_,_,_,_,_,_,_,_,_,_,_,_,_,_,_,_,_,_,_,_,_,_,_,_,_,_,_,_,_,_,_,_,_,_,_,_,_,_,_,_,_,_,_,_,_,_,_,_,_,_,_,_,_,_,_,_,_,_,_,_,_,_,_,_,_,_,_,_,_,_,_,_,_,_,_,_,_,_,_,_,_,_,_,_,_,_,_,_,_,_,_,_,_,_,_,_,_,_,_,_,_,_,_,_,_,_,_,_,_,_,_,_,_,_,_,_,_,_,_,_,_,_,_,_,_,_,_,_,_,_,_,_,_,_,_,_,_,_,_,_,_,_,_,_,_,_,_,_,_,_,_,_,_,_,_,_,_,_,_,_,_,_,_,_,_,_], _⟩) rfl ?_
          refine Reg.RC_call rfl (by intro t ht; cases ht; exact Nat.le_of_ble_eq_true rfl) rfl (fun D v' W' hc hj hf K hK => ?_) ?_
          · obtain ⟨j0, jk, jn, b_q, b_pa, b_pb, b_pc, a_12, a_13, q_12_13⟩ := hj
            go_step
            have hs : ∀ o : Obj, Steps W' (W'.alloc o) := fun o => (Below.refl _ _).alloc (Nat.le_refl _) o
            exact hK.out _ _ (Keeps.steps (hs _)) ⟨below_steps j0 (Nat.le_refl _) (hs _), jk.then_ (hs _), Nat.le_trans jn (hs _).size, b_q.steps (hs _), b_pa.steps (hs _), b_pb.steps (hs _), b_pc.steps (hs _), fun h => by obtain ⟨g, e1, e2, e3, e4, e5⟩ := a_12 h; exact ⟨g, e1, e2, Nat.lt_of_lt_of_le e3 ((hs _)).size, fun h => (e4 h).steps (hs _), fun h => (e5 h).steps (hs _)⟩, fun _ => ⟨W'.heap.size, rfl, jn, by rw [World.size_alloc]; omega, fun _ => Blk.new _ _ _, fun h => Bool.noConfusion ((hc.2 15 (by decide)).symm.trans h)⟩, fun h _ => by obtain ⟨g, e1, e2, e3, e4, e5⟩ := a_12 h; exact fun e => Reg.ptr_ne e3 (e.symm.trans e1)⟩ trivial ⟨_, rfl⟩
          rintro _ ⟨p18, rfl⟩
          refine Reg.RC_at (b := ⟨#[_,_,_,_,_,_,_,_,_,_,_,_,_,_,_,_,_,_,_,_,_,_,_,_,_,_,_,_,_,_,_,_,_,_,_,_,_,_,_,_,_,_,_,_,_,_,_,_,_,_,_,_,_,_,_,_,_,_,_,_,_,_,_,_,_,_,_,_,_,_,_,_,_,_,_,_,_,_,_,_,_,_,_,_,_,_,_,_,_,_,_,_,_,_,_,_,_,_,_,_,_,_,_,_,_,_,_,_,_,_,_,_,_,_,_,_,_,_,_,_,_,_,_,_,_,_,_,_,_,_,_,_,_,_,_,_,_,_,_,_,_,_,_,_,_,_,_,_,_,_,_,_,_,_,_,_,_,_,_,_,_,_,_,_,_,_,_,_,_,_,_,_,_,_,_,_,_,_,_,_,_,_,_,_,_,_,_,_,_,_,_,_,_,_,_,_,_,_,_,_,_,_,_,_,_,_,_,_,_,_,_,_,_,_,_,_,_,_,_,_,_,_,_,_,_,_,_,_,_,_,_,_,_], _⟩) rfl ?_
          refine Reg.RC_call rfl (by intro t ht; cases ht) rfl (fun D v' W' hc hj hf K hK => ?_) (fun _ _ => Reg.RC_at (b := ⟨_, _⟩) rfl ?_)
          · obtain ⟨j0, jk, jn, b_q, b_pa, b_pb, b_pc, a_12, a_13, q_12_13⟩ := hj
            have f := hf (12, some 17) (.head _) rfl
            have e6 : v' 12 = .pointer (some ⟨p17, 0, none⟩) := f.2.1
            obtain ⟨g, e1, e2, e3, e4, e5⟩ := a_12 f.1
            obtain rfl : p17 = g := Reg.ptr_eq (e6.symm.trans e1)
            have hb := e4 hc.1
            clear e4 e5
            have ff := hb.fr
            have cc0 : W'.cell? ⟨p17, 0, none⟩ = some (.bool false) := hb.c 0 rfl
            have cc1 : W'.cell? ⟨p17, 1, none⟩ = some (.slice none 0 0) := hb.c 1 rfl
            have cc2 : W'.cell? ⟨p17, 2, none⟩ = some (.bool false) := hb.c 2 rfl
            have cc3 : W'.cell? ⟨p17, 3, none⟩ = some (.slice none 0 0) := hb.c 3 rfl
            go_step
            exact hK.out undef _ (Keeps.only hb rfl ((Only.refl _ _).set.set.set.set)) ⟨(Below.setCell (p := ⟨p17, 3, none⟩) (Below.setCell (p := ⟨p17, 2, none⟩) (Below.setCell (p := ⟨p17, 1, none⟩) (Below.setCell (p := ⟨p17, 0, none⟩) j0 (by show w.heap.size ≤ p17; omega) _) (by show w.heap.size ≤ p17; omega) _) (by show w.heap.size ≤ p17; omega) _) (by show w.heap.size ≤ p17; omega) _), jk.trans (Keeps.only hb rfl ((Only.refl _ _).set.set.set.set)), by simpa using jn, ((((b_q).far' (show w3.heap.size ≠ p17 by omega)).far' (show w3.heap.size ≠ p17 by omega)).far' (show w3.heap.size ≠ p17 by omega)).far' (show w3.heap.size ≠ p17 by omega), ((((b_pa).far' (show p13 ≠ p17 by omega)).far' (show p13 ≠ p17 by omega)).far' (show p13 ≠ p17 by omega)).far' (show p13 ≠ p17 by omega), ((((b_pb).far' (show p14 ≠ p17 by omega)).far' (show p14 ≠ p17 by omega)).far' (show p14 ≠ p17 by omega)).far' (show p14 ≠ p17 by omega), ((((b_pc).far' (show wr.heap.size ≠ p17 by omega)).far' (show wr.heap.size ≠ p17 by omega)).far' (show wr.heap.size ≠ p17 by omega)).far' (show wr.heap.size ≠ p17 by omega), fun _ => ⟨p17, e1, e2, by simpa using e3, fun h => Bool.noConfusion h, fun _ => (Blk.set2 (cs' := #[.bool t01, .slice t02 t03 t04, .bool t05, .slice t06 t07 t08]) (Blk.set2 (cs' := #[.bool t01, .slice t02 t03 t04, .bool t05, .slice none 0 0]) (Blk.set2 (cs' := #[.bool t01, .slice t02 t03 t04, .bool false, .slice none 0 0]) (Blk.set2 (cs' := #[.bool t01, .slice none 0 0, .bool false, .slice none 0 0]) hb (i := 0) rfl) (i := 1) rfl) (i := 2) rfl) (i := 3) rfl)⟩, fun h => by obtain ⟨g, k1, k2, k3, k4, k5⟩ := a_13 h; have hne : g ≠ p17 := fun e => (q_12_13 f.1 h) (by rw [e6, k1, e]); exact ⟨g, k1, k2, by simpa using k3, fun h => ((((k4 h).far' hne).far' hne).far' hne).far' hne, fun h => ((((k5 h).far' hne).far' hne).far' hne).far' hne⟩, q_12_13⟩ trivial trivial
          refine Reg.RC_call rfl (by intro t ht; cases ht) rfl (fun D v' W' hc hj hf K hK => ?_) (fun _ _ => Reg.RC_at (b := ⟨_, _⟩) rfl ?_)
          · obtain ⟨j0, jk, jn, b_q, b_pa, b_pb, b_pc, a_12, a_13, q_12_13⟩ := hj
            have f := hf (13, some 18) (.head _) rfl
            have e6 : v' 13 = .pointer (some ⟨p18, 0, none⟩) := f.2.1
            obtain ⟨g, e1, e2, e3, e4, e5⟩ := a_13 f.1
            obtain rfl : p18 = g := Reg.ptr_eq (e6.symm.trans e1)
            have hb := e4 hc.1
            clear e4 e5
            have ff := hb.fr
            have cc0 : W'.cell? ⟨p18, 0, none⟩ = some (.bool false) := hb.c 0 rfl
            have cc1 : W'.cell? ⟨p18, 1, none⟩ = some (.slice none 0 0) := hb.c 1 rfl
            have cc2 : W'.cell? ⟨p18, 2, none⟩ = some (.bool false) := hb.c 2 rfl
            have cc3 : W'.cell? ⟨p18, 3, none⟩ = some (.slice none 0 0) := hb.c 3 rfl
            go_step
            exact hK.out undef _ (Keeps.only hb rfl ((Only.refl _ _).set.set.set.set)) ⟨(Below.setCell (p := ⟨p18, 3, none⟩) (Below.setCell (p := ⟨p18, 2, none⟩) (Below.setCell (p := ⟨p18, 1, none⟩) (Below.setCell (p := ⟨p18, 0, none⟩) j0 (by show w.heap.size ≤ p18; omega) _) (by show w.heap.size ≤ p18; omega) _) (by show w.heap.size ≤ p18; omega) _) (by show w.heap.size ≤ p18; omega) _), jk.trans (Keeps.only hb rfl ((Only.refl _ _).set.set.set.set)), by simpa using jn, ((((b_q).far' (show w3.heap.size ≠ p18 by omega)).far' (show w3.heap.size ≠ p18 by omega)).far' (show w3.heap.size ≠ p18 by omega)).far' (show w3.heap.size ≠ p18 by omega), ((((b_pa).far' (show p13 ≠ p18 by omega)).far' (show p13 ≠ p18 by omega)).far' (show p13 ≠ p18 by omega)).far' (show p13 ≠ p18 by omega), ((((b_pb).far' (show p14 ≠ p18 by omega)).far' (show p14 ≠ p18 by omega)).far' (show p14 ≠ p18 by omega)).far' (show p14 ≠ p18 by omega), ((((b_pc).far' (show wr.heap.size ≠ p18 by omega)).far' (show wr.heap.size ≠ p18 by omega)).far' (show wr.heap.size ≠ p18 by omega)).far' (show wr.heap.size ≠ p18 by omega), fun h => by obtain ⟨g, k1, k2, k3, k4, k5⟩ := a_12 h; have hne : g ≠ p18 := fun e => (q_12_13 h f.1) (by rw [e6, k1, e]); exact ⟨g, k1, k2, by simpa using k3, fun h => ((((k4 h).far' hne).far' hne).far' hne).far' hne, fun h => ((((k5 h).far' hne).far' hne).far' hne).far' hne⟩, fun _ => ⟨p18, e1, e2, by simpa using e3, fun h => Bool.noConfusion h, fun _ => (Blk.set2 (cs' := #[.bool t11, .slice t12 t13 t14, .bool t15, .slice t16 t17 t18]) (Blk.set2 (cs' := #[.bool t11, .slice t12 t13 t14, .bool t15, .slice none 0 0]) (Blk.set2 (cs' := #[.bool t11, .slice t12 t13 t14, .bool false, .slice none 0 0]) (Blk.set2 (cs' := #[.bool t11, .slice none 0 0, .bool false, .slice none 0 0]) hb (i := 0) rfl) (i := 1) rfl) (i := 2) rfl) (i := 3) rfl)⟩, q_12_13⟩ trivial trivial
          refine Reg.RC_end (fun Dn v' w9 hd hj hf => ?_)
          obtain ⟨j0, jk, jn, b_q, b_pa, b_pb, b_pc, a_12, a_13, q_12_13⟩ := hj
          have B := j0
          have oq := b_q
          clear b_q
          have opa := b_pa
          clear b_pa
          have opb := b_pb
          clear b_pb
          have opc := b_pc
          clear b_pc
          have f := hf (12, some 17) (.head _) rfl
          have e6_ : v' 12 = .pointer (some ⟨p17, 0, none⟩) := f.2.1
          obtain ⟨g, e1_, zfx, -, -, e5_⟩ := a_12 f.1
          obtain rfl : p17 = g := Reg.ptr_eq (e6_.symm.trans e1_)
          have ofx : Blk w9 p17 28 #[.bool t01, .slice t02 t03 t04, .bool t05, .slice t06 t07 t08] := e5_ (hd 14 (Nat.le_of_ble_eq_true rfl))
          clear f e5_ e1_ e6_
          have f := hf (13, some 18) (.tail _ (.head _)) rfl
          have e6_ : v' 13 = .pointer (some ⟨p18, 0, none⟩) := f.2.1
          obtain ⟨g, e1_, zfy, -, -, e5_⟩ := a_13 f.1
          obtain rfl : p18 = g := Reg.ptr_eq (e6_.symm.trans e1_)
          have ofy : Blk w9 p18 28 #[.bool t11, .slice t12 t13 t14, .bool t15, .slice t16 t17 t18] := e5_ (hd 15 (Nat.le_of_ble_eq_true rfl))
          clear f e5_ e1_ e6_
          have y_12_13 : p17 ≠ p18 := fun e => q_12_13 (hf (12, some 17) (.head _) rfl).1 (hf (13, some 18) (.tail _ (.head _)) rfl).1 (by have h1 := (hf (12, some 17) (.head _) rfl).2.1; have h2 := (hf (13, some 18) (.tail _ (.head _)) rfl).2.1; rw [h1, h2]; show Value.pointer _ = .pointer _; rw [e])
          replace Fq0 := Hid.mk_ (Fq0.out.keeps jk)
          replace Fq1 := Hid.mk_ (Fq1.out.keeps jk)
          replace Fq2 := Hid.mk_ (Fq2.out.keeps jk)
          replace Fq3 := Hid.mk_ (Fq3.out.keeps jk)
          replace kk := kk.trans jk
          clear hd hf jk j0 q_12_13
          refine hQ _ _ ?_
          clear hQ hops Q' ops'
          have cpa0 := opa.q0
          have cpa1 := opa.q1
          have lpa := opa.lt
          have cpb0 := opb.q0
          have cpb1 := opb.q1
          have lpb := opb.lt
          have zfy_9 : p18 < w9.heap.size := ofy.lt
          have zpa_9 : p13 < w9.heap.size := opa.lt
          have zpb_9 : p14 < w9.heap.size := opb.lt
          have zfx_9 : p17 < w9.heap.size := ofx.lt
          have zz9 := B.size
          (try dsimp only); repeat' (first | go_values | go_skip | go_guarded | go_step | go_upon)
          refine Reg.wp_chain_n (fun N0 D v W => Below w.heap.size w W ∧ Keeps w9 W ∧ N0 ≤ W.heap.size ∧ Blk W (w3.heap.size) 31 CA ∧ Blk W (p13) 43 #[.int .i64 x0, .int .i64 y0] ∧ Blk W (p14) 43 #[.int .i64 x1, .int .i64 y1] ∧ Blk W (wr.heap.size) 43 #[.int .i64 x2, .int .i64 y2] ∧ Blk W (p17) 28 #[.bool t01, .slice t02 t03 t04, .bool t05, .slice t06 t07 t08] ∧ Blk W (p18) 28 #[.bool t11, .slice t12 t13 t14, .bool t15, .slice t16 t17 t18] ∧ (D 12 = true → ∃ g : Nat, v 12 = .pointer (some ⟨g, 0, none⟩) ∧ N0 ≤ g ∧ g < W.heap.size ∧ (D 14 = false → Blk W g 28 #[.bool false, .slice none 0 0, .bool false, .slice none 0 0]) ∧ (D 14 = true → D 5 = true ∧ ∃ cs, v 5 = .agg cs ∧ Blk W g 28 cs)) ∧ (D 13 = true → ∃ g : Nat, v 13 = .pointer (some ⟨g, 0, none⟩) ∧ N0 ≤ g ∧ g < W.heap.size ∧ (D 15 = false → Blk W g 28 #[.bool false, .slice none 0 0, .bool false, .slice none 0 0]) ∧ (D 15 = true → D 11 = true ∧ ∃ cs, v 11 = .agg cs ∧ Blk W g 28 cs)) ∧ (D 12 = true → D 13 = true → v 12 ≠ v 13))
            (Reg.inl [5, 11, 12, 13, 14, 15]) (Reg.gv [(5, IsFr), (11, IsFr), (12, IsPtr), (13, IsPtr)]) (gw [(5, GFr ((ux : Rat))), (11, GFr ((uy : Rat)))]) (fun _ => Keeps) (fun _ _ => False) (Reg.pl [(14, [(5, some 161), (12, some 19)]), (15, [(11, some 167), (13, some 20)]), (16, [(5, some 161), (11, some 167), (12, some 19), (13, some 20)])]) (Reg.pl [(12, [14]), (5, [14]), (13, [15]), (11, [15])])
            (by kernel_rfl) (by kernel_rfl) (by kernel_rfl) (Reg.gv_some _ (by intro p hp; simp only [List.mem_cons, List.not_mem_nil, or_false] at hp; rcases hp with rfl | rfl | rfl | rfl <;> first | exact ⟨_, rfl⟩ | exact ⟨_, 0, rfl⟩ | exact ⟨_, none, 0, 0, rfl⟩ | exact ⟨_, false, none, 0, 0, rfl⟩ | exact ⟨_, false, none, 0, 0, false, none, 0, 0, rfl⟩)) (fun N0 hN0 => ⟨fun v => ?_, fun D v v' W hv hj => ?_, fun D v k j W W' x _ _ _ _ hk hg => gw_keeps _ (by intro p hp; simp only [List.mem_cons, List.not_mem_nil, or_false] at hp; rcases hp with rfl | rfl <;> first | exact GFr.keeps | exact GFrE.keeps | exact GNu.keeps | exact GNuE.keeps | exact GLi.keeps) hk hg, fun _ _ _ _ h => h.elim, fun ops' Q' hops hQ => ?_⟩)
          · exact ⟨belowB, keepsB, Nat.le_of_eq hN0.out, ownK, ownK, ownK, ownK, ownK, ownK, (fun h => Bool.noConfusion h), (fun h => Bool.noConfusion h), (fun h => Bool.noConfusion h)⟩
          · obtain ⟨j0, jk, jn, b_q, b_pa, b_pb, b_pc, b_fx, b_fy, a_12, a_13, q_12_13⟩ := hj
            exact ⟨j0, jk, jn, b_q, b_pa, b_pb, b_pc, b_fx, b_fy, fun h => by obtain ⟨g, e1, e2, e3, e4, e5⟩ := a_12 h; exact ⟨g, (hv 12 h) ▸ e1, e2, e3, e4, fun h => by obtain ⟨d, cs, e, hb⟩ := e5 h; exact ⟨d, cs, (hv 5 d) ▸ e, hb⟩⟩, fun h => by obtain ⟨g, e1, e2, e3, e4, e5⟩ := a_13 h; exact ⟨g, (hv 13 h) ▸ e1, e2, e3, e4, fun h => by obtain ⟨d, cs, e, hb⟩ := e5 h; exact ⟨d, cs, (hv 11 d) ▸ e, hb⟩⟩, fun h h' => (hv 12 h) ▸ (hv 13 h') ▸ q_12_13 h h'⟩
          have i_q : w3.heap.size < N0 := by have e := hN0.out; (try simp only [World.size_alloc, World.size_setCell, World.size_drew, World.heap_drewN] at e); first | omega | (have h := oq.lt; omega)
          have i_pa : p13 < N0 := by have e := hN0.out; (try simp only [World.size_alloc, World.size_setCell, World.size_drew, World.heap_drewN] at e); first | omega | (have h := opa.lt; omega)
          have i_pb : p14 < N0 := by have e := hN0.out; (try simp only [World.size_alloc, World.size_setCell, World.size_drew, World.heap_drewN] at e); first | omega | (have h := opb.lt; omega)
          have i_pc : wr.heap.size < N0 := by have e := hN0.out; (try simp only [World.size_alloc, World.size_setCell, World.size_drew, World.heap_drewN] at e); first | omega | (have h := opc.lt; omega)
          have i_fx : p17 < N0 := by have e := hN0.out; (try simp only [World.size_alloc, World.size_setCell, World.size_drew, World.heap_drewN] at e); first | omega | (have h := ofx.lt; omega)
          have i_fy : p18 < N0 := by have e := hN0.out; (try simp only [World.size_alloc, World.size_setCell, World.size_drew, World.heap_drewN] at e); first | omega | (have h := ofy.lt; omega)
          have iw : w.heap.size ≤ N0 := by have e := hN0.out; (try simp only [World.size_alloc, World.size_setCell, World.size_drew, World.heap_drewN] at e); first | omega | (have h := B.size; omega)
          clear cpa0 cpa1 lpa cpb0 cpb1 lpb
          clear hN0
          apply Reg.RC_pure (hc := rfl) (hst := rfl) (hw := rfl) (t := 156) (hd := rfl) (ht := Nat.le_of_ble_eq_true rfl)
          · intro D v' W' hc hj hf K hK
            go_step
            exact hK.out
          · rfl
          apply Reg.RC_pure (hc := rfl) (hst := rfl) (hw := rfl) (t := 157) (hd := rfl) (ht := Nat.le_of_ble_eq_true rfl)
          · intro D v' W' hc hj hf K hK
            obtain ⟨j0, jk, jn, b_q, b_pa, b_pb, b_pc, b_fx, b_fy, a_12, a_13, q_12_13⟩ := hj
            have c0 : W'.cell? ⟨p14, 0, none⟩ = some (.int .i64 x1) := b_pb.c 0 rfl
            have c1 : W'.cell? ⟨p14, 1, none⟩ = some (.int .i64 y1) := b_pb.c 1 rfl
            go_step
            exact hK.out
          · rfl
          apply Reg.RC_pure (hc := rfl) (hst := rfl) (hw := rfl) (t := 158) (hd := rfl) (ht := Nat.le_of_ble_eq_true rfl)
          · intro D v' W' hc hj hf K hK
            go_step
            exact hK.out
          · rfl
          apply Reg.RC_pure (hc := rfl) (hst := rfl) (hw := rfl) (t := 159) (hd := rfl) (ht := Nat.le_of_ble_eq_true rfl)
          · intro D v' W' hc hj hf K hK
            obtain ⟨j0, jk, jn, b_q, b_pa, b_pb, b_pc, b_fx, b_fy, a_12, a_13, q_12_13⟩ := hj
            have c0 : W'.cell? ⟨p13, 0, none⟩ = some (.int .i64 x0) := b_pa.c 0 rfl
            have c1 : W'.cell? ⟨p13, 1, none⟩ = some (.int .i64 y0) := b_pa.c 1 rfl
            go_step
            exact hK.out
          · rfl
          apply Reg.RC_pure (hc := rfl) (hst := rfl) (hw := rfl) (t := 160) (hd := rfl) (ht := Nat.le_of_ble_eq_true rfl)
          · intro D v' W' hc hj hf K hK
            go_step
            rw [wux]
            exact hK.out
          · rfl
          refine Reg.RC_call rfl (by intro t ht; cases ht; exact Nat.le_of_ble_eq_true rfl) rfl (fun D v' W' hc hj hf K hK => ?_) ?_
          · obtain ⟨j0, jk, jn, b_q, b_pa, b_pb, b_pc, b_fx, b_fy, a_12, a_13, q_12_13⟩ := hj
            clear hf
            go_step
            refine (lofI ux W' bux).mono ?_
            rintro e W2 ⟨u, rfl, hu, hs⟩
            obtain ⟨oux_1, oux_2, oux_3, oux_4, oux_5, oux_6, oux_7, oux_8, rfl⟩ := hu.shape
            exact hK.out _ W2 (Keeps.steps hs) ⟨below_steps j0 (Nat.le_refl _) hs, jk.then_ hs, Nat.le_trans jn hs.size, b_q.steps hs, b_pa.steps hs, b_pb.steps hs, b_pc.steps hs, b_fx.steps hs, b_fy.steps hs, fun h => by obtain ⟨g, e1, e2, e3, e4, e5⟩ := a_12 h; exact ⟨g, e1, e2, Nat.lt_of_lt_of_le e3 (hs).size, fun h => (e4 h).steps hs, fun h => Bool.noConfusion ((hc.2 14 (by decide)).symm.trans h)⟩, fun h => by obtain ⟨g, e1, e2, e3, e4, e5⟩ := a_13 h; exact ⟨g, e1, e2, Nat.lt_of_lt_of_le e3 (hs).size, fun h => (e4 h).steps hs, fun h => by obtain ⟨d, cs, e, hb⟩ := e5 h; exact ⟨d, cs, e, hb.steps hs⟩⟩, q_12_13⟩ hu ⟨_, _, _, _, _, _, _, _, rfl⟩
          rintro _ ⟨oux_1, oux_2, oux_3, oux_4, oux_5, oux_6, oux_7, oux_8, rfl⟩
          refine Reg.RC_at (b := ⟨#[_,_,_,_,_,_,_,_,_,_,_,_,_,_,_,_,_,_,_,_,_,_,_,_,_,_,_,_,_,_,_,_,_,_,_,_,_,_,_,_,_,_,_,_,_,_,_,_,_,_,_,_,_,_,_,_,_,_,_,_,_,_,_,_,_,_,_,_,_,_,_,_,_,_,_,_,_,_,_,_,_,_,_,_,_,_,_,_,_,_,_,_,_,_,_,_,_,_,_,_,_,_,_,_,_,_,_,_,_,_,_,_,_,_,_,_,_,_,_,_,_,_,_,_,_,_,_,_,_,_,_,_,_,_,_,_,_,_,_,_,_,_,_,_,_,_,_,_,_,_,_,_,_,_,_,_,_,_,_,_,_,_,_,_,_,_,_,_,_,_,_,_,_,_,_,_,_,_,_,_,_,_,_,_,_,_,_,_,_,_,_,_,_,_,_,_,_,_,_,_,_,_,_,_,_,_,_,_,_,_,_,_,_,_,_,_,_,_,_,_,_,_,_,_,_,_,_,_,_,_,_,_,_], _⟩) rfl ?_
          apply Reg.RC_pure (hc := rfl) (hst := rfl) (hw := rfl) (t := 162) (hd := rfl) (ht := Nat.le_of_ble_eq_true rfl)
          · intro D v' W' hc hj hf K hK
            go_step
            exact hK.out
          · rfl
          apply Reg.RC_pure (hc := rfl) (hst := rfl) (hw := rfl) (t := 163) (hd := rfl) (ht := Nat.le_of_ble_eq_true rfl)
          · intro D v' W' hc hj hf K hK
            obtain ⟨j0, jk, jn, b_q, b_pa, b_pb, b_pc, b_fx, b_fy, a_12, a_13, q_12_13⟩ := hj
            have c0 : W'.cell? ⟨p14, 0, none⟩ = some (.int .i64 x1) := b_pb.c 0 rfl
            have c1 : W'.cell? ⟨p14, 1, none⟩ = some (.int .i64 y1) := b_pb.c 1 rfl
            go_step
            exact hK.out
          · rfl
          apply Reg.RC_pure (hc := rfl) (hst := rfl) (hw := rfl) (t := 164) (hd := rfl) (ht := Nat.le_of_ble_eq_true rfl)
          · intro D v' W' hc hj hf K hK
            go_step
            exact hK.out
          · rfl
          apply Reg.RC_pure (hc := rfl) (hst := rfl) (hw := rfl) (t := 165) (hd := rfl) (ht := Nat.le_of_ble_eq_true rfl)
          · intro D v' W' hc hj hf K hK
            obtain ⟨j0, jk, jn, b_q, b_pa, b_pb, b_pc, b_fx, b_fy, a_12, a_13, q_12_13⟩ := hj
            have c0 : W'.cell? ⟨p13, 0, none⟩ = some (.int .i64 x0) := b_pa.c 0 rfl
            have c1 : W'.cell? ⟨p13, 1, none⟩ = some (.int .i64 y0) := b_pa.c 1 rfl
            go_step
            exact hK.out
          · rfl
          apply Reg.RC_pure (hc := rfl) (hst := rfl) (hw := rfl) (t := 166) (hd := rfl) (ht := Nat.le_of_ble_eq_true rfl)
          · intro D v' W' hc hj hf K hK
            go_step
            rw [wuy]
            exact hK.out
          · rfl
          refine Reg.RC_call rfl (by intro t ht; cases ht; exact Nat.le_of_ble_eq_true rfl) rfl (fun D v' W' hc hj hf K hK => ?_) ?_
          · obtain ⟨j0, jk, jn, b_q, b_pa, b_pb, b_pc, b_fx, b_fy, a_12, a_13, q_12_13⟩ := hj
            clear hf
            go_step
            refine (lofI uy W' buy).mono ?_
            rintro e W2 ⟨u, rfl, hu, hs⟩
            obtain ⟨ouy_1, ouy_2, ouy_3, ouy_4, ouy_5, ouy_6, ouy_7, ouy_8, rfl⟩ := hu.shape
            exact hK.out _ W2 (Keeps.steps hs) ⟨below_steps j0 (Nat.le_refl _) hs, jk.then_ hs, Nat.le_trans jn hs.size, b_q.steps hs, b_pa.steps hs, b_pb.steps hs, b_pc.steps hs, b_fx.steps hs, b_fy.steps hs, fun h => by obtain ⟨g, e1, e2, e3, e4, e5⟩ := a_12 h; exact ⟨g, e1, e2, Nat.lt_of_lt_of_le e3 (hs).size, fun h => (e4 h).steps hs, fun h => by obtain ⟨d, cs, e, hb⟩ := e5 h; exact ⟨d, cs, e, hb.steps hs⟩⟩, fun h => by obtain ⟨g, e1, e2, e3, e4, e5⟩ := a_13 h; exact ⟨g, e1, e2, Nat.lt_of_lt_of_le e3 (hs).size, fun h => (e4 h).steps hs, fun h => Bool.noConfusion ((hc.2 15 (by decide)).symm.trans h)⟩, q_12_13⟩ hu ⟨_, _, _, _, _, _, _, _, rfl⟩
          rintro _ ⟨ouy_1, ouy_2, ouy_3, ouy_4, ouy_5, ouy_6, ouy_7, ouy_8, rfl⟩
          refine Reg.RC_at (b := ⟨#[_,_,_,_,_,_,_,_,_,_,_,_,_,_,_,_,_,_,_,_,_,_,_,_,_,_,_,_,_,_,_,_,_,_,_,_,_,_,_,_,_,_,_,_,_,_,_,_,_,_,_,_,_,_,_,_,_,_,_,_,_,_,_,_,_,_,_,_,_,_,_,_,_,_,_,_,_,_,_,_,_,_,_,_,_,_,_,_,_,_,_,_,_,_,_,_,_,_,_,_,_,_,_,_,_,_,_,_,_,_,_,_,_,_,_,_,_,_,_,_,_,_,_,_,_,_,_,_,_,_,_,_,_,_,_,_,_,_,_,_,_,_,_,_,_,_,_,_,_,_,_,_,_,_,_,_,_,_,_,_,_,_,_,_,_,_,_,_,_,_,_,_,_,_,_,_,_,_,_,_,_,_,_,_,_,_,_,_,_,_,_,_,_,_,_,_,_,_,_,_,_,_,_,_,_,_,_,_,_,_,_,_,_,_,_,_,_,_,_,_,_,_,_,_,_,_,_,_,_,_,_,_,_], _⟩) rfl ?_
          refine Reg.RC_call rfl (by intro t ht; cases ht; exact Nat.le_of_ble_eq_true rfl) rfl (fun D v' W' hc hj hf K hK => ?_) ?_
          · obtain ⟨j0, jk, jn, b_q, b_pa, b_pb, b_pc, b_fx, b_fy, a_12, a_13, q_12_13⟩ := hj
            go_step
            have hs : ∀ o : Obj, Steps W' (W'.alloc o) := fun o => (Below.refl _ _).alloc (Nat.le_refl _) o
            exact hK.out _ _ (Keeps.steps (hs _)) ⟨below_steps j0 (Nat.le_refl _) (hs _), jk.then_ (hs _), Nat.le_trans jn (hs _).size, b_q.steps (hs _), b_pa.steps (hs _), b_pb.steps (hs _), b_pc.steps (hs _), b_fx.steps (hs _), b_fy.steps (hs _), fun _ => ⟨W'.heap.size, rfl, jn, by rw [World.size_alloc]; omega, fun _ => Blk.new _ _ _, fun h => Bool.noConfusion ((hc.2 14 (by decide)).symm.trans h)⟩, fun h => by obtain ⟨g, e1, e2, e3, e4, e5⟩ := a_13 h; exact ⟨g, e1, e2, Nat.lt_of_lt_of_le e3 ((hs _)).size, fun h => (e4 h).steps (hs _), fun h => by obtain ⟨d, cs, e, hb⟩ := e5 h; exact ⟨d, cs, e, hb.steps (hs _)⟩⟩, fun _ h' => by obtain ⟨g, e1, e2, e3, e4, e5⟩ := a_13 h'; exact fun e => Reg.ptr_ne e3 (e.trans e1)⟩ trivial ⟨_, rfl⟩
          rintro _ ⟨p19, rfl⟩
          refine Reg.RC_at (b := ⟨#[_,_,_,_,_,_,_,_,_,_,_,_,_,_,_,_,_,_,_,_,_,_,_,_,_,_,_,_,_,_,_,_,_,_,_,_,_,_,_,_,_,_,_,_,_,_,_,_,_,_,_,_,_,_,_,_,_,_,_,_,_,_,_,_,_,_,_,_,_,_,_,_,_,_,_,_,_,_,_,_,_,_,_,_,_,_,_,_,_,_,_,_,_,_,_,_,_,_,_,_,_,_,_,_,_,_,_,_,_,_,_,_,_,_,_,_,_,_,_,_,_,_,_,_,_,_,_,_,_,_,_,_,_,_,_,_,_,_,_,_,_,_,_,_,_,_,_,_,_,_,_,_,_,_,_,_,_,_,_,_,_,_,_,_,_,_,_,_,_,_,_,_,_,_,_,_,_,_,_,_,_,_,_,_,_,_,_,_,_,_,_,_,_,_,_,_,_,_,_,_,_,_,_,_,_,_,_,_,_,_,_,_,_,_,_,_,_,_,_,_,_,_,_,_,_,_,_,_,_,_,_,_,_], _⟩) rfl ?_
          refine Reg.RC_call rfl (by intro t ht; cases ht; exact Nat.le_of_ble_eq_true rfl) rfl (fun D v' W' hc hj hf K hK => ?_) ?_
          · obtain ⟨j0, jk, jn, b_q, b_pa, b_pb, b_pc, b_fx, b_fy, a_12, a_13, q_12_13⟩ := hj
            go_step
            have hs : ∀ o : Obj, Steps W' (W'.alloc o) := fun o => (Below.refl _ _).alloc (Nat.le_refl _) o
            exact hK.out _ _ (Keeps.steps (hs _)) ⟨below_steps j0 (Nat.le_refl _) (hs _), jk.then_ (hs _), Nat.le_trans jn (hs _).size, b_q.steps (hs _), b_pa.steps (hs _), b_pb.steps (hs _), b_pc.steps (hs _), b_fx.steps (hs _), b_fy.steps (hs _), fun h => by obtain ⟨g, e1, e2, e3, e4, e5⟩ := a_12 h; exact ⟨g, e1, e2, Nat.lt_of_lt_of_le e3 ((hs _)).size, fun h => (e4 h).steps (hs _), fun h => by obtain ⟨d, cs, e, hb⟩ := e5 h; exact ⟨d, cs, e, hb.steps (hs _)⟩⟩, fun _ => ⟨W'.heap.size, rfl, jn, by rw [World.size_alloc]; omega, fun _ => Blk.new _ _ _, fun h => Bool.noConfusion ((hc.2 15 (by decide)).symm.trans h)⟩, fun h _ => by obtain ⟨g, e1, e2, e3, e4, e5⟩ := a_12 h; exact fun e => Reg.ptr_ne e3 (e.symm.trans e1)⟩ trivial ⟨_, rfl⟩
          rintro _ ⟨p20, rfl⟩
          refine Reg.RC_at (b := ⟨#[_,_,_,_,_,_,_,_,_,_,_,_,_,_,_,_,_,_,_,_,_,_,_,_,_,_,_,_,_,_,_,_,_,_,_,_,_,_,_,_,_,_,_,_,_,_,_,_,_,_,_,_,_,_,_,_,_,_,_,_,_,_,_,_,_,_,_,_,_,_,_,_,_,_,_,_,_,_,_,_,_,_,_,_,_,_,_,_,_,_,_,_,_,_,_,_,_,_,_,_,_,_,_,_,_,_,_,_,_,_,_,_,_,_,_,_,_,_,_,_,_,_,_,_,_,_,_,_,_,_,_,_,_,_,_,_,_,_,_,_,_,_,_,_,_,_,_,_,_,_,_,_,_,_,_,_,_,_,_,_,_,_,_,_,_,_,_,_,_,_,_,_,_,_,_,_,_,_,_,_,_,_,_,_,_,_,_,_,_,_,_,_,_,_,_,_,_,_,_,_,_,_,_,_,_,_,_,_,_,_,_,_,_,_,_,_,_,_,_,_,_,_,_,_,_,_,_,_,_,_,_,_,_], _⟩) rfl ?_
          refine Reg.RC_call rfl (by intro t ht; cases ht) rfl (fun D v' W' hc hj hf K hK => ?_) (fun _ _ => Reg.RC_at (b := ⟨_, _⟩) rfl ?_)
          · obtain ⟨j0, jk, jn, b_q, b_pa, b_pb, b_pc, b_fx, b_fy, a_12, a_13, q_12_13⟩ := hj
            have f := hf (12, some 19) (.tail _ (.head _)) rfl
            have e6 : v' 12 = .pointer (some ⟨p19, 0, none⟩) := f.2.1
            obtain ⟨g, e1, e2, e3, e4, e5⟩ := a_12 f.1
            obtain rfl : p19 = g := Reg.ptr_eq (e6.symm.trans e1)
            have hb := e4 hc.1
            clear e4 e5
            have fc := hf (5, some 161) (.head _) rfl
            have ec : v' 5 = .agg #[.bool oux_1, .slice oux_2 oux_3 oux_4, .bool oux_5, .slice oux_6 oux_7 oux_8] := fc.2.1
            have ff := hb.fr
            have cc0 : W'.cell? ⟨p19, 0, none⟩ = some (.bool false) := hb.c 0 rfl
            have cc1 : W'.cell? ⟨p19, 1, none⟩ = some (.slice none 0 0) := hb.c 1 rfl
            have cc2 : W'.cell? ⟨p19, 2, none⟩ = some (.bool false) := hb.c 2 rfl
            have cc3 : W'.cell? ⟨p19, 3, none⟩ = some (.slice none 0 0) := hb.c 3 rfl
            go_step
            exact hK.out undef _ (Keeps.only hb rfl ((Only.refl _ _).set.set.set.set)) ⟨(Below.setCell (p := ⟨p19, 3, none⟩) (Below.setCell (p := ⟨p19, 2, none⟩) (Below.setCell (p := ⟨p19, 1, none⟩) (Below.setCell (p := ⟨p19, 0, none⟩) j0 (by show w.heap.size ≤ p19; omega) _) (by show w.heap.size ≤ p19; omega) _) (by show w.heap.size ≤ p19; omega) _) (by show w.heap.size ≤ p19; omega) _), jk.trans (Keeps.only hb rfl ((Only.refl _ _).set.set.set.set)), by simpa using jn, ((((b_q).far' (show w3.heap.size ≠ p19 by omega)).far' (show w3.heap.size ≠ p19 by omega)).far' (show w3.heap.size ≠ p19 by omega)).far' (show w3.heap.size ≠ p19 by omega), ((((b_pa).far' (show p13 ≠ p19 by omega)).far' (show p13 ≠ p19 by omega)).far' (show p13 ≠ p19 by omega)).far' (show p13 ≠ p19 by omega), ((((b_pb).far' (show p14 ≠ p19 by omega)).far' (show p14 ≠ p19 by omega)).far' (show p14 ≠ p19 by omega)).far' (show p14 ≠ p19 by omega), ((((b_pc).far' (show wr.heap.size ≠ p19 by omega)).far' (show wr.heap.size ≠ p19 by omega)).far' (show wr.heap.size ≠ p19 by omega)).far' (show wr.heap.size ≠ p19 by omega), ((((b_fx).far' (show p17 ≠ p19 by omega)).far' (show p17 ≠ p19 by omega)).far' (show p17 ≠ p19 by omega)).far' (show p17 ≠ p19 by omega), ((((b_fy).far' (show p18 ≠ p19 by omega)).far' (show p18 ≠ p19 by omega)).far' (show p18 ≠ p19 by omega)).far' (show p18 ≠ p19 by omega), fun _ => ⟨p19, e1, e2, by simpa using e3, fun h => Bool.noConfusion h, fun _ => ⟨fc.1, _, ec, (Blk.set2 (cs' := #[.bool oux_1, .slice oux_2 oux_3 oux_4, .bool oux_5, .slice oux_6 oux_7 oux_8]) (Blk.set2 (cs' := #[.bool oux_1, .slice oux_2 oux_3 oux_4, .bool oux_5, .slice none 0 0]) (Blk.set2 (cs' := #[.bool oux_1, .slice oux_2 oux_3 oux_4, .bool false, .slice none 0 0]) (Blk.set2 (cs' := #[.bool oux_1, .slice none 0 0, .bool false, .slice none 0 0]) hb (i := 0) rfl) (i := 1) rfl) (i := 2) rfl) (i := 3) rfl)⟩⟩, fun h => by obtain ⟨g, k1, k2, k3, k4, k5⟩ := a_13 h; have hne : g ≠ p19 := fun e => (q_12_13 f.1 h) (by rw [e6, k1, e]); exact ⟨g, k1, k2, by simpa using k3, fun h => ((((k4 h).far' hne).far' hne).far' hne).far' hne, fun h => by obtain ⟨d, cs, e, hb2⟩ := k5 h; exact ⟨d, cs, e, ((((hb2).far' hne).far' hne).far' hne).far' hne⟩⟩, q_12_13⟩ trivial trivial
          refine Reg.RC_call rfl (by intro t ht; cases ht) rfl (fun D v' W' hc hj hf K hK => ?_) (fun _ _ => Reg.RC_at (b := ⟨_, _⟩) rfl ?_)
          · obtain ⟨j0, jk, jn, b_q, b_pa, b_pb, b_pc, b_fx, b_fy, a_12, a_13, q_12_13⟩ := hj
            have f := hf (13, some 20) (.tail _ (.head _)) rfl
            have e6 : v' 13 = .pointer (some ⟨p20, 0, none⟩) := f.2.1
            obtain ⟨g, e1, e2, e3, e4, e5⟩ := a_13 f.1
            obtain rfl : p20 = g := Reg.ptr_eq (e6.symm.trans e1)
            have hb := e4 hc.1
            clear e4 e5
            have fc := hf (11, some 167) (.head _) rfl
            have ec : v' 11 = .agg #[.bool ouy_1, .slice ouy_2 ouy_3 ouy_4, .bool ouy_5, .slice ouy_6 ouy_7 ouy_8] := fc.2.1
            have ff := hb.fr
            have cc0 : W'.cell? ⟨p20, 0, none⟩ = some (.bool false) := hb.c 0 rfl
            have cc1 : W'.cell? ⟨p20, 1, none⟩ = some (.slice none 0 0) := hb.c 1 rfl
            have cc2 : W'.cell? ⟨p20, 2, none⟩ = some (.bool false) := hb.c 2 rfl
            have cc3 : W'.cell? ⟨p20, 3, none⟩ = some (.slice none 0 0) := hb.c 3 rfl
            go_step
            exact hK.out undef _ (Keeps.only hb rfl ((Only.refl _ _).set.set.set.set)) ⟨(Below.setCell (p := ⟨p20, 3, none⟩) (Below.setCell (p := ⟨p20, 2, none⟩) (Below.setCell (p := ⟨p20, 1, none⟩) (Below.setCell (p := ⟨p20, 0, none⟩) j0 (by show w.heap.size ≤ p20; omega) _) (by show w.heap.size ≤ p20; omega) _) (by show w.heap.size ≤ p20; omega) _) (by show w.heap.size ≤ p20; omega) _), jk.trans (Keeps.only hb rfl ((Only.refl _ _).set.set.set.set)), by simpa using jn, ((((b_q).far' (show w3.heap.size ≠ p20 by omega)).far' (show w3.heap.size ≠ p20 by omega)).far' (show w3.heap.size ≠ p20 by omega)).far' (show w3.heap.size ≠ p20 by omega), ((((b_pa).far' (show p13 ≠ p20 by omega)).far' (show p13 ≠ p20 by omega)).far' (show p13 ≠ p20 by omega)).far' (show p13 ≠ p20 by omega), ((((b_pb).far' (show p14 ≠ p20 by omega)).far' (show p14 ≠ p20 by omega)).far' (show p14 ≠ p20 by omega)).far' (show p14 ≠ p20 by omega), ((((b_pc).far' (show wr.heap.size ≠ p20 by omega)).far' (show wr.heap.size ≠ p20 by omega)).far' (show wr.heap.size ≠ p20 by omega)).far' (show wr.heap.size ≠ p20 by omega), ((((b_fx).far' (show p17 ≠ p20 by omega)).far' (show p17 ≠ p20 by omega)).far' (show p17 ≠ p20 by omega)).far' (show p17 ≠ p20 by omega), ((((b_fy).far' (show p18 ≠ p20 by omega)).far' (show p18 ≠ p20 by omega)).far' (show p18 ≠ p20 by omega)).far' (show p18 ≠ p20 by omega), fun h => by obtain ⟨g, k1, k2, k3, k4, k5⟩ := a_12 h; have hne : g ≠ p20 := fun e => (q_12_13 h f.1) (by rw [e6, k1, e]); exact ⟨g, k1, k2, by simpa using k3, fun h => ((((k4 h).far' hne).far' hne).far' hne).far' hne, fun h => by obtain ⟨d, cs, e, hb2⟩ := k5 h; exact ⟨d, cs, e, ((((hb2).far' hne).far' hne).far' hne).far' hne⟩⟩, fun _ => ⟨p20, e1, e2, by simpa using e3, fun h => Bool.noConfusion h, fun _ => ⟨fc.1, _, ec, (Blk.set2 (cs' := #[.bool ouy_1, .slice ouy_2 ouy_3 ouy_4, .bool ouy_5, .slice ouy_6 ouy_7 ouy_8]) (Blk.set2 (cs' := #[.bool ouy_1, .slice ouy_2 ouy_3 ouy_4, .bool ouy_5, .slice none 0 0]) (Blk.set2 (cs' := #[.bool ouy_1, .slice ouy_2 ouy_3 ouy_4, .bool false, .slice none 0 0]) (Blk.set2 (cs' := #[.bool ouy_1, .slice none 0 0, .bool false, .slice none 0 0]) hb (i := 0) rfl) (i := 1) rfl) (i := 2) rfl) (i := 3) rfl)⟩⟩, q_12_13⟩ trivial trivial
          refine Reg.RC_end (fun Dn v' w10 hd hj hf => ?_)
          obtain ⟨j0, jk, jn, b_q, b_pa, b_pb, b_pc, b_fx, b_fy, a_12, a_13, q_12_13⟩ := hj
          have B := j0
          have oq := b_q
          clear b_q
          have opa := b_pa
          clear b_pa
          have opb := b_pb
          clear b_pb
          have opc := b_pc
          clear b_pc
          have ofx := b_fx
          clear b_fx
          have ofy := b_fy
          clear b_fy
          have f := hf (12, some 19) (.tail _ (.tail _ (.head _))) rfl
          have e6_ : v' 12 = .pointer (some ⟨p19, 0, none⟩) := f.2.1
          obtain ⟨g, e1_, zgx, -, -, e5_⟩ := a_12 f.1
          obtain rfl : p19 = g := Reg.ptr_eq (e6_.symm.trans e1_)
          obtain ⟨-, cs_, ee, ogx⟩ := e5_ (hd 14 (Nat.le_of_ble_eq_true rfl))
          have ef : v' 5 = .agg #[.bool oux_1, .slice oux_2 oux_3 oux_4, .bool oux_5, .slice oux_6 oux_7 oux_8] := (hf (5, some 161) (.head _) rfl).2.1
          obtain rfl : #[.bool oux_1, .slice oux_2 oux_3 oux_4, .bool oux_5, .slice oux_6 oux_7 oux_8] = cs_ := by have := ef.symm.trans ee; simpa only [Value.tuple.injEq, Value.agg.injEq, Array.mk.injEq, List.cons.injEq, and_true, true_and] using this
          clear ee ef f e5_ e1_ e6_
          have f := hf (13, some 20) (.tail _ (.tail _ (.tail _ (.head _)))) rfl
          have e6_ : v' 13 = .pointer (some ⟨p20, 0, none⟩) := f.2.1
          obtain ⟨g, e1_, zgy, -, -, e5_⟩ := a_13 f.1
          obtain rfl : p20 = g := Reg.ptr_eq (e6_.symm.trans e1_)
          obtain ⟨-, cs_, ee, ogy⟩ := e5_ (hd 15 (Nat.le_of_ble_eq_true rfl))
          have ef : v' 11 = .agg #[.bool ouy_1, .slice ouy_2 ouy_3 ouy_4, .bool ouy_5, .slice ouy_6 ouy_7 ouy_8] := (hf (11, some 167) (.tail _ (.head _)) rfl).2.1
          obtain rfl : #[.bool ouy_1, .slice ouy_2 ouy_3 ouy_4, .bool ouy_5, .slice ouy_6 ouy_7 ouy_8] = cs_ := by have := ef.symm.trans ee; simpa only [Value.tuple.injEq, Value.agg.injEq, Array.mk.injEq, List.cons.injEq, and_true, true_and] using this
          clear ee ef f e5_ e1_ e6_
          have y_12_13 : p19 ≠ p20 := fun e => q_12_13 (hf (12, some 19) (.tail _ (.tail _ (.head _))) rfl).1 (hf (13, some 20) (.tail _ (.tail _ (.tail _ (.head _)))) rfl).1 (by have h1 := (hf (12, some 19) (.tail _ (.tail _ (.head _))) rfl).2.1; have h2 := (hf (13, some 20) (.tail _ (.tail _ (.tail _ (.head _)))) rfl).2.1; rw [h1, h2]; show Value.pointer _ = .pointer _; rw [e])
          have Foux_ : Hid (FR w10 (.agg #[.bool oux_1, .slice oux_2 oux_3 oux_4, .bool oux_5, .slice oux_6 oux_7 oux_8]) ((ux : Rat))) := (hf (5, some 161) (.head _) rfl).2.2
          have Fouy_ : Hid (FR w10 (.agg #[.bool ouy_1, .slice ouy_2 ouy_3 ouy_4, .bool ouy_5, .slice ouy_6 ouy_7 ouy_8]) ((uy : Rat))) := (hf (11, some 167) (.tail _ (.head _)) rfl).2.2
          replace Fq0 := Hid.mk_ (Fq0.out.keeps jk)
          replace Fq1 := Hid.mk_ (Fq1.out.keeps jk)
          replace Fq2 := Hid.mk_ (Fq2.out.keeps jk)
          replace Fq3 := Hid.mk_ (Fq3.out.keeps jk)
          replace kk := kk.trans jk
          clear hd hf jk j0 q_12_13
          refine hQ _ _ ?_
          clear hQ hops Q' ops'
          have cfx0 := ofx.q0
          have cfx1 := ofx.q1
          have cfx2 := ofx.q2
          have cfx3 := ofx.q3
          have lfx := ofx.lt
          have cgx0 := ogx.q0
          have cgx1 := ogx.q1
          have cgx2 := ogx.q2
          have cgx3 := ogx.q3
          have lgx := ogx.lt
          (try dsimp only); repeat' (first | go_values | go_skip | go_guarded | go_step | go_upon)
          refine (fMulQ _ (Fq0.out.keeps keepsB) (Foux_.out.keeps keepsB) sz0 (sz_pt bux) (by omega)).mono ?_
          rintro e w11 ⟨vu1_, rfl, hvu1_, hb11⟩
          have st : Steps _ w11 := hb11
          have sk : Below w10.heap.size w10 w11 := belowA st
          replace B := below_steps B (Nat.le_refl _) sk
          replace oq := oq.steps sk
          replace opa := opa.steps sk
          replace opb := opb.steps sk
          replace opc := opc.steps sk
          replace ofx := ofx.steps sk
          replace ofy := ofy.steps sk
          replace ogx := ogx.steps sk
          replace ogy := ogy.steps sk
          replace Fq0 := Hid.mk_ (Fq0.out.steps sk)
          replace Fq1 := Hid.mk_ (Fq1.out.steps sk)
          replace Fq2 := Hid.mk_ (Fq2.out.steps sk)
          replace Fq3 := Hid.mk_ (Fq3.out.steps sk)
          replace Foux_ := Hid.mk_ (Foux_.out.steps sk)
          replace Fouy_ := Hid.mk_ (Fouy_.out.steps sk)
          replace kk := kk.then_ sk
          clear st sk cfx0 cfx1 cfx2 cfx3 lfx cgx0 cgx1 cgx2 cgx3 lgx
          have cfy0 := ofy.q0
          have cfy1 := ofy.q1
          have cfy2 := ofy.q2
          have cfy3 := ofy.q3
          have lfy := ofy.lt
          have cgy0 := ogy.q0
          have cgy1 := ogy.q1
          have cgy2 := ogy.q2
          have cgy3 := ogy.q3
          have lgy := ogy.lt
          obtain ⟨u1_1, u1_2, u1_3, u1_4, u1_5, u1_6, u1_7, u1_8, rfl⟩ := hvu1_.shape
          have Fu1_ := Hid.mk_ hvu1_
          clear hvu1_
          have zgy_11 : p20 < w11.heap.size := ogy.lt
          have zpa_11 : p13 < w11.heap.size := opa.lt
          have zpb_11 : p14 < w11.heap.size := opb.lt
          have zfx_11 : p17 < w11.heap.size := ofx.lt
          have zfy_11 : p18 < w11.heap.size := ofy.lt
          have zgx_11 : p19 < w11.heap.size := ogx.lt
          have zz11 := B.size
          (try dsimp only); repeat' (first | go_values | go_skip | go_guarded | go_step | go_upon)
          refine (fMulQ _ (Fq1.out.keeps keepsB) (Fouy_.out.keeps keepsB) sz1 (sz_pt buy) (by omega)).mono ?_
          rintro e w12 ⟨vu2_, rfl, hvu2_, hb12⟩
          have st : Steps _ w12 := hb12
          have sk : Below w11.heap.size w11 w12 := belowA st
          replace B := below_steps B (Nat.le_refl _) sk
          have oh1 : Blk w12 (w11.heap.size) 28 #[.bool u1_1, .slice u1_2 u1_3 u1_4, .bool u1_5, .slice u1_6 u1_7 u1_8] := Blk.stepsK st
          replace oq := oq.steps sk
          replace opa := opa.steps sk
          replace opb := opb.steps sk
          replace opc := opc.steps sk
          replace ofx := ofx.steps sk
          replace ofy := ofy.steps sk
          replace ogx := ogx.steps sk
          replace ogy := ogy.steps sk
          replace Fq0 := Hid.mk_ (Fq0.out.steps sk)
          replace Fq1 := Hid.mk_ (Fq1.out.steps sk)
          replace Fq2 := Hid.mk_ (Fq2.out.steps sk)
          replace Fq3 := Hid.mk_ (Fq3.out.steps sk)
          replace Foux_ := Hid.mk_ (Foux_.out.steps sk)
          replace Fouy_ := Hid.mk_ (Fouy_.out.steps sk)
          replace Fu1_ := Hid.mk_ (Fu1_.out.steps sk)
          replace kk := kk.then_ sk
          clear st sk cfy0 cfy1 cfy2 cfy3 lfy cgy0 cgy1 cgy2 cgy3 lgy
          have ch10 := oh1.q0
          have ch11 := oh1.q1
          have ch12 := oh1.q2
          have ch13 := oh1.q3
          have lh1 := oh1.lt
          obtain ⟨u2_1, u2_2, u2_3, u2_4, u2_5, u2_6, u2_7, u2_8, rfl⟩ := hvu2_.shape
          have Fu2_ := Hid.mk_ hvu2_
          clear hvu2_
          have zh1_12 : w11.heap.size < w12.heap.size := oh1.lt
          have zpa_12 : p13 < w12.heap.size := opa.lt
          have zpb_12 : p14 < w12.heap.size := opb.lt
          have zfx_12 : p17 < w12.heap.size := ofx.lt
          have zfy_12 : p18 < w12.heap.size := ofy.lt
          have zgx_12 : p19 < w12.heap.size := ogx.lt
          have zgy_12 : p20 < w12.heap.size := ogy.lt
          have zz12 := B.size
          (try dsimp only); repeat' (first | go_values | go_skip | go_guarded | go_step | go_upon)
          refine (fSubQ _ (Fu1_.out.keeps keepsB) (Fu2_.out.keeps keepsB) (sz0.mul (sz_pt bux)) (sz1.mul (sz_pt buy)) (by omega)).mono ?_
          rintro e w13 ⟨vu3_, rfl, hvu3_, hb13⟩
          have st : Steps _ w13 := hb13
          have sk : Below w12.heap.size w12 w13 := belowA st
          replace B := below_steps B (Nat.le_refl _) sk
          have oh2 : Blk w13 (w12.heap.size) 28 #[.bool u2_1, .slice u2_2 u2_3 u2_4, .bool u2_5, .slice u2_6 u2_7 u2_8] := Blk.stepsK st
          replace oq := oq.steps sk
          replace opa := opa.steps sk
          replace opb := opb.steps sk
          replace opc := opc.steps sk
          replace ofx := ofx.steps sk
          replace ofy := ofy.steps sk
          replace ogx := ogx.steps sk
          replace ogy := ogy.steps sk
          replace oh1 := oh1.steps sk
          replace Fq0 := Hid.mk_ (Fq0.out.steps sk)
          replace Fq1 := Hid.mk_ (Fq1.out.steps sk)
          replace Fq2 := Hid.mk_ (Fq2.out.steps sk)
          replace Fq3 := Hid.mk_ (Fq3.out.steps sk)
          replace Foux_ := Hid.mk_ (Foux_.out.steps sk)
          replace Fouy_ := Hid.mk_ (Fouy_.out.steps sk)
          replace Fu1_ := Hid.mk_ (Fu1_.out.steps sk)
          replace Fu2_ := Hid.mk_ (Fu2_.out.steps sk)
          replace kk := kk.then_ sk
          clear st sk ch10 ch11 ch12 ch13 lh1
          have cfx0 := ofx.q0
          have cfx1 := ofx.q1
          have cfx2 := ofx.q2
          have cfx3 := ofx.q3
          have lfx := ofx.lt
          have cgy0 := ogy.q0
          have cgy1 := ogy.q1
          have cgy2 := ogy.q2
          have cgy3 := ogy.q3
          have lgy := ogy.lt
          obtain ⟨u3_1, u3_2, u3_3, u3_4, u3_5, u3_6, u3_7, u3_8, rfl⟩ := hvu3_.shape
          have Fu3_ := Hid.mk_ hvu3_
          clear hvu3_
          have zh2_13 : w12.heap.size < w13.heap.size := oh2.lt
          have zpa_13 : p13 < w13.heap.size := opa.lt
          have zpb_13 : p14 < w13.heap.size := opb.lt
          have zfx_13 : p17 < w13.heap.size := ofx.lt
          have zfy_13 : p18 < w13.heap.size := ofy.lt
          have zgx_13 : p19 < w13.heap.size := ogx.lt
          have zgy_13 : p20 < w13.heap.size := ogy.lt
          have zz13 := B.size
          (try dsimp only); repeat' (first | go_values | go_skip | go_guarded | go_step | go_upon)
          refine (fMulQ _ (Fq0.out.keeps keepsB) (Fouy_.out.keeps keepsB) sz0 (sz_pt buy) (by omega)).mono ?_
          rintro e w14 ⟨vu4_, rfl, hvu4_, hb14⟩
          have st : Steps _ w14 := hb14
          have sk : Below w13.heap.size w13 w14 := belowA st
          replace B := below_steps B (Nat.le_refl _) sk
          have oh3 : Blk w14 (w13.heap.size) 28 #[.bool u3_1, .slice u3_2 u3_3 u3_4, .bool u3_5, .slice u3_6 u3_7 u3_8] := Blk.stepsK st
          replace oq := oq.steps sk
          replace opa := opa.steps sk
          replace opb := opb.steps sk
          replace opc := opc.steps sk
          replace ofx := ofx.steps sk
          replace ofy := ofy.steps sk
          replace ogx := ogx.steps sk
          replace ogy := ogy.steps sk
          replace oh1 := oh1.steps sk
          replace oh2 := oh2.steps sk
          replace Fq0 := Hid.mk_ (Fq0.out.steps sk)
          replace Fq1 := Hid.mk_ (Fq1.out.steps sk)
          replace Fq2 := Hid.mk_ (Fq2.out.steps sk)
          replace Fq3 := Hid.mk_ (Fq3.out.steps sk)
          replace Foux_ := Hid.mk_ (Foux_.out.steps sk)
          replace Fouy_ := Hid.mk_ (Fouy_.out.steps sk)
          replace Fu1_ := Hid.mk_ (Fu1_.out.steps sk)
          replace Fu2_ := Hid.mk_ (Fu2_.out.steps sk)
          replace Fu3_ := Hid.mk_ (Fu3_.out.steps sk)
          replace kk := kk.then_ sk
          clear st sk cfx0 cfx1 cfx2 cfx3 lfx cgy0 cgy1 cgy2 cgy3 lgy
          have cfy0 := ofy.q0
          have cfy1 := ofy.q1
          have cfy2 := ofy.q2
          have cfy3 := ofy.q3
          have lfy := ofy.lt
          have cgx0 := ogx.q0
          have cgx1 := ogx.q1
          have cgx2 := ogx.q2
          have cgx3 := ogx.q3
          have lgx := ogx.lt
          have ch10 := oh1.q0
          have ch11 := oh1.q1
          have ch12 := oh1.q2
          have ch13 := oh1.q3
          have fh1 := oh1.fr
          have lh1 := oh1.lt
          obtain ⟨u4_1, u4_2, u4_3, u4_4, u4_5, u4_6, u4_7, u4_8, rfl⟩ := hvu4_.shape
          have Fu4_ := Hid.mk_ hvu4_
          clear hvu4_
          (try dsimp only); repeat' (first | go_values | go_skip | go_guarded | go_step | go_upon)
          refine (fMulQ _ (Fq1.out.keeps keepsB) (Foux_.out.keeps keepsB) sz1 (sz_pt bux) (by omega)).mono ?_
          rintro e w15 ⟨vu5_, rfl, hvu5_, hb15⟩
          have st : Steps _ w15 := hb15
          have Bn : Below w.heap.size w w15 := belowA st
          have kp : Keeps w14 w15 := Keeps.then_ keepsB st
          replace kk := kk.trans kp
          have nq : Blk w15 (w3.heap.size) 31 CA := Blk.stepsK st
          have npa : Blk w15 (p13) 43 #[.int .i64 x0, .int .i64 y0] := Blk.stepsK st
          have npb : Blk w15 (p14) 43 #[.int .i64 x1, .int .i64 y1] := Blk.stepsK st
          have npc : Blk w15 (wr.heap.size) 43 #[.int .i64 x2, .int .i64 y2] := Blk.stepsK st
          have nfx : Blk w15 (p17) 28 #[.bool t01, .slice t02 t03 t04, .bool t05, .slice t06 t07 t08] := Blk.stepsK st
          have nfy : Blk w15 (p18) 28 #[.bool t11, .slice t12 t13 t14, .bool t15, .slice t16 t17 t18] := Blk.stepsK st
          have ngx : Blk w15 (p19) 28 #[.bool oux_1, .slice oux_2 oux_3 oux_4, .bool oux_5, .slice oux_6 oux_7 oux_8] := Blk.stepsK st
          have ngy : Blk w15 (p20) 28 #[.bool ouy_1, .slice ouy_2 ouy_3 ouy_4, .bool ouy_5, .slice ouy_6 ouy_7 ouy_8] := Blk.stepsK st
          have nh1 : Blk w15 (w11.heap.size) 28 #[.bool u4_1, .slice u4_2 u4_3 u4_4, .bool u4_5, .slice u4_6 u4_7 u4_8] := Blk.stepsK st
          have nh2 : Blk w15 (w12.heap.size) 28 #[.bool u2_1, .slice u2_2 u2_3 u2_4, .bool u2_5, .slice u2_6 u2_7 u2_8] := Blk.stepsK st
          have nh3 := oh3.stp st
          clear cfy0 cfy1 cfy2 cfy3 lfy cgx0 cgx1 cgx2 cgx3 lgx ch10 ch11 ch12 ch13 fh1 lh1
          replace B := Bn
          replace oq := nq
          clear nq
          replace opa := npa
          clear npa
          replace opb := npb
          clear npb
          replace opc := npc
          clear npc
          replace ofx := nfx
          clear nfx
          replace ofy := nfy
          clear nfy
          replace ogx := ngx
          clear ngx
          replace ogy := ngy
          clear ngy
          replace oh1 := nh1
          clear nh1
          replace oh2 := nh2
          clear nh2
          replace oh3 := nh3
          clear nh3
          replace Fq0 := Hid.mk_ (Fq0.out.keeps kp)
          replace Fq1 := Hid.mk_ (Fq1.out.keeps kp)
          replace Fq2 := Hid.mk_ (Fq2.out.keeps kp)
          replace Fq3 := Hid.mk_ (Fq3.out.keeps kp)
          replace Foux_ := Hid.mk_ (Foux_.out.keeps kp)
          replace Fouy_ := Hid.mk_ (Fouy_.out.keeps kp)
          replace Fu1_ := Hid.mk_ (Fu1_.out.keeps kp)
          replace Fu2_ := Hid.mk_ (Fu2_.out.keeps kp)
          replace Fu3_ := Hid.mk_ (Fu3_.out.keeps kp)
          replace Fu4_ := Hid.mk_ (Fu4_.out.keeps kp)
          clear kp
          clear st
          have ch10 := oh1.q0
          have ch11 := oh1.q1
          have ch12 := oh1.q2
          have ch13 := oh1.q3
          have lh1 := oh1.lt
          have ch20 := oh2.q0
          have ch21 := oh2.q1
          have ch22 := oh2.q2
          have ch23 := oh2.q3
          have fh2 := oh2.fr
          have lh2 := oh2.lt
          obtain ⟨u5_1, u5_2, u5_3, u5_4, u5_5, u5_6, u5_7, u5_8, rfl⟩ := hvu5_.shape
          have Fu5_ := Hid.mk_ hvu5_
          clear hvu5_
          (try dsimp only); repeat' (first | go_values | go_skip | go_guarded | go_step | go_upon)
          refine (fAddQ _ (Fu4_.out.keeps keepsB) (Fu5_.out.keeps keepsB) (sz0.mul (sz_pt buy)) (sz1.mul (sz_pt bux)) (by omega)).mono ?_
          rintro e w16 ⟨vu6_, rfl, hvu6_, hb16⟩
          have st : Steps _ w16 := hb16
          have Bn : Below w.heap.size w w16 := belowA st
          have kp : Keeps w15 w16 := Keeps.then_ keepsB st
          replace kk := kk.trans kp
          have nq : Blk w16 (w3.heap.size) 31 CA := Blk.stepsK st
          have npa := opa.stp st
          have npb := opb.stp st
          have npc := opc.stp st
          have nfx := ofx.stp st
          have nfy := ofy.stp st
          have ngx := ogx.stp st
          have ngy := ogy.stp st
          have nh1 := oh1.stp st
          have nh2 : Blk w16 (w12.heap.size) 28 #[.bool u5_1, .slice u5_2 u5_3 u5_4, .bool u5_5, .slice u5_6 u5_7 u5_8] := Blk.stepsK st
          have nh3 := oh3.stp st
          clear ch10 ch11 ch12 ch13 lh1 ch20 ch21 ch22 ch23 fh2 lh2
          replace B := Bn
          replace oq := nq
          clear nq
          replace opa := npa
          clear npa
          replace opb := npb
          clear npb
          replace opc := npc
          clear npc
          replace ofx := nfx
          clear nfx
          replace ofy := nfy
          clear nfy
          replace ogx := ngx
          clear ngx
          replace ogy := ngy
          clear ngy
          replace oh1 := nh1
          clear nh1
          replace oh2 := nh2
          clear nh2
          replace oh3 := nh3
          clear nh3
          replace Fq0 := Hid.mk_ (Fq0.out.keeps kp)
          replace Fq1 := Hid.mk_ (Fq1.out.keeps kp)
          replace Fq2 := Hid.mk_ (Fq2.out.keeps kp)
          replace Fq3 := Hid.mk_ (Fq3.out.keeps kp)
          replace Foux_ := Hid.mk_ (Foux_.out.keeps kp)
          replace Fouy_ := Hid.mk_ (Fouy_.out.keeps kp)
          replace Fu1_ := Hid.mk_ (Fu1_.out.keeps kp)
          replace Fu2_ := Hid.mk_ (Fu2_.out.keeps kp)
          replace Fu3_ := Hid.mk_ (Fu3_.out.keeps kp)
          replace Fu4_ := Hid.mk_ (Fu4_.out.keeps kp)
          replace Fu5_ := Hid.mk_ (Fu5_.out.keeps kp)
          clear kp
          clear st
          have cpa0 := opa.q0
          have cpa1 := opa.q1
          have lpa := opa.lt
          have cpc0 := opc.q0
          have cpc1 := opc.q1
          have lpc := opc.lt
          have ch30 := oh3.q0
          have ch31 := oh3.q1
          have ch32 := oh3.q2
          have ch33 := oh3.q3
          have lh3 := oh3.lt
          obtain ⟨u6_1, u6_2, u6_3, u6_4, u6_5, u6_6, u6_7, u6_8, rfl⟩ := hvu6_.shape
          have Fu6_ := Hid.mk_ hvu6_
          clear hvu6_
          have zh3_16 : w13.heap.size < w16.heap.size := oh3.lt
          have zpa_16 : p13 < w16.heap.size := opa.lt
          have zpb_16 : p14 < w16.heap.size := opb.lt
          have zfx_16 : p17 < w16.heap.size := ofx.lt
          have zfy_16 : p18 < w16.heap.size := ofy.lt
          have zgx_16 : p19 < w16.heap.size := ogx.lt
          have zgy_16 : p20 < w16.heap.size := ogy.lt
          have zz16 := B.size
          have Gh3 := Fu3_.out
          rw [HX2.out] at Gh3
          have Kh3 := Hid.mk_ (Gh3.keeps keepsB)
          clear Gh3
          have Gh4 := Fu6_.out
          rw [HY2.out] at Gh4
          have Kh4 := Hid.mk_ (Gh4.keeps keepsB)
          clear Gh4
          (try dsimp only); repeat' (first | go_values | go_skip | go_guarded | go_step | go_upon)
          refine Reg.wp_chain_n (fun N0 D v W => Below w.heap.size w W ∧ Keeps w16 W ∧ N0 ≤ W.heap.size ∧ Blk W (w3.heap.size) 31 CA ∧ Blk W (p13) 43 #[.int .i64 x0, .int .i64 y0] ∧ Blk W (p14) 43 #[.int .i64 x1, .int .i64 y1] ∧ Blk W (wr.heap.size) 43 #[.int .i64 x2, .int .i64 y2] ∧ Blk W (p17) 28 #[.bool t01, .slice t02 t03 t04, .bool t05, .slice t06 t07 t08] ∧ Blk W (p18) 28 #[.bool t11, .slice t12 t13 t14, .bool t15, .slice t16 t17 t18] ∧ Blk W (p19) 28 #[.bool oux_1, .slice oux_2 oux_3 oux_4, .bool oux_5, .slice oux_6 oux_7 oux_8] ∧ Blk W (p20) 28 #[.bool ouy_1, .slice ouy_2 ouy_3 ouy_4, .bool ouy_5, .slice ouy_6 ouy_7 ouy_8] ∧ Blk W (w11.heap.size) 28 #[.bool u4_1, .slice u4_2 u4_3 u4_4, .bool u4_5, .slice u4_6 u4_7 u4_8] ∧ Blk W (w12.heap.size) 28 #[.bool u5_1, .slice u5_2 u5_3 u5_4, .bool u5_5, .slice u5_6 u5_7 u5_8] ∧ Blk W (w13.heap.size) 28 #[.bool u3_1, .slice u3_2 u3_3 u3_4, .bool u3_5, .slice u3_6 u3_7 u3_8] ∧ Blk W (w16.heap.size) 28 #[.bool u6_1, .slice u6_2 u6_3 u6_4, .bool u6_5, .slice u6_6 u6_7 u6_8])
            (Reg.inl [13, 14, 24, 25]) (Reg.gv [(13, IsFr), (14, fun z_ => z_ = .bool true), (24, IsFr), (25, fun z_ => z_ = .bool true)]) (gw [(13, GFr ((vx2 : Rat))), (24, GFr ((vy2 : Rat)))]) (fun _ => Keeps) (fun _ _ => False) (Reg.pl [(14, [(13, some 217)]), (25, [(24, some 228)]), (28, [(13, some 217), (14, some 218), (24, some 228), (25, some 229)])]) (Reg.pl [])
            (by kernel_rfl) (by kernel_rfl) (by kernel_rfl) (Reg.gv_some _ (by intro p hp; simp only [List.mem_cons, List.not_mem_nil, or_false] at hp; rcases hp with rfl | rfl | rfl | rfl <;> first | exact ⟨_, rfl⟩ | exact ⟨_, 0, rfl⟩ | exact ⟨_, none, 0, 0, rfl⟩ | exact ⟨_, false, none, 0, 0, rfl⟩ | exact ⟨_, false, none, 0, 0, false, none, 0, 0, rfl⟩)) (fun N0 hN0 => ⟨fun v => ?_, fun D v v' W hv hj => ?_, fun D v k j W W' x _ _ _ _ hk hg => gw_keeps _ (by intro p hp; simp only [List.mem_cons, List.not_mem_nil, or_false] at hp; rcases hp with rfl | rfl <;> first | exact GFr.keeps | exact GFrE.keeps | exact GNu.keeps | exact GNuE.keeps | exact GLi.keeps) hk hg, fun _ _ _ _ h => h.elim, fun ops' Q' hops hQ => ?_⟩)
          · exact ⟨belowB, keepsB, Nat.le_of_eq hN0.out, ownK, ownK, ownK, ownK, ownK, ownK, ownK, ownK, ownK, ownK, ownK, ownK⟩
          · obtain ⟨j0, jk, jn, b_q, b_pa, b_pb, b_pc, b_fx, b_fy, b_gx, b_gy, b_h1, b_h2, b_h3, b_h4⟩ := hj
            exact ⟨j0, jk, jn, b_q, b_pa, b_pb, b_pc, b_fx, b_fy, b_gx, b_gy, b_h1, b_h2, b_h3, b_h4⟩
          have i_q : w3.heap.size < N0 := by have e := hN0.out; (try simp only [World.size_alloc, World.size_setCell, World.size_drew, World.heap_drewN] at e); first | omega | (have h := oq.lt; omega)
          have i_pa : p13 < N0 := by have e := hN0.out; (try simp only [World.size_alloc, World.size_setCell, World.size_drew, World.heap_drewN] at e); first | omega | (have h := opa.lt; omega)
          have i_pb : p14 < N0 := by have e := hN0.out; (try simp only [World.size_alloc, World.size_setCell, World.size_drew, World.heap_drewN] at e); first | omega | (have h := opb.lt; omega)
          have i_pc : wr.heap.size < N0 := by have e := hN0.out; (try simp only [World.size_alloc, World.size_setCell, World.size_drew, World.heap_drewN] at e); first | omega | (have h := opc.lt; omega)
          have i_fx : p17 < N0 := by have e := hN0.out; (try simp only [World.size_alloc, World.size_setCell, World.size_drew, World.heap_drewN] at e); first | omega | (have h := ofx.lt; omega)
          have i_fy : p18 < N0 := by have e := hN0.out; (try simp only [World.size_alloc, World.size_setCell, World.size_drew, World.heap_drewN] at e); first | omega | (have h := ofy.lt; omega)
          have i_gx : p19 < N0 := by have e := hN0.out; (try simp only [World.size_alloc, World.size_setCell, World.size_drew, World.heap_drewN] at e); first | omega | (have h := ogx.lt; omega)
          have i_gy : p20 < N0 := by have e := hN0.out; (try simp only [World.size_alloc, World.size_setCell, World.size_drew, World.heap_drewN] at e); first | omega | (have h := ogy.lt; omega)
          have i_h1 : w11.heap.size < N0 := by have e := hN0.out; (try simp only [World.size_alloc, World.size_setCell, World.size_drew, World.heap_drewN] at e); first | omega | (have h := oh1.lt; omega)
          have i_h2 : w12.heap.size < N0 := by have e := hN0.out; (try simp only [World.size_alloc, World.size_setCell, World.size_drew, World.heap_drewN] at e); first | omega | (have h := oh2.lt; omega)
          have i_h3 : w13.heap.size < N0 := by have e := hN0.out; (try simp only [World.size_alloc, World.size_setCell, World.size_drew, World.heap_drewN] at e); first | omega | (have h := oh3.lt; omega)
          have i_h4 : w16.heap.size < N0 := by have e := hN0.out; (try simp only [World.size_alloc, World.size_setCell, World.size_drew, World.heap_drewN] at e); first | omega | (have h := oh4.lt; omega)
          have iw : w.heap.size ≤ N0 := by have e := hN0.out; (try simp only [World.size_alloc, World.size_setCell, World.size_drew, World.heap_drewN] at e); first | omega | (have h := B.size; omega)
          clear cpa0 cpa1 lpa cpc0 cpc1 lpc ch30 ch31 ch32 ch33 lh3
          clear hN0
          apply Reg.RC_pure (hc := rfl) (hst := rfl) (hw := rfl) (t := 204) (hd := rfl) (ht := Nat.le_of_ble_eq_true rfl)
          · intro D v' W' hc hj hf K hK
            go_step
            exact hK.out
          · rfl
          apply Reg.RC_pure (hc := rfl) (hst := rfl) (hw := rfl) (t := 205) (hd := rfl) (ht := Nat.le_of_ble_eq_true rfl)
          · intro D v' W' hc hj hf K hK
            go_step
            exact hK.out
          · rfl
          apply Reg.RC_pure (hc := rfl) (hst := rfl) (hw := rfl) (t := 206) (hd := rfl) (ht := Nat.le_of_ble_eq_true rfl)
          · intro D v' W' hc hj hf K hK
            go_step
            exact hK.out
          · rfl
          apply Reg.RC_pure (hc := rfl) (hst := rfl) (hw := by rw [hops]; rfl) (t := 207) (hd := rfl) (ht := Nat.le_of_ble_eq_true rfl)
          · intro D v' W' hc hj hf K hK
            go_step
            exact hK.out
          · rfl
          apply Reg.RC_pure (hc := rfl) (hst := rfl) (hw := by rw [hops]; rfl) (t := 208) (hd := rfl) (ht := Nat.le_of_ble_eq_true rfl)
          · intro D v' W' hc hj hf K hK
            go_step
            exact hK.out
          · rfl
          apply Reg.RC_pure (hc := rfl) (hst := rfl) (hw := rfl) (t := 209) (hd := rfl) (ht := Nat.le_of_ble_eq_true rfl)
          · intro D v' W' hc hj hf K hK
            go_step
            exact hK.out
          · rfl
          apply Reg.RC_pure (hc := rfl) (hst := rfl) (hw := rfl) (t := 210) (hd := rfl) (ht := Nat.le_of_ble_eq_true rfl)
          · intro D v' W' hc hj hf K hK
            go_step
            exact hK.out
          · rfl
          apply Reg.RC_pure (hc := rfl) (hst := rfl) (hw := by rw [hops]; rfl) (t := 211) (hd := rfl) (ht := Nat.le_of_ble_eq_true rfl)
          · intro D v' W' hc hj hf K hK
            obtain ⟨j0, jk, jn, b_q, b_pa, b_pb, b_pc, b_fx, b_fy, b_gx, b_gy, b_h1, b_h2, b_h3, b_h4⟩ := hj
            have c0 : W'.cell? ⟨w13.heap.size, 0, none⟩ = some (.bool u3_1) := b_h3.c 0 rfl
            have c1 : W'.cell? ⟨w13.heap.size, 1, none⟩ = some (.slice u3_2 u3_3 u3_4) := b_h3.c 1 rfl
            have c2 : W'.cell? ⟨w13.heap.size, 2, none⟩ = some (.bool u3_5) := b_h3.c 2 rfl
            have c3 : W'.cell? ⟨w13.heap.size, 3, none⟩ = some (.slice u3_6 u3_7 u3_8) := b_h3.c 3 rfl
            go_step
            exact hK.out
          · rfl
          apply Reg.RC_pure (hc := rfl) (hst := rfl) (hw := by rw [hops]; rfl) (t := 212) (hd := rfl) (ht := Nat.le_of_ble_eq_true rfl)
          · intro D v' W' hc hj hf K hK
            go_step
            exact hK.out
          · rfl
          apply Reg.RC_pure (hc := rfl) (hst := rfl) (hw := by rw [hops]; rfl) (t := 213) (hd := rfl) (ht := Nat.le_of_ble_eq_true rfl)
          · intro D v' W' hc hj hf K hK
            obtain ⟨j0, jk, jn, b_q, b_pa, b_pb, b_pc, b_fx, b_fy, b_gx, b_gy, b_h1, b_h2, b_h3, b_h4⟩ := hj
            have c0 : W'.cell? ⟨wr.heap.size, 0, none⟩ = some (.int .i64 x2) := b_pc.c 0 rfl
            have c1 : W'.cell? ⟨wr.heap.size, 1, none⟩ = some (.int .i64 y2) := b_pc.c 1 rfl
            go_step
            exact hK.out
          · rfl
          apply Reg.RC_pure (hc := rfl) (hst := rfl) (hw := by rw [hops]; rfl) (t := 214) (hd := rfl) (ht := Nat.le_of_ble_eq_true rfl)
          · intro D v' W' hc hj hf K hK
            go_step
            exact hK.out
          · rfl
          apply Reg.RC_pure (hc := rfl) (hst := rfl) (hw := by rw [hops]; rfl) (t := 215) (hd := rfl) (ht := Nat.le_of_ble_eq_true rfl)
          · intro D v' W' hc hj hf K hK
            obtain ⟨j0, jk, jn, b_q, b_pa, b_pb, b_pc, b_fx, b_fy, b_gx, b_gy, b_h1, b_h2, b_h3, b_h4⟩ := hj
            have c0 : W'.cell? ⟨p13, 0, none⟩ = some (.int .i64 x0) := b_pa.c 0 rfl
            have c1 : W'.cell? ⟨p13, 1, none⟩ = some (.int .i64 y0) := b_pa.c 1 rfl
            go_step
            exact hK.out
          · rfl
          apply Reg.RC_pure (hc := rfl) (hst := rfl) (hw := by rw [hops]; rfl) (t := 216) (hd := rfl) (ht := Nat.le_of_ble_eq_true rfl)
          · intro D v' W' hc hj hf K hK
            go_step
            rw [wvx2]
            exact hK.out
          · rfl
          refine Reg.RC_call rfl (by intro t ht; cases ht; exact Nat.le_of_ble_eq_true rfl) (by rw [hops]; rfl) (fun D v' W' hc hj hf K hK => ?_) ?_
          · obtain ⟨j0, jk, jn, b_q, b_pa, b_pb, b_pc, b_fx, b_fy, b_gx, b_gy, b_h1, b_h2, b_h3, b_h4⟩ := hj
            clear hf
            go_step
            refine (lofI vx2 W' bvx2).mono ?_
            rintro e W2 ⟨u, rfl, hu, hs⟩
            obtain ⟨ovx2_1, ovx2_2, ovx2_3, ovx2_4, ovx2_5, ovx2_6, ovx2_7, ovx2_8, rfl⟩ := hu.shape
            exact hK.out _ W2 (Keeps.steps hs) ⟨below_steps j0 (Nat.le_refl _) hs, jk.then_ hs, Nat.le_trans jn hs.size, b_q.steps hs, b_pa.steps hs, b_pb.steps hs, b_pc.steps hs, b_fx.steps hs, b_fy.steps hs, b_gx.steps hs, b_gy.steps hs, b_h1.steps hs, b_h2.steps hs, b_h3.steps hs, b_h4.steps hs⟩ hu ⟨_, _, _, _, _, _, _, _, rfl⟩
          rintro _ ⟨ovx2_1, ovx2_2, ovx2_3, ovx2_4, ovx2_5, ovx2_6, ovx2_7, ovx2_8, rfl⟩
          refine Reg.RC_at (b := ⟨#[_,_,_,_,_,_,_,_,_,_,_,_,_,_,_,_,_,_,_,_,_,_,_,_,_,_,_,_,_,_,_,_,_,_,_,_,_,_,_,_,_,_,_,_,_,_,_,_,_,_,_,_,_,_,_,_,_,_,_,_,_,_,_,_,_,_,_,_,_,_,_,_,_,_,_,_,_,_,_,_,_,_,_,_,_,_,_,_,_,_,_,_,_,_,_,_,_,_,_,_,_,_,_,_,_,_,_,_,_,_,_,_,_,_,_,_,_,_,_,_,_,_,_,_,_,_,_,_,_,_,_,_,_,_,_,_,_,_,_,_,_,_,_,_,_,_,_,_,_,_,_,_,_,_,_,_,_,_,_,_,_,_,_,_,_,_,_,_,_,_,_,_,_,_,_,_,_,_,_,_,_,_,_,_,_,_,_,_,_,_,_,_,_,_,_,_,_,_,_,_,_,_,_,_,_,_,_,_,_,_,_,_,_,_,_,_,_,_,_,_,_,_,_,_,_,_,_,_,_,_,_,_,_], _⟩) rfl ?_
          refine Reg.RC_call rfl (by intro t ht; cases ht; exact Nat.le_of_ble_eq_true rfl) (by rw [hops]; rfl) (fun D v' W' hc hj hf K hK => ?_) ?_
          · obtain ⟨j0, jk, jn, b_q, b_pa, b_pb, b_pc, b_fx, b_fy, b_gx, b_gy, b_h1, b_h2, b_h3, b_h4⟩ := hj
            have g13 : GFr ((vx2 : Rat)) _ W' := (hf (13, some 217) (.head _) rfl).2.2
            have g13 : FR W' _ ((vx2 : Rat)) := g13
            clear hf
            go_step
            refine (rsameR W' (Kh3.out.keeps jk) g13).mono ?_
            rintro e W2 ⟨rfl, hs⟩
            exact hK.out _ W2 (Keeps.steps hs) ⟨below_steps j0 (Nat.le_refl _) hs, jk.then_ hs, Nat.le_trans jn hs.size, b_q.steps hs, b_pa.steps hs, b_pb.steps hs, b_pc.steps hs, b_fx.steps hs, b_fy.steps hs, b_gx.steps hs, b_gy.steps hs, b_h1.steps hs, b_h2.steps hs, b_h3.steps hs, b_h4.steps hs⟩ trivial rfl
          rintro _ rfl
          refine Reg.RC_at (b := ⟨#[_,_,_,_,_,_,_,_,_,_,_,_,_,_,_,_,_,_,_,_,_,_,_,_,_,_,_,_,_,_,_,_,_,_,_,_,_,_,_,_,_,_,_,_,_,_,_,_,_,_,_,_,_,_,_,_,_,_,_,_,_,_,_,_,_,_,_,_,_,_,_,_,_,_,_,_,_,_,_,_,_,_,_,_,_,_,_,_,_,_,_,_,_,_,_,_,_,_,_,_,_,_,_,_,_,_,_,_,_,_,_,_,_,_,_,_,_,_,_,_,_,_,_,_,_,_,_,_,_,_,_,_,_,_,_,_,_,_,_,_,_,_,_,_,_,_,_,_,_,_,_,_,_,_,_,_,_,_,_,_,_,_,_,_,_,_,_,_,_,_,_,_,_,_,_,_,_,_,_,_,_,_,_,_,_,_,_,_,_,_,_,_,_,_,_,_,_,_,_,_,_,_,_,_,_,_,_,_,_,_,_,_,_,_,_,_,_,_,_,_,_,_,_,_,_,_,_,_,_,_,_,_,_], _⟩) rfl ?_
          apply Reg.RC_pure (hc := rfl) (hst := rfl) (hw := by rw [hops]; rfl) (t := 219) (hd := rfl) (ht := Nat.le_of_ble_eq_true rfl)
          · intro D v' W' hc hj hf K hK
            go_step
            exact hK.out
          · rfl
          apply Reg.RC_pure (hc := rfl) (hst := rfl) (hw := rfl) (t := 220) (hd := rfl) (ht := Nat.le_of_ble_eq_true rfl)
          · intro D v' W' hc hj hf K hK
            go_step
            exact hK.out
          · rfl
          apply Reg.RC_pure (hc := rfl) (hst := rfl) (hw := rfl) (t := 221) (hd := rfl) (ht := Nat.le_of_ble_eq_true rfl)
          · intro D v' W' hc hj hf K hK
            go_step
            exact hK.out
          · rfl
          apply Reg.RC_pure (hc := rfl) (hst := rfl) (hw := by rw [hops]; rfl) (t := 222) (hd := rfl) (ht := Nat.le_of_ble_eq_true rfl)
          · intro D v' W' hc hj hf K hK
            obtain ⟨j0, jk, jn, b_q, b_pa, b_pb, b_pc, b_fx, b_fy, b_gx, b_gy, b_h1, b_h2, b_h3, b_h4⟩ := hj
            have c0 : W'.cell? ⟨w16.heap.size, 0, none⟩ = some (.bool u6_1) := b_h4.c 0 rfl
            have c1 : W'.cell? ⟨w16.heap.size, 1, none⟩ = some (.slice u6_2 u6_3 u6_4) := b_h4.c 1 rfl
            have c2 : W'.cell? ⟨w16.heap.size, 2, none⟩ = some (.bool u6_5) := b_h4.c 2 rfl
            have c3 : W'.cell? ⟨w16.heap.size, 3, none⟩ = some (.slice u6_6 u6_7 u6_8) := b_h4.c 3 rfl
            go_step
            exact hK.out
          · rfl
          apply Reg.RC_pure (hc := rfl) (hst := rfl) (hw := by rw [hops]; rfl) (t := 223) (hd := rfl) (ht := Nat.le_of_ble_eq_true rfl)
          · intro D v' W' hc hj hf K hK
            go_step
            exact hK.out
          · rfl
          apply Reg.RC_pure (hc := rfl) (hst := rfl) (hw := by rw [hops]; rfl) (t := 224) (hd := rfl) (ht := Nat.le_of_ble_eq_true rfl)
          · intro D v' W' hc hj hf K hK
            obtain ⟨j0, jk, jn, b_q, b_pa, b_pb, b_pc, b_fx, b_fy, b_gx, b_gy, b_h1, b_h2, b_h3, b_h4⟩ := hj
            have c0 : W'.cell? ⟨wr.heap.size, 0, none⟩ = some (.int .i64 x2) := b_pc.c 0 rfl
            have c1 : W'.cell? ⟨wr.heap.size, 1, none⟩ = some (.int .i64 y2) := b_pc.c 1 rfl
            go_step
            exact hK.out
          · rfl
          apply Reg.RC_pure (hc := rfl) (hst := rfl) (hw := by rw [hops]; rfl) (t := 225) (hd := rfl) (ht := Nat.le_of_ble_eq_true rfl)
          · intro D v' W' hc hj hf K hK
            go_step
            exact hK.out
          · rfl
          apply Reg.RC_pure (hc := rfl) (hst := rfl) (hw := by rw [hops]; rfl) (t := 226) (hd := rfl) (ht := Nat.le_of_ble_eq_true rfl)
          · intro D v' W' hc hj hf K hK
            obtain ⟨j0, jk, jn, b_q, b_pa, b_pb, b_pc, b_fx, b_fy, b_gx, b_gy, b_h1, b_h2, b_h3, b_h4⟩ := hj
            have c0 : W'.cell? ⟨p13, 0, none⟩ = some (.int .i64 x0) := b_pa.c 0 rfl
            have c1 : W'.cell? ⟨p13, 1, none⟩ = some (.int .i64 y0) := b_pa.c 1 rfl
            go_step
            exact hK.out
          · rfl
          apply Reg.RC_pure (hc := rfl) (hst := rfl) (hw := by rw [hops]; rfl) (t := 227) (hd := rfl) (ht := Nat.le_of_ble_eq_true rfl)
          · intro D v' W' hc hj hf K hK
            go_step
            rw [wvy2]
            exact hK.out
          · rfl
          refine Reg.RC_call rfl (by intro t ht; cases ht; exact Nat.le_of_ble_eq_true rfl) (by rw [hops]; rfl) (fun D v' W' hc hj hf K hK => ?_) ?_
          · obtain ⟨j0, jk, jn, b_q, b_pa, b_pb, b_pc, b_fx, b_fy, b_gx, b_gy, b_h1, b_h2, b_h3, b_h4⟩ := hj
            clear hf
            go_step
            refine (lofI vy2 W' bvy2).mono ?_
            rintro e W2 ⟨u, rfl, hu, hs⟩
            obtain ⟨ovy2_1, ovy2_2, ovy2_3, ovy2_4, ovy2_5, ovy2_6, ovy2_7, ovy2_8, rfl⟩ := hu.shape
            exact hK.out _ W2 (Keeps.steps hs) ⟨below_steps j0 (Nat.le_refl _) hs, jk.then_ hs, Nat.le_trans jn hs.size, b_q.steps hs, b_pa.steps hs, b_pb.steps hs, b_pc.steps hs, b_fx.steps hs, b_fy.steps hs, b_gx.steps hs, b_gy.steps hs, b_h1.steps hs, b_h2.steps hs, b_h3.steps hs, b_h4.steps hs⟩ hu ⟨_, _, _, _, _, _, _, _, rfl⟩
          rintro _ ⟨ovy2_1, ovy2_2, ovy2_3, ovy2_4, ovy2_5, ovy2_6, ovy2_7, ovy2_8, rfl⟩
          refine Reg.RC_at (b := ⟨#[_,_,_,_,_,_,_,_,_,_,_,_,_,_,_,_,_,_,_,_,_,_,_,_,_,_,_,_,_,_,_,_,_,_,_,_,_,_,_,_,_,_,_,_,_,_,_,_,_,_,_,_,_,_,_,_,_,_,_,_,_,_,_,_,_,_,_,_,_,_,_,_,_,_,_,_,_,_,_,_,_,_,_,_,_,_,_,_,_,_,_,_,_,_,_,_,_,_,_,_,_,_,_,_,_,_,_,_,_,_,_,_,_,_,_,_,_,_,_,_,_,_,_,_,_,_,_,_,_,_,_,_,_,_,_,_,_,_,_,_,_,_,_,_,_,_,_,_,_,_,_,_,_,_,_,_,_,_,_,_,_,_,_,_,_,_,_,_,_,_,_,_,_,_,_,_,_,_,_,_,_,_,_,_,_,_,_,_,_,_,_,_,_,_,_,_,_,_,_,_,_,_,_,_,_,_,_,_,_,_,_,_,_,_,_,_,_,_,_,_,_,_,_,_,_,_,_,_,_,_,_,_,_], _⟩) rfl ?_
          refine Reg.RC_call rfl (by intro t ht; cases ht; exact Nat.le_of_ble_eq_true rfl) (by rw [hops]; rfl) (fun D v' W' hc hj hf K hK => ?_) ?_
          · obtain ⟨j0, jk, jn, b_q, b_pa, b_pb, b_pc, b_fx, b_fy, b_gx, b_gy, b_h1, b_h2, b_h3, b_h4⟩ := hj
            have g24 : GFr ((vy2 : Rat)) _ W' := (hf (24, some 228) (.head _) rfl).2.2
            have g24 : FR W' _ ((vy2 : Rat)) := g24
            clear hf
            go_step
            refine (rsameR W' (Kh4.out.keeps jk) g24).mono ?_
            rintro e W2 ⟨rfl, hs⟩
            exact hK.out _ W2 (Keeps.steps hs) ⟨below_steps j0 (Nat.le_refl _) hs, jk.then_ hs, Nat.le_trans jn hs.size, b_q.steps hs, b_pa.steps hs, b_pb.steps hs, b_pc.steps hs, b_fx.steps hs, b_fy.steps hs, b_gx.steps hs, b_gy.steps hs, b_h1.steps hs, b_h2.steps hs, b_h3.steps hs, b_h4.steps hs⟩ trivial rfl
          rintro _ rfl
          refine Reg.RC_at (b := ⟨#[_,_,_,_,_,_,_,_,_,_,_,_,_,_,_,_,_,_,_,_,_,_,_,_,_,_,_,_,_,_,_,_,_,_,_,_,_,_,_,_,_,_,_,_,_,_,_,_,_,_,_,_,_,_,_,_,_,_,_,_,_,_,_,_,_,_,_,_,_,_,_,_,_,_,_,_,_,_,_,_,_,_,_,_,_,_,_,_,_,_,_,_,_,_,_,_,_,_,_,_,_,_,_,_,_,_,_,_,_,_,_,_,_,_,_,_,_,_,_,_,_,_,_,_,_,_,_,_,_,_,_,_,_,_,_,_,_,_,_,_,_,_,_,_,_,_,_,_,_,_,_,_,_,_,_,_,_,_,_,_,_,_,_,_,_,_,_,_,_,_,_,_,_,_,_,_,_,_,_,_,_,_,_,_,_,_,_,_,_,_,_,_,_,_,_,_,_,_,_,_,_,_,_,_,_,_,_,_,_,_,_,_,_,_,_,_,_,_,_,_,_,_,_,_,_,_,_,_,_,_,_,_,_], _⟩) rfl ?_
          apply Reg.RC_pure (hc := rfl) (hst := rfl) (hw := by rw [hops]; rfl) (t := 230) (hd := rfl) (ht := Nat.le_of_ble_eq_true rfl)
          · intro D v' W' hc hj hf K hK
            go_step
            exact hK.out
          · rfl
          apply Reg.RC_pure (hc := rfl) (hst := rfl) (hw := rfl) (t := 231) (hd := rfl) (ht := Nat.le_of_ble_eq_true rfl)
          · intro D v' W' hc hj hf K hK
            go_step
            exact hK.out
          · rfl
          refine Reg.RC_end (fun Dn v' w17 hd hj hf => ?_)
          obtain ⟨j0, jk, jn, b_q, b_pa, b_pb, b_pc, b_fx, b_fy, b_gx, b_gy, b_h1, b_h2, b_h3, b_h4⟩ := hj
          have B := j0
          have oq := b_q
          clear b_q
          have opa := b_pa
          clear b_pa
          have opb := b_pb
          clear b_pb
          have opc := b_pc
          clear b_pc
          have ofx := b_fx
          clear b_fx
          have ofy := b_fy
          clear b_fy
          have ogx := b_gx
          clear b_gx
          have ogy := b_gy
          clear b_gy
          have oh1 := b_h1
          clear b_h1
          have oh2 := b_h2
          clear b_h2
          have oh3 := b_h3
          clear b_h3
          have oh4 := b_h4
          clear b_h4
          have Fovx2_ : Hid (FR w17 (.agg #[.bool ovx2_1, .slice ovx2_2 ovx2_3 ovx2_4, .bool ovx2_5, .slice ovx2_6 ovx2_7 ovx2_8]) ((vx2 : Rat))) := (hf (13, some 217) (.head _) rfl).2.2
          have Fovy2_ : Hid (FR w17 (.agg #[.bool ovy2_1, .slice ovy2_2 ovy2_3 ovy2_4, .bool ovy2_5, .slice ovy2_6 ovy2_7 ovy2_8]) ((vy2 : Rat))) := (hf (24, some 228) (.tail _ (.tail _ (.head _))) rfl).2.2
          replace Fq0 := Hid.mk_ (Fq0.out.keeps jk)
          replace Fq1 := Hid.mk_ (Fq1.out.keeps jk)
          replace Fq2 := Hid.mk_ (Fq2.out.keeps jk)
          replace Fq3 := Hid.mk_ (Fq3.out.keeps jk)
          replace Foux_ := Hid.mk_ (Foux_.out.keeps jk)
          replace Fouy_ := Hid.mk_ (Fouy_.out.keeps jk)
          replace Fu1_ := Hid.mk_ (Fu1_.out.keeps jk)
          replace Fu2_ := Hid.mk_ (Fu2_.out.keeps jk)
          replace Fu3_ := Hid.mk_ (Fu3_.out.keeps jk)
          replace Fu4_ := Hid.mk_ (Fu4_.out.keeps jk)
          replace Fu5_ := Hid.mk_ (Fu5_.out.keeps jk)
          replace Fu6_ := Hid.mk_ (Fu6_.out.keeps jk)
          replace Kh3 := Hid.mk_ (Kh3.out.keeps jk)
          replace Kh4 := Hid.mk_ (Kh4.out.keeps jk)
          replace kk := kk.trans jk
          clear hd hf jk j0
          refine hQ _ _ ?_
          clear hQ hops Q' ops'
          (try dsimp only); repeat' (first | go_values | go_skip | go_guarded | go_step | go_upon)
          go_roundw
          case rel => exact ⟨3, by omega, by omega, by go_num, ownK, ownK, ownK, belowB, kk.trans keepsB⟩
          case measure => simp [intOf]
        · skip
          rw [show ((3 : Nat) : Int) = 3 from rfl]
          have c0_ : World.cell? wr ⟨w3.heap.size, 3, none⟩ = _ := oq.c 3 qk3
          have x0_ : World.cell? wr ⟨b, o + m3 * 2, none⟩ = some (.int .i64 x3) := (B.cell (p := ⟨b, _, none⟩) hb).trans c30
          have x1_ : World.cell? wr ⟨b, o + m3 * 2 + 1, none⟩ = some (.int .i64 y3) := (B.cell (p := ⟨b, _, none⟩) hb).trans c31
          have zpb_8 : p14 < wr.heap.size := opb.lt
          have zpa_8 : p13 < wr.heap.size := opa.lt
          have zz8 := B.size
          (try dsimp only); repeat' (first | go_values | go_skip | go_guarded | go_step | go_upon)
          refine Reg.wp_chain_n (fun N0 D v W => Below w.heap.size w W ∧ Keeps wr W ∧ N0 ≤ W.heap.size ∧ Blk W (w3.heap.size) 31 CA ∧ Blk W (p13) 43 #[.int .i64 x0, .int .i64 y0] ∧ Blk W (p14) 43 #[.int .i64 x1, .int .i64 y1] ∧ Blk W (wr.heap.size) 43 #[.int .i64 x3, .int .i64 y3] ∧ (D 12 = true → ∃ g : Nat, v 12 = .pointer (some ⟨g, 0, none⟩) ∧ N0 ≤ g ∧ g < W.heap.size ∧ (D 14 = false → Blk W g 28 #[.bool false, .slice none 0 0, .bool false, .slice none 0 0]) ∧ (D 14 = true → Blk W g 28 #[.bool t21, .slice t22 t23 t24, .bool t25, .slice t26 t27 t28])) ∧ (D 13 = true → ∃ g : Nat, v 13 = .pointer (some ⟨g, 0, none⟩) ∧ N0 ≤ g ∧ g < W.heap.size ∧ (D 15 = false → Blk W g 28 #[.bool false, .slice none 0 0, .bool false, .slice none 0 0]) ∧ (D 15 = true → Blk W g 28 #[.bool t31, .slice t32 t33 t34, .bool t35, .slice t36 t37 t38])) ∧ (D 12 = true → D 13 = true → v 12 ≠ v 13))
            (Reg.inl [12, 13, 14, 15]) (Reg.gv [(12, IsPtr), (13, IsPtr)]) (gw []) (fun _ => Keeps) (fun _ _ => False) (Reg.pl [(14, [(12, some 17)]), (15, [(13, some 18)]), (16, [(12, some 17), (13, some 18)])]) (Reg.pl [(12, [14]), (13, [15])])
            (by kernel_rfl) (by kernel_rfl) (by kernel_rfl) (Reg.gv_some _ (by intro p hp; simp only [List.mem_cons, List.not_mem_nil, or_false] at hp; rcases hp with rfl | rfl <;> first | exact ⟨_, rfl⟩ | exact ⟨_, 0, rfl⟩ | exact ⟨_, none, 0, 0, rfl⟩ | exact ⟨_, false, none, 0, 0, rfl⟩ | exact ⟨_, false, none, 0, 0, false, none, 0, 0, rfl⟩)) (fun N0 hN0 => ⟨fun v => ?_, fun D v v' W hv hj => ?_, fun D v k j W W' x _ _ _ _ hk hg => gw_keeps _ (by intro p hp; cases hp) hk hg, fun _ _ _ _ h => h.elim, fun ops' Q' hops hQ => ?_⟩)
          · exact ⟨belowB, keepsB, Nat.le_of_eq hN0.out, ownK, ownK, ownK, ownK, (fun h => Bool.noConfusion h), (fun h => Bool.noConfusion h), (fun h => Bool.noConfusion h)⟩
          · obtain ⟨j0, jk, jn, b_q, b_pa, b_pb, b_pc, a_12, a_13, q_12_13⟩ := hj
            exact ⟨j0, jk, jn, b_q, b_pa, b_pb, b_pc, fun h => by obtain ⟨g, e1, e2, e3, e4, e5⟩ := a_12 h; exact ⟨g, (hv 12 h) ▸ e1, e2, e3, e4, e5⟩, fun h => by obtain ⟨g, e1, e2, e3, e4, e5⟩ := a_13 h; exact ⟨g, (hv 13 h) ▸ e1, e2, e3, e4, e5⟩, fun h h' => (hv 12 h) ▸ (hv 13 h') ▸ q_12_13 h h'⟩
          have i_q : w3.heap.size < N0 := by have e := hN0.out; (try simp only [World.size_alloc, World.size_setCell, World.size_drew, World.heap_drewN] at e); first | omega | (have h := oq.lt; omega)
          have i_pa : p13 < N0 := by have e := hN0.out; (try simp only [World.size_alloc, World.size_setCell, World.size_drew, World.heap_drewN] at e); first | omega | (have h := opa.lt; omega)
          have i_pb : p14 < N0 := by have e := hN0.out; (try simp only [World.size_alloc, World.size_setCell, World.size_drew, World.heap_drewN] at e); first | omega | (have h := opb.lt; omega)
          have i_pc : wr.heap.size < N0 := by have e := hN0.out; (try simp only [World.size_alloc, World.size_setCell, World.size_drew, World.heap_drewN] at e); first | omega | (have h := opc.lt; omega)
          have iw : w.heap.size ≤ N0 := by have e := hN0.out; (try simp only [World.size_alloc, World.size_setCell, World.size_drew, World.heap_drewN] at e); first | omega | (have h := B.size; omega)
          clear hN0
          apply Reg.RC_pure (hc := rfl) (hst := rfl) (hw := rfl) (t := 144) (hd := rfl) (ht := Nat.le_of_ble_eq_true rfl)
          · intro D v' W' hc hj hf K hK
            go_step
            exact hK.out
          · rfl
          apply Reg.RC_pure (hc := rfl) (hst := rfl) (hw := rfl) (t := 145) (hd := rfl) (ht := Nat.le_of_ble_eq_true rfl)
          · intro D v' W' hc hj hf K hK
            go_step
            exact hK.out
          · rfl
          apply Reg.RC_pure (hc := rfl) (hst := rfl) (hw := rfl) (t := 146) (hd := rfl) (ht := Nat.le_of_ble_eq_true rfl)
          · intro D v' W' hc hj hf K hK
            go_step
            exact hK.out
          · rfl
          apply Reg.RC_pure (hc := rfl) (hst := rfl) (hw := rfl) (t := 147) (hd := rfl) (ht := Nat.le_of_ble_eq_true rfl)
          · intro D v' W' hc hj hf K hK
            go_step
            exact hK.out
          · rfl
          apply Reg.RC_pure (hc := rfl) (hst := rfl) (hw := rfl) (t := 148) (hd := rfl) (ht := Nat.le_of_ble_eq_true rfl)
          · intro D v' W' hc hj hf K hK
            go_step
            exact hK.out
          · rfl
          apply Reg.RC_pure (hc := rfl) (hst := rfl) (hw := rfl) (t := 149) (hd := rfl) (ht := Nat.le_of_ble_eq_true rfl)
          · intro D v' W' hc hj hf K hK
            obtain ⟨j0, jk, jn, b_q, b_pa, b_pb, b_pc, a_12, a_13, q_12_13⟩ := hj
            have c0 : World.cell? W' ⟨w3.heap.size, 12, none⟩ = _ := b_q.c 12 g20
            have c1 : World.cell? W' ⟨w3.heap.size, 13, none⟩ = _ := b_q.c 13 g21
            have c2 : World.cell? W' ⟨w3.heap.size, 14, none⟩ = _ := b_q.c 14 g22
            have c3 : World.cell? W' ⟨w3.heap.size, 15, none⟩ = _ := b_q.c 15 g23
            go_step
            exact hK.out
          · rfl
          apply Reg.RC_pure (hc := rfl) (hst := rfl) (hw := rfl) (t := 150) (hd := rfl) (ht := Nat.le_of_ble_eq_true rfl)
          · intro D v' W' hc hj hf K hK
            go_step
            exact hK.out
          · rfl
          apply Reg.RC_pure (hc := rfl) (hst := rfl) (hw := rfl) (t := 151) (hd := rfl) (ht := Nat.le_of_ble_eq_true rfl)
          · intro D v' W' hc hj hf K hK
            go_step
            exact hK.out
          · rfl
          apply Reg.RC_pure (hc := rfl) (hst := rfl) (hw := rfl) (t := 152) (hd := rfl) (ht := Nat.le_of_ble_eq_true rfl)
          · intro D v' W' hc hj hf K hK
            go_step
            exact hK.out
          · rfl
          apply Reg.RC_pure (hc := rfl) (hst := rfl) (hw := rfl) (t := 153) (hd := rfl) (ht := Nat.le_of_ble_eq_true rfl)
          · intro D v' W' hc hj hf K hK
            go_step
            exact hK.out
          · rfl
          apply Reg.RC_pure (hc := rfl) (hst := rfl) (hw := rfl) (t := 154) (hd := rfl) (ht := Nat.le_of_ble_eq_true rfl)
          · intro D v' W' hc hj hf K hK
            go_step
            exact hK.out
          · rfl
          apply Reg.RC_pure (hc := rfl) (hst := rfl) (hw := rfl) (t := 155) (hd := rfl) (ht := Nat.le_of_ble_eq_true rfl)
          · intro D v' W' hc hj hf K hK
            obtain ⟨j0, jk, jn, b_q, b_pa, b_pb, b_pc, a_12, a_13, q_12_13⟩ := hj
            have c0 : World.cell? W' ⟨w3.heap.size, 16, none⟩ = _ := b_q.c 16 g30
            have c1 : World.cell? W' ⟨w3.heap.size, 17, none⟩ = _ := b_q.c 17 g31
            have c2 : World.cell? W' ⟨w3.heap.size, 18, none⟩ = _ := b_q.c 18 g32
            have c3 : World.cell? W' ⟨w3.heap.size, 19, none⟩ = _ := b_q.c 19 g33
            go_step
            exact hK.out
          · rfl
          refine Reg.RC_call rfl (by intro t ht; cases ht; exact Nat.le_of_ble_eq_true rfl) rfl (fun D v' W' hc hj hf K hK => ?_) ?_
          · obtain ⟨j0, jk, jn, b_q, b_pa, b_pb, b_pc, a_12, a_13, q_12_13⟩ := hj
            go_step
            have hs : ∀ o : Obj, Steps W' (W'.alloc o) := fun o => (Below.refl _ _).alloc (Nat.le_refl _) o
            exact hK.out _ _ (Keeps.steps (hs _)) ⟨below_steps j0 (Nat.le_refl _) (hs _), jk.then_ (hs _), Nat.le_trans jn (hs _).size, b_q.steps (hs _), b_pa.steps (hs _), b_pb.steps (hs _), b_pc.steps (hs _), fun _ => ⟨W'.heap.size, rfl, jn, by rw [World.size_alloc]; omega, fun _ => Blk.new _ _ _, fun h => Bool.noConfusion ((hc.2 14 (by decide)).symm.trans h)⟩, fun h => by obtain ⟨g, e1, e2, e3, e4, e5⟩ := a_13 h; exact ⟨g, e1, e2, Nat.lt_of_lt_of_le e3 ((hs _)).size, fun h => (e4 h).steps (hs _), fun h => (e5 h).steps (hs _)⟩, fun _ h' => by obtain ⟨g, e1, e2, e3, e4, e5⟩ := a_13 h'; exact fun e => Reg.ptr_ne e3 (e.trans e1)⟩ trivial ⟨_, rfl⟩
          rintro _ ⟨p17, rfl⟩
          refine Reg.RC_at (b := ⟨#[_,_,_,_,_,_,_,_,_,_,_,_,_,_,_,_,_,_,_,_,_,_,_,_,_,_,_,_,_,_,_,_,_,_,_,_,_,_,_,_,_,_,_,_,_,_,_,_,_,_,_,_,_,_,_,_,_,_,_,_,_,_,_,_,_,_,_,_,_,_,_,_,_,_,_,_,_,_,_,_,_,_,_,_,_,_,_,_,_,_,_,_,_,_,_,_,_,_,_,_,_,_,_,_,_,_,_,_,_,_,_,_,_,_,_,_,_,_,_,_,_,_,_,_,_,_,_,_,_,_,_,_,_,_,_,_,_,_,_,_,_,_,_,_,_,_,_,_,_,_,_,_,_,_,_,_,_,_,_,_,_,_,_,_,_,_,_,_,_,_,_,_,_,_,_,_,_,_,_,_,_,_,_,_,_,_,_,_,_,_,_,_,_,_,_,_,_,_,_,_,_,_,_,_,_,_,_,_,_,_,_,_,_,_,_,_,_,_,_,_,_,_,_,_,_,_,_,_,_,_,_,_,_], _⟩) rfl ?_
          refine Reg.RC_call rfl (by intro t ht; cases ht; exact Nat.le_of_ble_eq_true rfl) rfl (fun D v' W' hc hj hf K hK => ?_) ?_
          · obtain ⟨j0, jk, jn, b_q, b_pa, b_pb, b_pc, a_12, a_13, q_12_13⟩ := hj
            go_step
            have hs : ∀ o : Obj, Steps W' (W'.alloc o) := fun o => (Below.refl _ _).alloc (Nat.le_refl _) o
            exact hK.out _ _ (Keeps.steps (hs _)) ⟨below_steps j0 (Nat.le_refl _) (hs _), jk.then_ (hs _), Nat.le_trans jn (hs _).size, b_q.steps (hs _), b_pa.steps (hs _), b_pb.steps (hs _), b_pc.steps (hs _), fun h => by obtain ⟨g, e1, e2, e3, e4, e5⟩ := a_12 h; exact ⟨g, e1, e2, Nat.lt_of_lt_of_le e3 ((hs _)).size, fun h => (e4 h).steps (hs _), fun h => (e5 h).steps (hs _)⟩, fun _ => ⟨W'.heap.size, rfl, jn, by rw [World.size_alloc]; omega, fun _ => Blk.new _ _ _, fun h => Bool.noConfusion ((hc.2 15 (by decide)).symm.trans h)⟩, fun h _ => by obtain ⟨g, e1, e2, e3, e4, e5⟩ := a_12 h; exact fun e => Reg.ptr_ne e3 (e.symm.trans e1)⟩ trivial ⟨_, rfl⟩
          rintro _ ⟨p18, rfl⟩
          refine Reg.RC_at (b := ⟨#[_,_,_,_,_,_,_,_,_,_,_,_,_,_,_,_,_,_,_,_,_,_,_,_,_,_,_,_,_,_,_,_,_,_,_,_,_,_,_,_,_,_,_,_,_,_,_,_,_,_,_,_,_,_,_,_,_,_,_,_,_,_,_,_,_,_,_,_,_,_,_,_,_,_,_,_,_,_,_,_,_,_,_,_,_,_,_,_,_,_,_,_,_,_,_,_,_,_,_,_,_,_,_,_,_,_,_,_,_,_,_,_,_,_,_,_,_,_,_,_,_,_,_,_,_,_,_,_,_,_,_,_,_,_,_,_,_,_,_,_,_,_,_,_,_,_,_,_,_,_,_,_,_,_,_,_,_,_,_,_,_,_,_,_,_,_,_,_,_,_,_,_,_,_,_,_,_,_,_,_,_,_,_,_,_,_,_,_,_,_,_,_,_,_,_,_,_,_,_,_,_,_,_,_,_,_,_,_,_,_,_,_,_,_,_,_,_,_,_,_,_,_,_,_,_,_,_,_,_,_,_,_,_], _⟩) rfl ?_
          refine Reg.RC_call rfl (by intro t ht; cases ht) rfl (fun D v' W' hc hj hf K hK => ?_) (fun _ _ => Reg.RC_at (b := ⟨_, _⟩) rfl ?_)
          · obtain ⟨j0, jk, jn, b_q, b_pa, b_pb, b_pc, a_12, a_13, q_12_13⟩ := hj
            have f := hf (12, some 17) (.head _) rfl
            have e6 : v' 12 = .pointer (some ⟨p17, 0, none⟩) := f.2.1
            obtain ⟨g, e1, e2, e3, e4, e5⟩ := a_12 f.1
            obtain rfl : p17 = g := Reg.ptr_eq (e6.symm.trans e1)
            have hb := e4 hc.1
            clear e4 e5
            have ff := hb.fr
            have cc0 : W'.cell? ⟨p17, 0, none⟩ = some (.bool false) := hb.c 0 rfl
            have cc1 : W'.cell? ⟨p17, 1, none⟩ = some (.slice none 0 0) := hb.c 1 rfl
            have cc2 : W'.cell? ⟨p17, 2, none⟩ = some (.bool false) := hb.c 2 rfl
            have cc3 : W'.cell? ⟨p17, 3, none⟩ = some (.slice none 0 0) := hb.c 3 rfl
            go_step
            exact hK.out undef _ (Keeps.only hb rfl ((Only.refl _ _).set.set.set.set)) ⟨(Below.setCell (p := ⟨p17, 3, none⟩) (Below.setCell (p := ⟨p17, 2, none⟩) (Below.setCell (p := ⟨p17, 1, none⟩) (Below.setCell (p := ⟨p17, 0, none⟩) j0 (by show w.heap.size ≤ p17; omega) _) (by show w.heap.size ≤ p17; omega) _) (by show w.heap.size ≤ p17; omega) _) (by show w.heap.size ≤ p17; omega) _), jk.trans (Keeps.only hb rfl ((Only.refl _ _).set.set.set.set)), by simpa using jn, ((((b_q).far' (show w3.heap.size ≠ p17 by omega)).far' (show w3.heap.size ≠ p17 by omega)).far' (show w3.heap.size ≠ p17 by omega)).far' (show w3.heap.size ≠ p17 by omega), ((((b_pa).far' (show p13 ≠ p17 by omega)).far' (show p13 ≠ p17 by omega)).far' (show p13 ≠ p17 by omega)).far' (show p13 ≠ p17 by omega), ((((b_pb).far' (show p14 ≠ p17 by omega)).far' (show p14 ≠ p17 by omega)).far' (show p14 ≠ p17 by omega)).far' (show p14 ≠ p17 by omega), ((((b_pc).far' (show wr.heap.size ≠ p17 by omega)).far' (show wr.heap.size ≠ p17 by omega)).far' (show wr.heap.size ≠ p17 by omega)).far' (show wr.heap.size ≠ p17 by omega), fun _ => ⟨p17, e1, e2, by simpa using e3, fun h => Bool.noConfusion h, fun _ => (Blk.set2 (cs' := #[.bool t21, .slice t22 t23 t24, .bool t25, .slice t26 t27 t28]) (Blk.set2 (cs' := #[.bool t21, .slice t22 t23 t24, .bool t25, .slice none 0 0]) (Blk.set2 (cs' := #[.bool t21, .slice t22 t23 t24, .bool false, .slice none 0 0]) (Blk.set2 (cs' := #[.bool t21, .slice none 0 0, .bool false, .slice none 0 0]) hb (i := 0) rfl) (i := 1) rfl) (i := 2) rfl) (i := 3) rfl)⟩, fun h => by obtain ⟨g, k1, k2, k3, k4, k5⟩ := a_13 h; have hne : g ≠ p17 := fun e => (q_12_13 f.1 h) (by rw [e6, k1, e]); exact ⟨g, k1, k2, by simpa using k3, fun h => ((((k4 h).far' hne).far' hne).far' hne).far' hne, fun h => ((((k5 h).far' hne).far' hne).far' hne).far' hne⟩, q_12_13⟩ trivial trivial
          refine Reg.RC_call rfl (by intro t ht; cases ht) rfl (fun D v' W' hc hj hf K hK => ?_) (fun _ _ => Reg.RC_at (b := ⟨_, _⟩) rfl ?_)
          · obtain ⟨j0, jk, jn, b_q, b_pa, b_pb, b_pc, a_12, a_13, q_12_13⟩ := hj
            have f := hf (13, some 18) (.head _) rfl
            have e6 : v' 13 = .pointer (some ⟨p18, 0, none⟩) := f.2.1
            obtain ⟨g, e1, e2, e3, e4, e5⟩ := a_13 f.1
            obtain rfl : p18 = g := Reg.ptr_eq (e6.symm.trans e1)
            have hb := e4 hc.1
            clear e4 e5
            have ff := hb.fr
            have cc0 : W'.cell? ⟨p18, 0, none⟩ = some (.bool false) := hb.c 0 rfl
            have cc1 : W'.cell? ⟨p18, 1, none⟩ = some (.slice none 0 0) := hb.c 1 rfl
            have cc2 : W'.cell? ⟨p18, 2, none⟩ = some (.bool false) := hb.c 2 rfl
            have cc3 : W'.cell? ⟨p18, 3, none⟩ = some (.slice none 0 0) := hb.c 3 rfl
            go_step
            exact hK.out undef _ (Keeps.only hb rfl ((Only.refl _ _).set.set.set.set)) ⟨(Below.setCell (p := ⟨p18, 3, none⟩) (Below.setCell (p := ⟨p18, 2, none⟩) (Below.setCell (p := ⟨p18, 1, none⟩) (Below.setCell (p := ⟨p18, 0, none⟩) j0 (by show w.heap.size ≤ p18; omega) _) (by show w.heap.size ≤ p18; omega) _) (by show w.heap.size ≤ p18; omega) _) (by show w.heap.size ≤ p18; omega) _), jk.trans (Keeps.only hb rfl ((Only.refl _ _).set.set.set.set)), by simpa using jn, ((((b_q).far' (show w3.heap.size ≠ p18 by omega)).far' (show w3.heap.size ≠ p18 by omega)).far' (show w3.heap.size ≠ p18 by omega)).far' (show w3.heap.size ≠ p18 by omega), ((((b_pa).far' (show p13 ≠ p18 by omega)).far' (show p13 ≠ p18 by omega)).far' (show p13 ≠ p18 by omega)).far' (show p13 ≠ p18 by omega), ((((b_pb).far' (show p14 ≠ p18 by omega)).far' (show p14 ≠ p18 by omega)).far' (show p14 ≠ p18 by omega)).far' (show p14 ≠ p18 by omega), ((((b_pc).far' (show wr.heap.size ≠ p18 by omega)).far' (show wr.heap.size ≠ p18 by omega)).far' (show wr.heap.size ≠ p18 by omega)).far' (show wr.heap.size ≠ p18 by omega), fun h => by obtain ⟨g, k1, k2, k3, k4, k5⟩ := a_12 h; have hne : g ≠ p18 := fun e => (q_12_13 h f.1) (by rw [e6, k1, e]); exact ⟨g, k1, k2, by simpa using k3, fun h => ((((k4 h).far' hne).far' hne).far' hne).far' hne, fun h => ((((k5 h).far' hne).far' hne).far' hne).far' hne⟩, fun _ => ⟨p18, e1, e2, by simpa using e3, fun h => Bool.noConfusion h, fun _ => (Blk.set2 (cs' := #[.bool t31, .slice t32 t33 t34, .bool t35, .slice t36 t37 t38]) (Blk.set2 (cs' := #[.bool t31, .slice t32 t33 t34, .bool t35, .slice none 0 0]) (Blk.set2 (cs' := #[.bool t31, .slice t32 t33 t34, .bool false, .slice none 0 0]) (Blk.set2 (cs' := #[.bool t31, .slice none 0 0, .bool false, .slice none 0 0]) hb (i := 0) rfl) (i := 1) rfl) (i := 2) rfl) (i := 3) rfl)⟩, q_12_13⟩ trivial trivial
          refine Reg.RC_end (fun Dn v' w9 hd hj hf => ?_)
          obtain ⟨j0, jk, jn, b_q, b_pa, b_pb, b_pc, a_12, a_13, q_12_13⟩ := hj
          have B := j0
          have oq := b_q
          clear b_q
          have opa := b_pa
          clear b_pa
          have opb := b_pb
          clear b_pb
          have opc := b_pc
          clear b_pc
          have f := hf (12, some 17) (.head _) rfl
          have e6_ : v' 12 = .pointer (some ⟨p17, 0, none⟩) := f.2.1
          obtain ⟨g, e1_, zfx, -, -, e5_⟩ := a_12 f.1
          obtain rfl : p17 = g := Reg.ptr_eq (e6_.symm.trans e1_)
          have ofx : Blk w9 p17 28 #[.bool t21, .slice t22 t23 t24, .bool t25, .slice t26 t27 t28] := e5_ (hd 14 (Nat.le_of_ble_eq_true rfl))
          clear f e5_ e1_ e6_
          have f := hf (13, some 18) (.tail _ (.head _)) rfl
          have e6_ : v' 13 = .pointer (some ⟨p18, 0, none⟩) := f.2.1
          obtain ⟨g, e1_, zfy, -, -, e5_⟩ := a_13 f.1
          obtain rfl : p18 = g := Reg.ptr_eq (e6_.symm.trans e1_)
          have ofy : Blk w9 p18 28 #[.bool t31, .slice t32 t33 t34, .bool t35, .slice t36 t37 t38] := e5_ (hd 15 (Nat.le_of_ble_eq_true rfl))
          clear f e5_ e1_ e6_
          have y_12_13 : p17 ≠ p18 := fun e => q_12_13 (hf (12, some 17) (.head _) rfl).1 (hf (13, some 18) (.tail _ (.head _)) rfl).1 (by have h1 := (hf (12, some 17) (.head _) rfl).2.1; have h2 := (hf (13, some 18) (.tail _ (.head _)) rfl).2.1; rw [h1, h2]; show Value.pointer _ = .pointer _; rw [e])
          replace Fq0 := Hid.mk_ (Fq0.out.keeps jk)
          replace Fq1 := Hid.mk_ (Fq1.out.keeps jk)
          replace Fq2 := Hid.mk_ (Fq2.out.keeps jk)
          replace Fq3 := Hid.mk_ (Fq3.out.keeps jk)
          replace kk := kk.trans jk
          clear hd hf jk j0 q_12_13
          refine hQ _ _ ?_
          clear hQ hops Q' ops'
          have cpa0 := opa.q0
          have cpa1 := opa.q1
          have lpa := opa.lt
          have cpb0 := opb.q0
          have cpb1 := opb.q1
          have lpb := opb.lt
          have zfy_9 : p18 < w9.heap.size := ofy.lt
          have zpa_9 : p13 < w9.heap.size := opa.lt
          have zpb_9 : p14 < w9.heap.size := opb.lt
          have zfx_9 : p17 < w9.heap.size := ofx.lt
          have zz9 := B.size
          (try dsimp only); repeat' (first | go_values | go_skip | go_guarded | go_step | go_upon)
          refine Reg.wp_chain_n (fun N0 D v W => Below w.heap.size w W ∧ Keeps w9 W ∧ N0 ≤ W.heap.size ∧ Blk W (w3.heap.size) 31 CA ∧ Blk W (p13) 43 #[.int .i64 x0, .int .i64 y0] ∧ Blk W (p14) 43 #[.int .i64 x1, .int .i64 y1] ∧ Blk W (wr.heap.size) 43 #[.int .i64 x3, .int .i64 y3] ∧ Blk W (p17) 28 #[.bool t21, .slice t22 t23 t24, .bool t25, .slice t26 t27 t28] ∧ Blk W (p18) 28 #[.bool t31, .slice t32 t33 t34, .bool t35, .slice t36 t37 t38] ∧ (D 12 = true → ∃ g : Nat, v 12 = .pointer (some ⟨g, 0, none⟩) ∧ N0 ≤ g ∧ g < W.heap.size ∧ (D 14 = false → Blk W g 28 #[.bool false, .slice none 0 0, .bool false, .slice none 0 0]) ∧ (D 14 = true → D 5 = true ∧ ∃ cs, v 5 = .agg cs ∧ Blk W g 28 cs)) ∧ (D 13 = true → ∃ g : Nat, v 13 = .pointer (some ⟨g, 0, none⟩) ∧ N0 ≤ g ∧ g < W.heap.size ∧ (D 15 = false → Blk W g 28 #[.bool false, .slice none 0 0, .bool false, .slice none 0 0]) ∧ (D 15 = true → D 11 = true ∧ ∃ cs, v 11 = .agg cs ∧ Blk W g 28 cs)) ∧ (D 12 = true → D 13 = true → v 12 ≠ v 13))
            (Reg.inl [5, 11, 12, 13, 14, 15]) (Reg.gv [(5, IsFr), (11, IsFr), (12, IsPtr), (13, IsPtr)]) (gw [(5, GFr ((ux : Rat))), (11, GFr ((uy : Rat)))]) (fun _ => Keeps) (fun _ _ => False) (Reg.pl [(14, [(5, some 161), (12, some 19)]), (15, [(11, some 167), (13, some 20)]), (16, [(5, some 161), (11, some 167), (12, some 19), (13, some 20)])]) (Reg.pl [(12, [14]), (5, [14]), (13, [15]), (11, [15])])
            (by kernel_rfl) (by kernel_rfl) (by kernel_rfl) (Reg.gv_some _ (by intro p hp; simp only [List.mem_cons, List.not_mem_nil, or_false] at hp; rcases hp with rfl | rfl | rfl | rfl <;> first | exact ⟨_, rfl⟩ | exact ⟨_, 0, rfl⟩ | exact ⟨_, none, 0, 0, rfl⟩ | exact ⟨_, false, none, 0, 0, rfl⟩ | exact ⟨_, false, none, 0, 0, false, none, 0, 0, rfl⟩)) (fun N0 hN0 => ⟨fun v => ?_, fun D v v' W hv hj => ?_, fun D v k j W W' x _ _ _ _ hk hg => gw_keeps _ (by intro p hp; simp only [List.mem_cons, List.not_mem_nil, or_false] at hp; rcases hp with rfl | rfl <;> first | exact GFr.keeps | exact GFrE.keeps | exact GNu.keeps | exact GNuE.keeps | exact GLi.keeps) hk hg, fun _ _ _ _ h => h.elim, fun ops' Q' hops hQ => ?_⟩)
          · exact ⟨belowB, keepsB, Nat.le_of_eq hN0.out, ownK, ownK, ownK, ownK, ownK, ownK, (fun h => Bool.noConfusion h), (fun h => Bool.noConfusion h), (fun h => Bool.noConfusion h)⟩
          · obtain ⟨j0, jk, jn, b_q, b_pa, b_pb, b_pc, b_fx, b_fy, a_12, a_13, q_12_13⟩ := hj
            exact ⟨j0, jk, jn, b_q, b_pa, b_pb, b_pc, b_fx, b_fy, fun h => by obtain ⟨g, e1, e2, e3, e4, e5⟩ := a_12 h; exact ⟨g, (hv 12 h) ▸ e1, e2, e3, e4, fun h => by obtain ⟨d, cs, e, hb⟩ := e5 h; exact ⟨d, cs, (hv 5 d) ▸ e, hb⟩⟩, fun h => by obtain ⟨g, e1, e2, e3, e4, e5⟩ := a_13 h; exact ⟨g, (hv 13 h) ▸ e1, e2, e3, e4, fun h => by obtain ⟨d, cs, e, hb⟩ := e5 h; exact ⟨d, cs, (hv 11 d) ▸ e, hb⟩⟩, fun h h' => (hv 12 h) ▸ (hv 13 h') ▸ q_12_13 h h'⟩
          have i_q : w3.heap.size < N0 := by have e := hN0.out; (try simp only [World.size_alloc, World.size_setCell, World.size_drew, World.heap_drewN] at e); first | omega | (have h := oq.lt; omega)
          have i_pa : p13 < N0 := by have e := hN0.out; (try simp only [World.size_alloc, World.size_setCell, World.size_drew, World.heap_drewN] at e); first | omega | (have h := opa.lt; omega)
          have i_pb : p14 < N0 := by have e := hN0.out; (try simp only [World.size_alloc, World.size_setCell, World.size_drew, World.heap_drewN] at e); first | omega | (have h := opb.lt; omega)
          have i_pc : wr.heap.size < N0 := by have e := hN0.out; (try simp only [World.size_alloc, World.size_setCell, World.size_drew, World.heap_drewN] at e); first | omega | (have h := opc.lt; omega)
          have i_fx : p17 < N0 := by have e := hN0.out; (try simp only [World.size_alloc, World.size_setCell, World.size_drew, World.heap_drewN] at e); first | omega | (have h := ofx.lt; omega)
          have i_fy : p18 < N0 := by have e := hN0.out; (try simp only [World.size_alloc, World.size_setCell, World.size_drew, World.heap_drewN] at e); first | omega | (have h := ofy.lt; omega)
          have iw : w.heap.size ≤ N0 := by have e := hN0.out; (try simp only [World.size_alloc, World.size_setCell, World.size_drew, World.heap_drewN] at e); first | omega | (have h := B.size; omega)
          clear cpa0 cpa1 lpa cpb0 cpb1 lpb
          clear hN0
          apply Reg.RC_pure (hc := rfl) (hst := rfl) (hw := rfl) (t := 156) (hd := rfl) (ht := Nat.le_of_ble_eq_true rfl)
          · intro D v' W' hc hj hf K hK
            go_step
            exact hK.out
          · rfl
          apply Reg.RC_pure (hc := rfl) (hst := rfl) (hw := rfl) (t := 157) (hd := rfl) (ht := Nat.le_of_ble_eq_true rfl)
          · intro D v' W' hc hj hf K hK
            obtain ⟨j0, jk, jn, b_q, b_pa, b_pb, b_pc, b_fx, b_fy, a_12, a_13, q_12_13⟩ := hj
            have c0 : W'.cell? ⟨p14, 0, none⟩ = some (.int .i64 x1) := b_pb.c 0 rfl
            have c1 : W'.cell? ⟨p14, 1, none⟩ = some (.int .i64 y1) := b_pb.c 1 rfl
            go_step
            exact hK.out
          · rfl
          apply Reg.RC_pure (hc := rfl) (hst := rfl) (hw := rfl) (t := 158) (hd := rfl) (ht := Nat.le_of_ble_eq_true rfl)
          · intro D v' W' hc hj hf K hK
            go_step
            exact hK.out
          · rfl
          apply Reg.RC_pure (hc := rfl) (hst := rfl) (hw := rfl) (t := 159) (hd := rfl) (ht := Nat.le_of_ble_eq_true rfl)
          · intro D v' W' hc hj hf K hK
            obtain ⟨j0, jk, jn, b_q, b_pa, b_pb, b_pc, b_fx, b_fy, a_12, a_13, q_12_13⟩ := hj
            have c0 : W'.cell? ⟨p13, 0, none⟩ = some (.int .i64 x0) := b_pa.c 0 rfl
            have c1 : W'.cell? ⟨p13, 1, none⟩ = some (.int .i64 y0) := b_pa.c 1 rfl
            go_step
            exact hK.out
          · rfl
          apply Reg.RC_pure (hc := rfl) (hst := rfl) (hw := rfl) (t := 160) (hd := rfl) (ht := Nat.le_of_ble_eq_true rfl)
          · intro D v' W' hc hj hf K hK
            go_step
            rw [wux]
            exact hK.out
          · rfl
          refine Reg.RC_call rfl (by intro t ht; cases ht; exact Nat.le_of_ble_eq_true rfl) rfl (fun D v' W' hc hj hf K hK => ?_) ?_
          · obtain ⟨j0, jk, jn, b_q, b_pa, b_pb, b_pc, b_fx, b_fy, a_12, a_13, q_12_13⟩ := hj
            clear hf
            go_step
            refine (lofI ux W' bux).mono ?_
            rintro e W2 ⟨u, rfl, hu, hs⟩
            obtain ⟨oux_1, oux_2, oux_3, oux_4, oux_5, oux_6, oux_7, oux_8, rfl⟩ := hu.shape
            exact hK.out _ W2 (Keeps.steps hs) ⟨below_steps j0 (Nat.le_refl _) hs, jk.then_ hs, Nat.le_trans jn hs.size, b_q.steps hs, b_pa.steps hs, b_pb.steps hs, b_pc.steps hs, b_fx.steps hs, b_fy.steps hs, fun h => by obtain ⟨g, e1, e2, e3, e4, e5⟩ := a_12 h; exact ⟨g, e1, e2, Nat.lt_of_lt_of_le e3 (hs).size, fun h => (e4 h).steps hs, fun h => Bool.noConfusion ((hc.2 14 (by decide)).symm.trans h)⟩, fun h => by obtain ⟨g, e1, e2, e3, e4, e5⟩ := a_13 h; exact ⟨g, e1, e2, Nat.lt_of_lt_of_le e3 (hs).size, fun h => (e4 h).steps hs, fun h => by obtain ⟨d, cs, e, hb⟩ := e5 h; exact ⟨d, cs, e, hb.steps hs⟩⟩, q_12_13⟩ hu ⟨_, _, _, _, _, _, _, _, rfl⟩
          rintro _ ⟨oux_1, oux_2, oux_3, oux_4, oux_5, oux_6, oux_7, oux_8, rfl⟩
          refine Reg.RC_at (b := ⟨#[_,_,_,_,_,_,_,_,_,_,_,_,_,_,_,_,_,_,_,_,_,_,_,_,_,_,_,_,_,_,_,_,_,_,_,_,_,_,_,_,_,_,_,_,_,_,_,_,_,_,_,_,_,_,_,_,_,_,_,_,_,_,_,_,_,_,_,_,_,_,_,_,_,_,_,_,_,_,_,_,_,_,_,_,_,_,_,_,_,_,_,_,_,_,_,_,_,_,_,_,_,_,_,_,_,_,_,_,_,_,_,_,_,_,_,_,_,_,_,_,_,_,_,_,_,_,_,_,_,_,_,_,_,_,_,_,_,_,_,_,_,_,_,_,_,_,_,_,_,_,_,_,_,_,_,_,_,_,_,_,_,_,_,_,_,_,_,_,_,_,_,_,_,_,_,_,_,_,_,_,_,_,_,_,_,_,_,_,_,_,_,_,_,_,_,_,_,_,_,_,_,_,_,_,_,_,_,_,_,_,_,_,_,_,_,_,_,_,_,_,_,_,_,_,_,_,_,_,_,_,_,_,_], _⟩) rfl ?_
          apply Reg.RC_pure (hc := rfl) (hst := rfl) (hw := rfl) (t := 162) (hd := rfl) (ht := Nat.le_of_ble_eq_true rfl)
          · intro D v' W' hc hj hf K hK
            go_step
            exact hK.out
          · rfl
          apply Reg.RC_pure (hc := rfl) (hst := rfl) (hw := rfl) (t := 163) (hd := rfl) (ht := Nat.le_of_ble_eq_true rfl)
          · intro D v' W' hc hj hf K hK
            obtain ⟨j0, jk, jn, b_q, b_pa, b_pb, b_pc, b_fx, b_fy, a_12, a_13, q_12_13⟩ := hj
            have c0 : W'.cell? ⟨p14, 0, none⟩ = some (.int .i64 x1) := b_pb.c 0 rfl
            have c1 : W'.cell? ⟨p14, 1, none⟩ = some (.int .i64 y1) := b_pb.c 1 rfl
            go_step
            exact hK.out
          · rfl
          apply Reg.RC_pure (hc := rfl) (hst := rfl) (hw := rfl) (t := 164) (hd := rfl) (ht := Nat.le_of_ble_eq_true rfl)
          · intro D v' W' hc hj hf K hK
            go_step
            exact hK.out
          · rfl
          apply Reg.RC_pure (hc := rfl) (hst := rfl) (hw := rfl) (t := 165) (hd := rfl) (ht := Nat.le_of_ble_eq_true rfl)
          · intro D v' W' hc hj hf K hK
            obtain ⟨j0, jk, jn, b_q, b_pa, b_pb, b_pc, b_fx, b_fy, a_12, a_13, q_12_13⟩ := hj
            have c0 : W'.cell? ⟨p13, 0, none⟩ = some (.int .i64 x0) := b_pa.c 0 rfl
            have c1 : W'.cell? ⟨p13, 1, none⟩ = some (.int .i64 y0) := b_pa.c 1 rfl
            go_step
            exact hK.out
          · rfl
          apply Reg.RC_pure (hc := rfl) (hst := rfl) (hw := rfl) (t := 166) (hd := rfl) (ht := Nat.le_of_ble_eq_true rfl)
          · intro D v' W' hc hj hf K hK
            go_step
            rw [wuy]
            exact hK.out
          · rfl
          refine Reg.RC_call rfl (by intro t ht; cases ht; exact Nat.le_of_ble_eq_true rfl) rfl (fun D v' W' hc hj hf K hK => ?_) ?_
          · obtain ⟨j0, jk, jn, b_q, b_pa, b_pb, b_pc, b_fx, b_fy, a_12, a_13, q_12_13⟩ := hj
            clear hf
            go_step
            refine (lofI uy W' buy).mono ?_
            rintro e W2 ⟨u, rfl, hu, hs⟩
            obtain ⟨ouy_1, ouy_2, ouy_3, ouy_4, ouy_5, ouy_6, ouy_7, ouy_8, rfl⟩ := hu.shape
            exact hK.out _ W2 (Keeps.steps hs) ⟨below_steps j0 (Nat.le_refl _) hs, jk.then_ hs, Nat.le_trans jn hs.size, b_q.steps hs, b_pa.steps hs, b_pb.steps hs, b_pc.steps hs, b_fx.steps hs, b_fy.steps hs, fun h => by obtain ⟨g, e1, e2, e3, e4, e5⟩ := a_12 h; exact ⟨g, e1, e2, Nat.lt_of_lt_of_le e3 (hs).size, fun h => (e4 h).steps hs, fun h => by obtain ⟨d, cs, e, hb⟩ := e5 h; exact ⟨d, cs, e, hb.steps hs⟩⟩, fun h => by obtain ⟨g, e1, e2, e3, e4, e5⟩ := a_13 h; exact ⟨g, e1, e2, Nat.lt_of_lt_of_le e3 (hs).size, fun h => (e4 h).steps hs, fun h => Bool.noConfusion ((hc.2 15 (by decide)).symm.trans h)⟩, q_12_13⟩ hu ⟨_, _, _, _, _, _, _, _, rfl⟩
          rintro _ ⟨ouy_1, ouy_2, ouy_3, ouy_4, ouy_5, ouy_6, ouy_7, ouy_8, rfl⟩
          refine Reg.RC_at (b := ⟨#[_,_,_,_,_,_,_,_,_,_,_,_,_,_,_,_,_,_,_,_,_,_,_,_,_,_,_,_,_,_,_,_,_,_,_,_,_,_,_,_,_,_,_,_,_,_,_,_,_,_,_,_,_,_,_,_,_,_,_,_,_,_,_,_,_,_,_,_,_,_,_,_,_,_,_,_,_,_,_,_,_,_,_,_,_,_,_,_,_,_,_,_,_,_,_,_,_,_,_,_,_,_,_,_,_,_,_,_,_,_,_,_,_,_,_,_,_,_,_,_,_,_,_,_,_,_,_,_,_,_,_,_,_,_,_,_,_,_,_,_,_,_,_,_,_,_,_,_,_,_,_,_,_,_,_,_,_,_,_,_,_,_,_,_,_,_,_,_,_,_,_,_,_,_,_,_,_,_,_,_,_,_,_,_,_,_,_,_,_,_,_,_,_,_,_,_,_,_,_,_,_,_,_,_,_,_,_,_,_,_,_,_,_,_,_,_,_,_,_,_,_,_,_,_,_,_,_,_,_,_,_,_,_], _⟩) rfl ?_
          refine Reg.RC_call rfl (by intro t ht; cases ht; exact Nat.le_of_ble_eq_true rfl) rfl (fun D v' W' hc hj hf K hK => ?_) ?_
          · obtain ⟨j0, jk, jn, b_q, b_pa, b_pb, b_pc, b_fx, b_fy, a_12, a_13, q_12_13⟩ := hj
            go_step
            have hs : ∀ o : Obj, Steps W' (W'.alloc o) := fun o => (Below.refl _ _).alloc (Nat.le_refl _) o
            exact hK.out _ _ (Keeps.steps (hs _)) ⟨below_steps j0 (Nat.le_refl _) (hs _), jk.then_ (hs _), Nat.le_trans jn (hs _).size, b_q.steps (hs _), b_pa.steps (hs _), b_pb.steps (hs _), b_pc.steps (hs _), b_fx.steps (hs _), b_fy.steps (hs _), fun _ => ⟨W'.heap.size, rfl, jn, by rw [World.size_alloc]; omega, fun _ => Blk.new _ _ _, fun h => Bool.noConfusion ((hc.2 14 (by decide)).symm.trans h)⟩, fun h => by obtain ⟨g, e1, e2, e3, e4, e5⟩ := a_13 h; exact ⟨g, e1, e2, Nat.lt_of_lt_of_le e3 ((hs _)).size, fun h => (e4 h).steps (hs _), fun h => by obtain ⟨d, cs, e, hb⟩ := e5 h; exact ⟨d, cs, e, hb.steps (hs _)⟩⟩, fun _ h' => by obtain ⟨g, e1, e2, e3, e4, e5⟩ := a_13 h'; exact fun e => Reg.ptr_ne e3 (e.trans e1)⟩ trivial ⟨_, rfl⟩
          rintro _ ⟨p19, rfl⟩
          refine Reg.RC_at (b := ⟨#[_,_,_,_,_,_,_,_,_,_,_,_,_,_,_,_,_,_,_,_,_,_,_,_,_,_,_,_,_,_,_,_,_,_,_,_,_,_,_,_,_,_,_,_,_,_,_,_,_,_,_,_,_,_,_,_,_,_,_,_,_,_,_,_,_,_,_,_,_,_,_,_,_,_,_,_,_,_,_,_,_,_,_,_,_,_,_,_,_,_,_,_,_,_,_,_,_,_,_,_,_,_,_,_,_,_,_,_,_,_,_,_,_,_,_,_,_,_,_,_,_,_,_,_,_,_,_,_,_,_,_,_,_,_,_,_,_,_,_,_,_,_,_,_,_,_,_,_,_,_,_,_,_,_,_,_,_,_,_,_,_,_,_,_,_,_,_,_,_,_,_,_,_,_,_,_,_,_,_,_,_,_,_,_,_,_,_,_,_,_,_,_,_,_,_,_,_,_,_,_,_,_,_,_,_,_,_,_,_,_,_,_,_,_,_,_,_,_,_,_,_,_,_,_,_,_,_,_,_,_,_,_,_], _⟩) rfl ?_
          refine Reg.RC_call rfl (by intro t ht; cases ht; exact Nat.le_of_ble_eq_true rfl) rfl (fun D v' W' hc hj hf K hK => ?_) ?_
          · obtain ⟨j0, jk, jn, b_q, b_pa, b_pb, b_pc, b_fx, b_fy, a_12, a_13, q_12_13⟩ := hj
            go_step
            have hs : ∀ o : Obj, Steps W' (W'.alloc o) := fun o => (Below.refl _ _).alloc (Nat.le_refl _) o
            exact hK.out _ _ (Keeps.steps (hs _)) ⟨below_steps j0 (Nat.le_refl _) (hs _), jk.then_ (hs _), Nat.le_trans jn (hs _).size, b_q.steps (hs _), b_pa.steps (hs _), b_pb.steps (hs _), b_pc.steps (hs _), b_fx.steps (hs _), b_fy.steps (hs _), fun h => by obtain ⟨g, e1, e2, e3, e4, e5⟩ := a_12 h; exact ⟨g, e1, e2, Nat.lt_of_lt_of_le e3 ((hs _)).size, fun h => (e4 h).steps (hs _), fun h => by obtain ⟨d, cs, e, hb⟩ := e5 h; exact ⟨d, cs, e, hb.steps (hs _)⟩⟩, fun _ => ⟨W'.heap.size, rfl, jn, by rw [World.size_alloc]; omega, fun _ => Blk.new _ _ _, fun h => Bool.noConfusion ((hc.2 15 (by decide)).symm.trans h)⟩, fun h _ => by obtain ⟨g, e1, e2, e3, e4, e5⟩ := a_12 h; exact fun e => Reg.ptr_ne e3 (e.symm.trans e1)⟩ trivial ⟨_, rfl⟩
          rintro _ ⟨p20, rfl⟩
          refine Reg.RC_at (b := ⟨#[_,_,_,_,_,_,_,_,_,_,_,_,_,_,_,_,_,_,_,_,_,_,_,_,_,_,_,_,_,_,_,_,_,_,_,_,_,_,_,_,_,_,_,_,_,_,_,_,_,_,_,_,_,_,_,_,_,_,_,_,_,_,_,_,_,_,_,_,_,_,_,_,_,_,_,_,_,_,_,_,_,_,_,_,_,_,_,_,_,_,_,_,_,_,_,_,_,_,_,_,_,_,_,_,_,_,_,_,_,_,_,_,_,_,_,_,_,_,_,_,_,_,_,_,_,_,_,_,_,_,_,_,_,_,_,_,_,_,_,_,_,_,_,_,_,_,_,_,_,_,_,_,_,_,_,_,_,_,_,_,_,_,_,_,_,_,_,_,_,_,_,_,_,_,_,_,_,_,_,_,_,_,_,_,_,_,_,_,_,_,_,_,_,_,_,_,_,_,_,_,_,_,_,_,_,_,_,_,_,_,_,_,_,_,_,_,_,_,_,_,_,_,_,_,_,_,_,_,_,_,_,_,_], _⟩) rfl ?_
          refine Reg.RC_call rfl (by intro t ht; cases ht) rfl (fun D v' W' hc hj hf K hK => ?_) (fun _ _ => Reg.RC_at (b := ⟨_, _⟩) rfl ?_)
          · obtain ⟨j0, jk, jn, b_q, b_pa, b_pb, b_pc, b_fx, b_fy, a_12, a_13, q_12_13⟩ := hj
            have f := hf (12, some 19) (.tail _ (.head _)) rfl
            have e6 : v' 12 = .pointer (some ⟨p19, 0, none⟩) := f.2.1
            obtain ⟨g, e1, e2, e3, e4, e5⟩ := a_12 f.1
            obtain rfl : p19 = g := Reg.ptr_eq (e6.symm.trans e1)
            have hb := e4 hc.1
            clear e4 e5
            have fc := hf (5, some 161) (.head _) rfl
            have ec : v' 5 = .agg #[.bool oux_1, .slice oux_2 oux_3 oux_4, .bool oux_5, .slice oux_6 oux_7 oux_8] := fc.2.1
            have ff := hb.fr
            have cc0 : W'.cell? ⟨p19, 0, none⟩ = some (.bool false) := hb.c 0 rfl
            have cc1 : W'.cell? ⟨p19, 1, none⟩ = some (.slice none 0 0) := hb.c 1 rfl
            have cc2 : W'.cell? ⟨p19, 2, none⟩ = some (.bool false) := hb.c 2 rfl
            have cc3 : W'.cell? ⟨p19, 3, none⟩ = some (.slice none 0 0) := hb.c 3 rfl
            go_step
            exact hK.out undef _ (Keeps.only hb rfl ((Only.refl _ _).set.set.set.set)) ⟨(Below.setCell (p := ⟨p19, 3, none⟩) (Below.setCell (p := ⟨p19, 2, none⟩) (Below.setCell (p := ⟨p19, 1, none⟩) (Below.setCell (p := ⟨p19, 0, none⟩) j0 (by show w.heap.size ≤ p19; omega) _) (by show w.heap.size ≤ p19; omega) _) (by show w.heap.size ≤ p19; omega) _) (by show w.heap.size ≤ p19; omega) _), jk.trans (Keeps.only hb rfl ((Only.refl _ _).set.set.set.set)), by simpa using jn, ((((b_q).far' (show w3.heap.size ≠ p19 by omega)).far' (show w3.heap.size ≠ p19 by omega)).far' (show w3.heap.size ≠ p19 by omega)).far' (show w3.heap.size ≠ p19 by omega), ((((b_pa).far' (show p13 ≠ p19 by omega)).far' (show p13 ≠ p19 by omega)).far' (show p13 ≠ p19 by omega)).far' (show p13 ≠ p19 by omega), ((((b_pb).far' (show p14 ≠ p19 by omega)).far' (show p14 ≠ p19 by omega)).far' (show p14 ≠ p19 by omega)).far' (show p14 ≠ p19 by omega), ((((b_pc).far' (show wr.heap.size ≠ p19 by omega)).far' (show wr.heap.size ≠ p19 by omega)).far' (show wr.heap.size ≠ p19 by omega)).far' (show wr.heap.size ≠ p19 by omega), ((((b_fx).far' (show p17 ≠ p19 by omega)).far' (show p17 ≠ p19 by omega)).far' (show p17 ≠ p19 by omega)).far' (show p17 ≠ p19 by omega), ((((b_fy).far' (show p18 ≠ p19 by omega)).far' (show p18 ≠ p19 by omega)).far' (show p18 ≠ p19 by omega)).far' (show p18 ≠ p19 by omega), fun _ => ⟨p19, e1, e2, by simpa using e3, fun h => Bool.noConfusion h, fun _ => ⟨fc.1, _, ec, (Blk.set2 (cs' := #[.bool oux_1, .slice oux_2 oux_3 oux_4, .bool oux_5, .slice oux_6 oux_7 oux_8]) (Blk.set2 (cs' := #[.bool oux_1, .slice oux_2 oux_3 oux_4, .bool oux_5, .slice none 0 0]) (Blk.set2 (cs' := #[.bool oux_1, .slice oux_2 oux_3 oux_4, .bool false, .slice none 0 0]) (Blk.set2 (cs' := #[.bool oux_1, .slice none 0 0, .bool false, .slice none 0 0]) hb (i := 0) rfl) (i := 1) rfl) (i := 2) rfl) (i := 3) rfl)⟩⟩, fun h => by obtain ⟨g, k1, k2, k3, k4, k5⟩ := a_13 h; have hne : g ≠ p19 := fun e => (q_12_13 f.1 h) (by rw [e6, k1, e]); exact ⟨g, k1, k2, by simpa using k3, fun h => ((((k4 h).far' hne).far' hne).far' hne).far' hne, fun h => by obtain ⟨d, cs, e, hb2⟩ := k5 h; exact ⟨d, cs, e, ((((hb2).far' hne).far' hne).far' hne).far' hne⟩⟩, q_12_13⟩ trivial trivial
          refine Reg.RC_call rfl (by intro t ht; cases ht) rfl (fun D v' W' hc hj hf K hK => ?_) (fun _ _ => Reg.RC_at (b := ⟨_, _⟩) rfl ?_)
          · obtain ⟨j0, jk, jn, b_q, b_pa, b_pb, b_pc, b_fx, b_fy, a_12, a_13, q_12_13⟩ := hj
            have f := hf (13, some 20) (.tail _ (.head _)) rfl
            have e6 : v' 13 = .pointer (some ⟨p20, 0, none⟩) := f.2.1
            obtain ⟨g, e1, e2, e3, e4, e5⟩ := a_13 f.1
            obtain rfl : p20 = g := Reg.ptr_eq (e6.symm.trans e1)
            have hb := e4 hc.1
            clear e4 e5
            have fc := hf (11, some 167) (.head _) rfl
            have ec : v' 11 = .agg #[.bool ouy_1, .slice ouy_2 ouy_3 ouy_4, .bool ouy_5, .slice ouy_6 ouy_7 ouy_8] := fc.2.1
            have ff := hb.fr
            have cc0 : W'.cell? ⟨p20, 0, none⟩ = some (.bool false) := hb.c 0 rfl
            have cc1 : W'.cell? ⟨p20, 1, none⟩ = some (.slice none 0 0) := hb.c 1 rfl
            have cc2 : W'.cell? ⟨p20, 2, none⟩ = some (.bool false) := hb.c 2 rfl
            have cc3 : W'.cell? ⟨p20, 3, none⟩ = some (.slice none 0 0) := hb.c 3 rfl
            go_step
            exact hK.out undef _ (Keeps.only hb rfl ((Only.refl _ _).set.set.set.set)) ⟨(Below.setCell (p := ⟨p20, 3, none⟩) (Below.setCell (p := ⟨p20, 2, none⟩) (Below.setCell (p := ⟨p20, 1, none⟩) (Below.setCell (p := ⟨p20, 0, none⟩) j0 (by show w.heap.size ≤ p20; omega) _) (by show w.heap.size ≤ p20; omega) _) (by show w.heap.size ≤ p20; omega) _) (by show w.heap.size ≤ p20; omega) _), jk.trans (Keeps.only hb rfl ((Only.refl _ _).set.set.set.set)), by simpa using jn, ((((b_q).far' (show w3.heap.size ≠ p20 by omega)).far' (show w3.heap.size ≠ p20 by omega)).far' (show w3.heap.size ≠ p20 by omega)).far' (show w3.heap.size ≠ p20 by omega), ((((b_pa).far' (show p13 ≠ p20 by omega)).far' (show p13 ≠ p20 by omega)).far' (show p13 ≠ p20 by omega)).far' (show p13 ≠ p20 by omega), ((((b_pb).far' (show p14 ≠ p20 by omega)).far' (show p14 ≠ p20 by omega)).far' (show p14 ≠ p20 by omega)).far' (show p14 ≠ p20 by omega), ((((b_pc).far' (show wr.heap.size ≠ p20 by omega)).far' (show wr.heap.size ≠ p20 by omega)).far' (show wr.heap.size ≠ p20 by omega)).far' (show wr.heap.size ≠ p20 by omega), ((((b_fx).far' (show p17 ≠ p20 by omega)).far' (show p17 ≠ p20 by omega)).far' (show p17 ≠ p20 by omega)).far' (show p17 ≠ p20 by omega), ((((b_fy).far' (show p18 ≠ p20 by omega)).far' (show p18 ≠ p20 by omega)).far' (show p18 ≠ p20 by omega)).far' (show p18 ≠ p20 by omega), fun h => by obtain ⟨g, k1, k2, k3, k4, k5⟩ := a_12 h; have hne : g ≠ p20 := fun e => (q_12_13 h f.1) (by rw [e6, k1, e]); exact ⟨g, k1, k2, by simpa using k3, fun h => ((((k4 h).far' hne).far' hne).far' hne).far' hne, fun h => by obtain ⟨d, cs, e, hb2⟩ := k5 h; exact ⟨d, cs, e, ((((hb2).far' hne).far' hne).far' hne).far' hne⟩⟩, fun _ => ⟨p20, e1, e2, by simpa using e3, fun h => Bool.noConfusion h, fun _ => ⟨fc.1, _, ec, (Blk.set2 (cs' := #[.bool ouy_1, .slice ouy_2 ouy_3 ouy_4, .bool ouy_5, .slice ouy_6 ouy_7 ouy_8]) (Blk.set2 (cs' := #[.bool ouy_1, .slice ouy_2 ouy_3 ouy_4, .bool ouy_5, .slice none 0 0]) (Blk.set2 (cs' := #[.bool ouy_1, .slice ouy_2 ouy_3 ouy_4, .bool false, .slice none 0 0]) (Blk.set2 (cs' := #[.bool ouy_1, .slice none 0 0, .bool false, .slice none 0 0]) hb (i := 0) rfl) (i := 1) rfl) (i := 2) rfl) (i := 3) rfl)⟩⟩, q_12_13⟩ trivial trivial
          refine Reg.RC_end (fun Dn v' w10 hd hj hf => ?_)
          obtain ⟨j0, jk, jn, b_q, b_pa, b_pb, b_pc, b_fx, b_fy, a_12, a_13, q_12_13⟩ := hj
          have B := j0
          have oq := b_q
          clear b_q
          have opa := b_pa
          clear b_pa
          have opb := b_pb
          clear b_pb
          have opc := b_pc
          clear b_pc
          have ofx := b_fx
          clear b_fx
          have ofy := b_fy
          clear b_fy
          have f := hf (12, some 19) (.tail _ (.tail _ (.head _))) rfl
          have e6_ : v' 12 = .pointer (some ⟨p19, 0, none⟩) := f.2.1
          obtain ⟨g, e1_, zgx, -, -, e5_⟩ := a_12 f.1
          obtain rfl : p19 = g := Reg.ptr_eq (e6_.symm.trans e1_)
          obtain ⟨-, cs_, ee, ogx⟩ := e5_ (hd 14 (Nat.le_of_ble_eq_true rfl))
          have ef : v' 5 = .agg #[.bool oux_1, .slice oux_2 oux_3 oux_4, .bool oux_5, .slice oux_6 oux_7 oux_8] := (hf (5, some 161) (.head _) rfl).2.1
          obtain rfl : #[.bool oux_1, .slice oux_2 oux_3 oux_4, .bool oux_5, .slice oux_6 oux_7 oux_8] = cs_ := by have := ef.symm.trans ee; simpa only [Value.tuple.injEq, Value.agg.injEq, Array.mk.injEq, List.cons.injEq, and_true, true_and] using this
          clear ee ef f e5_ e1_ e6_
          have f := hf (13, some 20) (.tail _ (.tail _ (.tail _ (.head _)))) rfl
          have e6_ : v' 13 = .pointer (some ⟨p20, 0, none⟩) := f.2.1
          obtain ⟨g, e1_, zgy, -, -, e5_⟩ := a_13 f.1
          obtain rfl : p20 = g := Reg.ptr_eq (e6_.symm.trans e1_)
          obtain ⟨-, cs_, ee, ogy⟩ := e5_ (hd 15 (Nat.le_of_ble_eq_true rfl))
          have ef : v' 11 = .agg #[.bool ouy_1, .slice ouy_2 ouy_3 ouy_4, .bool ouy_5, .slice ouy_6 ouy_7 ouy_8] := (hf (11, some 167) (.tail _ (.head _)) rfl).2.1
          obtain rfl : #[.bool ouy_1, .slice ouy_2 ouy_3 ouy_4, .bool ouy_5, .slice ouy_6 ouy_7 ouy_8] = cs_ := by have := ef.symm.trans ee; simpa only [Value.tuple.injEq, Value.agg.injEq, Array.mk.injEq, List.cons.injEq, and_true, true_and] using this
          clear ee ef f e5_ e1_ e6_
          have y_12_13 : p19 ≠ p20 := fun e => q_12_13 (hf (12, some 19) (.tail _ (.tail _ (.head _))) rfl).1 (hf (13, some 20) (.tail _ (.tail _ (.tail _ (.head _)))) rfl).1 (by have h1 := (hf (12, some 19) (.tail _ (.tail _ (.head _))) rfl).2.1; have h2 := (hf (13, some 20) (.tail _ (.tail _ (.tail _ (.head _)))) rfl).2.1; rw [h1, h2]; show Value.pointer _ = .pointer _; rw [e])
          have Foux_ : Hid (FR w10 (.agg #[.bool oux_1, .slice oux_2 oux_3 oux_4, .bool oux_5, .slice oux_6 oux_7 oux_8]) ((ux : Rat))) := (hf (5, some 161) (.head _) rfl).2.2
          have Fouy_ : Hid (FR w10 (.agg #[.bool ouy_1, .slice ouy_2 ouy_3 ouy_4, .bool ouy_5, .slice ouy_6 ouy_7 ouy_8]) ((uy : Rat))) := (hf (11, some 167) (.tail _ (.head _)) rfl).2.2
          replace Fq0 := Hid.mk_ (Fq0.out.keeps jk)
          replace Fq1 := Hid.mk_ (Fq1.out.keeps jk)
          replace Fq2 := Hid.mk_ (Fq2.out.keeps jk)
          replace Fq3 := Hid.mk_ (Fq3.out.keeps jk)
          replace kk := kk.trans jk
          clear hd hf jk j0 q_12_13
          refine hQ _ _ ?_
          clear hQ hops Q' ops'
          have cfx0 := ofx.q0
          have cfx1 := ofx.q1
          have cfx2 := ofx.q2
          have cfx3 := ofx.q3
          have lfx := ofx.lt
          have cgx0 := ogx.q0
          have cgx1 := ogx.q1
          have cgx2 := ogx.q2
          have cgx3 := ogx.q3
          have lgx := ogx.lt
          (try dsimp only); repeat' (first | go_values | go_skip | go_guarded | go_step | go_upon)
          refine (fMulQ _ (Fq2.out.keeps keepsB) (Foux_.out.keeps keepsB) sz2 (sz_pt bux) (by omega)).mono ?_
          rintro e w11 ⟨vu1_, rfl, hvu1_, hb11⟩
          have st : Steps _ w11 := hb11
          have sk : Below w10.heap.size w10 w11 := belowA st
          replace B := below_steps B (Nat.le_refl _) sk
          replace oq := oq.steps sk
          replace opa := opa.steps sk
          replace opb := opb.steps sk
          replace opc := opc.steps sk
          replace ofx := ofx.steps sk
          replace ofy := ofy.steps sk
          replace ogx := ogx.steps sk
          replace ogy := ogy.steps sk
          replace Fq0 := Hid.mk_ (Fq0.out.steps sk)
          replace Fq1 := Hid.mk_ (Fq1.out.steps sk)
          replace Fq2 := Hid.mk_ (Fq2.out.steps sk)
          replace Fq3 := Hid.mk_ (Fq3.out.steps sk)
          replace Foux_ := Hid.mk_ (Foux_.out.steps sk)
          replace Fouy_ := Hid.mk_ (Fouy_.out.steps sk)
          replace kk := kk.then_ sk
          clear st sk cfx0 cfx1 cfx2 cfx3 lfx cgx0 cgx1 cgx2 cgx3 lgx
          have cfy0 := ofy.q0
          have cfy1 := ofy.q1
          have cfy2 := ofy.q2
          have cfy3 := ofy.q3
          have lfy := ofy.lt
          have cgy0 := ogy.q0
          have cgy1 := ogy.q1
          have cgy2 := ogy.q2
          have cgy3 := ogy.q3
          have lgy := ogy.lt
          obtain ⟨u1_1, u1_2, u1_3, u1_4, u1_5, u1_6, u1_7, u1_8, rfl⟩ := hvu1_.shape
          have Fu1_ := Hid.mk_ hvu1_
          clear hvu1_
          have zgy_11 : p20 < w11.heap.size := ogy.lt
          have zpa_11 : p13 < w11.heap.size := opa.lt
          have zpb_11 : p14 < w11.heap.size := opb.lt
          have zfx_11 : p17 < w11.heap.size := ofx.lt
          have zfy_11 : p18 < w11.heap.size := ofy.lt
          have zgx_11 : p19 < w11.heap.size := ogx.lt
          have zz11 := B.size
          (try dsimp only); repeat' (first | go_values | go_skip | go_guarded | go_step | go_upon)
          refine (fMulQ _ (Fq3.out.keeps keepsB) (Fouy_.out.keeps keepsB) sz3 (sz_pt buy) (by omega)).mono ?_
          rintro e w12 ⟨vu2_, rfl, hvu2_, hb12⟩
          have st : Steps _ w12 := hb12
          have sk : Below w11.heap.size w11 w12 := belowA st
          replace B := below_steps B (Nat.le_refl _) sk
          have oh1 : Blk w12 (w11.heap.size) 28 #[.bool u1_1, .slice u1_2 u1_3 u1_4, .bool u1_5, .slice u1_6 u1_7 u1_8] := Blk.stepsK st
          replace oq := oq.steps sk
          replace opa := opa.steps sk
          replace opb := opb.steps sk
          replace opc := opc.steps sk
          replace ofx := ofx.steps sk
          replace ofy := ofy.steps sk
          replace ogx := ogx.steps sk
          replace ogy := ogy.steps sk
          replace Fq0 := Hid.mk_ (Fq0.out.steps sk)
          replace Fq1 := Hid.mk_ (Fq1.out.steps sk)
          replace Fq2 := Hid.mk_ (Fq2.out.steps sk)
          replace Fq3 := Hid.mk_ (Fq3.out.steps sk)
          replace Foux_ := Hid.mk_ (Foux_.out.steps sk)
          replace Fouy_ := Hid.mk_ (Fouy_.out.steps sk)
          replace Fu1_ := Hid.mk_ (Fu1_.out.steps sk)
          replace kk := kk.then_ sk
          clear st sk cfy0 cfy1 cfy2 cfy3 lfy cgy0 cgy1 cgy2 cgy3 lgy
          have ch10 := oh1.q0
          have ch11 := oh1.q1
          have ch12 := oh1.q2
          have ch13 := oh1.q3
          have lh1 := oh1.lt
          obtain ⟨u2_1, u2_2, u2_3, u2_4, u2_5, u2_6, u2_7, u2_8, rfl⟩ := hvu2_.shape
          have Fu2_ := Hid.mk_ hvu2_
          clear hvu2_
          have zh1_12 : w11.heap.size < w12.heap.size := oh1.lt
          have zpa_12 : p13 < w12.heap.size := opa.lt
          have zpb_12 : p14 < w12.heap.size := opb.lt
          have zfx_12 : p17 < w12.heap.size := ofx.lt
          have zfy_12 : p18 < w12.heap.size := ofy.lt
          have zgx_12 : p19 < w12.heap.size := ogx.lt
          have zgy_12 : p20 < w12.heap.size := ogy.lt
          have zz12 := B.size
          (try dsimp only); repeat' (first | go_values | go_skip | go_guarded | go_step | go_upon)
          refine (fSubQ _ (Fu1_.out.keeps keepsB) (Fu2_.out.keeps keepsB) (sz2.mul (sz_pt bux)) (sz3.mul (sz_pt buy)) (by omega)).mono ?_
          rintro e w13 ⟨vu3_, rfl, hvu3_, hb13⟩
          have st : Steps _ w13 := hb13
          have sk : Below w12.heap.size w12 w13 := belowA st
          replace B := below_steps B (Nat.le_refl _) sk
          have oh2 : Blk w13 (w12.heap.size) 28 #[.bool u2_1, .slice u2_2 u2_3 u2_4, .bool u2_5, .slice u2_6 u2_7 u2_8] := Blk.stepsK st
          replace oq := oq.steps sk
          replace opa := opa.steps sk
          replace opb := opb.steps sk
          replace opc := opc.steps sk
          replace ofx := ofx.steps sk
          replace ofy := ofy.steps sk
          replace ogx := ogx.steps sk
          replace ogy := ogy.steps sk
          replace oh1 := oh1.steps sk
          replace Fq0 := Hid.mk_ (Fq0.out.steps sk)
          replace Fq1 := Hid.mk_ (Fq1.out.steps sk)
          replace Fq2 := Hid.mk_ (Fq2.out.steps sk)
          replace Fq3 := Hid.mk_ (Fq3.out.steps sk)
          replace Foux_ := Hid.mk_ (Foux_.out.steps sk)
          replace Fouy_ := Hid.mk_ (Fouy_.out.steps sk)
          replace Fu1_ := Hid.mk_ (Fu1_.out.steps sk)
          replace Fu2_ := Hid.mk_ (Fu2_.out.steps sk)
          replace kk := kk.then_ sk
          clear st sk ch10 ch11 ch12 ch13 lh1
          have cfx0 := ofx.q0
          have cfx1 := ofx.q1
          have cfx2 := ofx.q2
          have cfx3 := ofx.q3
          have lfx := ofx.lt
          have cgy0 := ogy.q0
          have cgy1 := ogy.q1
          have cgy2 := ogy.q2
          have cgy3 := ogy.q3
          have lgy := ogy.lt
          obtain ⟨u3_1, u3_2, u3_3, u3_4, u3_5, u3_6, u3_7, u3_8, rfl⟩ := hvu3_.shape
          have Fu3_ := Hid.mk_ hvu3_
          clear hvu3_
          have zh2_13 : w12.heap.size < w13.heap.size := oh2.lt
          have zpa_13 : p13 < w13.heap.size := opa.lt
          have zpb_13 : p14 < w13.heap.size := opb.lt
          have zfx_13 : p17 < w13.heap.size := ofx.lt
          have zfy_13 : p18 < w13.heap.size := ofy.lt
          have zgx_13 : p19 < w13.heap.size := ogx.lt
          have zgy_13 : p20 < w13.heap.size := ogy.lt
          have zz13 := B.size
          (try dsimp only); repeat' (first | go_values | go_skip | go_guarded | go_step | go_upon)
          refine (fMulQ _ (Fq2.out.keeps keepsB) (Fouy_.out.keeps keepsB) sz2 (sz_pt buy) (by omega)).mono ?_
          rintro e w14 ⟨vu4_, rfl, hvu4_, hb14⟩
          have st : Steps _ w14 := hb14
          have sk : Below w13.heap.size w13 w14 := belowA st
          replace B := below_steps B (Nat.le_refl _) sk
          have oh3 : Blk w14 (w13.heap.size) 28 #[.bool u3_1, .slice u3_2 u3_3 u3_4, .bool u3_5, .slice u3_6 u3_7 u3_8] := Blk.stepsK st
          replace oq := oq.steps sk
          replace opa := opa.steps sk
          replace opb := opb.steps sk
          replace opc := opc.steps sk
          replace ofx := ofx.steps sk
          replace ofy := ofy.steps sk
          replace ogx := ogx.steps sk
          replace ogy := ogy.steps sk
          replace oh1 := oh1.steps sk
          replace oh2 := oh2.steps sk
          replace Fq0 := Hid.mk_ (Fq0.out.steps sk)
          replace Fq1 := Hid.mk_ (Fq1.out.steps sk)
          replace Fq2 := Hid.mk_ (Fq2.out.steps sk)
          replace Fq3 := Hid.mk_ (Fq3.out.steps sk)
          replace Foux_ := Hid.mk_ (Foux_.out.steps sk)
          replace Fouy_ := Hid.mk_ (Fouy_.out.steps sk)
          replace Fu1_ := Hid.mk_ (Fu1_.out.steps sk)
          replace Fu2_ := Hid.mk_ (Fu2_.out.steps sk)
          replace Fu3_ := Hid.mk_ (Fu3_.out.steps sk)
          replace kk := kk.then_ sk
          clear st sk cfx0 cfx1 cfx2 cfx3 lfx cgy0 cgy1 cgy2 cgy3 lgy
          have cfy0 := ofy.q0
          have cfy1 := ofy.q1
          have cfy2 := ofy.q2
          have cfy3 := ofy.q3
          have lfy := ofy.lt
          have cgx0 := ogx.q0
          have cgx1 := ogx.q1
          have cgx2 := ogx.q2
          have cgx3 := ogx.q3
          have lgx := ogx.lt
          have ch10 := oh1.q0
          have ch11 := oh1.q1
          have ch12 := oh1.q2
          have ch13 := oh1.q3
          have fh1 := oh1.fr
          have lh1 := oh1.lt
          obtain ⟨u4_1, u4_2, u4_3, u4_4, u4_5, u4_6, u4_7, u4_8, rfl⟩ := hvu4_.shape
          have Fu4_ := Hid.mk_ hvu4_
          clear hvu4_
          (try dsimp only); repeat' (first | go_values | go_skip | go_guarded | go_step | go_upon)
          refine (fMulQ _ (Fq3.out.keeps keepsB) (Foux_.out.keeps keepsB) sz3 (sz_pt bux) (by omega)).mono ?_
          rintro e w15 ⟨vu5_, rfl, hvu5_, hb15⟩
          have st : Steps _ w15 := hb15
          have Bn : Below w.heap.size w w15 := belowA st
          have kp : Keeps w14 w15 := Keeps.then_ keepsB st
          replace kk := kk.trans kp
          have nq : Blk w15 (w3.heap.size) 31 CA := Blk.stepsK st
          have npa : Blk w15 (p13) 43 #[.int .i64 x0, .int .i64 y0] := Blk.stepsK st
          have npb : Blk w15 (p14) 43 #[.int .i64 x1, .int .i64 y1] := Blk.stepsK st
          have npc : Blk w15 (wr.heap.size) 43 #[.int .i64 x3, .int .i64 y3] := Blk.stepsK st
          have nfx : Blk w15 (p17) 28 #[.bool t21, .slice t22 t23 t24, .bool t25, .slice t26 t27 t28] := Blk.stepsK st
          have nfy : Blk w15 (p18) 28 #[.bool t31, .slice t32 t33 t34, .bool t35, .slice t36 t37 t38] := Blk.stepsK st
          have ngx : Blk w15 (p19) 28 #[.bool oux_1, .slice oux_2 oux_3 oux_4, .bool oux_5, .slice oux_6 oux_7 oux_8] := Blk.stepsK st
          have ngy : Blk w15 (p20) 28 #[.bool ouy_1, .slice ouy_2 ouy_3 ouy_4, .bool ouy_5, .slice ouy_6 ouy_7 ouy_8] := Blk.stepsK st
          have nh1 : Blk w15 (w11.heap.size) 28 #[.bool u4_1, .slice u4_2 u4_3 u4_4, .bool u4_5, .slice u4_6 u4_7 u4_8] := Blk.stepsK st
          have nh2 : Blk w15 (w12.heap.size) 28 #[.bool u2_1, .slice u2_2 u2_3 u2_4, .bool u2_5, .slice u2_6 u2_7 u2_8] := Blk.stepsK st
          have nh3 := oh3.stp st
          clear cfy0 cfy1 cfy2 cfy3 lfy cgx0 cgx1 cgx2 cgx3 lgx ch10 ch11 ch12 ch13 fh1 lh1
          replace B := Bn
          replace oq := nq
          clear nq
          replace opa := npa
          clear npa
          replace opb := npb
          clear npb
          replace opc := npc
          clear npc
          replace ofx := nfx
          clear nfx
          replace ofy := nfy
          clear nfy
          replace ogx := ngx
          clear ngx
          replace ogy := ngy
          clear ngy
          replace oh1 := nh1
          clear nh1
          replace oh2 := nh2
          clear nh2
          replace oh3 := nh3
          clear nh3
          replace Fq0 := Hid.mk_ (Fq0.out.keeps kp)
          replace Fq1 := Hid.mk_ (Fq1.out.keeps kp)
          replace Fq2 := Hid.mk_ (Fq2.out.keeps kp)
          replace Fq3 := Hid.mk_ (Fq3.out.keeps kp)
          replace Foux_ := Hid.mk_ (Foux_.out.keeps kp)
          replace Fouy_ := Hid.mk_ (Fouy_.out.keeps kp)
          replace Fu1_ := Hid.mk_ (Fu1_.out.keeps kp)
          replace Fu2_ := Hid.mk_ (Fu2_.out.keeps kp)
          replace Fu3_ := Hid.mk_ (Fu3_.out.keeps kp)
          replace Fu4_ := Hid.mk_ (Fu4_.out.keeps kp)
          clear kp
          clear st
          have ch10 := oh1.q0
          have ch11 := oh1.q1
          have ch12 := oh1.q2
          have ch13 := oh1.q3
          have lh1 := oh1.lt
          have ch20 := oh2.q0
          have ch21 := oh2.q1
          have ch22 := oh2.q2
          have ch23 := oh2.q3
          have fh2 := oh2.fr
          have lh2 := oh2.lt
          obtain ⟨u5_1, u5_2, u5_3, u5_4, u5_5, u5_6, u5_7, u5_8, rfl⟩ := hvu5_.shape
          have Fu5_ := Hid.mk_ hvu5_
          clear hvu5_
          (try dsimp only); repeat' (first | go_values | go_skip | go_guarded | go_step | go_upon)
          refine (fAddQ _ (Fu4_.out.keeps keepsB) (Fu5_.out.keeps keepsB) (sz2.mul (sz_pt buy)) (sz3.mul (sz_pt bux)) (by omega)).mono ?_
          rintro e w16 ⟨vu6_, rfl, hvu6_, hb16⟩
          have st : Steps _ w16 := hb16
          have Bn : Below w.heap.size w w16 := belowA st
          have kp : Keeps w15 w16 := Keeps.then_ keepsB st
          replace kk := kk.trans kp
          have nq : Blk w16 (w3.heap.size) 31 CA := Blk.stepsK st
          have npa := opa.stp st
          have npb := opb.stp st
          have npc := opc.stp st
          have nfx := ofx.stp st
          have nfy := ofy.stp st
          have ngx := ogx.stp st
          have ngy := ogy.stp st
          have nh1 := oh1.stp st
          have nh2 : Blk w16 (w12.heap.size) 28 #[.bool u5_1, .slice u5_2 u5_3 u5_4, .bool u5_5, .slice u5_6 u5_7 u5_8] := Blk.stepsK st
          have nh3 := oh3.stp st
          clear ch10 ch11 ch12 ch13 lh1 ch20 ch21 ch22 ch23 fh2 lh2
          replace B := Bn
          replace oq := nq
          clear nq
          replace opa := npa
          clear npa
          replace opb := npb
          clear npb
          replace opc := npc
          clear npc
          replace ofx := nfx
          clear nfx
          replace ofy := nfy
          clear nfy
          replace ogx := ngx
          clear ngx
          replace ogy := ngy
          clear ngy
          replace oh1 := nh1
          clear nh1
          replace oh2 := nh2
          clear nh2
          replace oh3 := nh3
          clear nh3
          replace Fq0 := Hid.mk_ (Fq0.out.keeps kp)
          replace Fq1 := Hid.mk_ (Fq1.out.keeps kp)
          replace Fq2 := Hid.mk_ (Fq2.out.keeps kp)
          replace Fq3 := Hid.mk_ (Fq3.out.keeps kp)
          replace Foux_ := Hid.mk_ (Foux_.out.keeps kp)
          replace Fouy_ := Hid.mk_ (Fouy_.out.keeps kp)
          replace Fu1_ := Hid.mk_ (Fu1_.out.keeps kp)
          replace Fu2_ := Hid.mk_ (Fu2_.out.keeps kp)
          replace Fu3_ := Hid.mk_ (Fu3_.out.keeps kp)
          replace Fu4_ := Hid.mk_ (Fu4_.out.keeps kp)
          replace Fu5_ := Hid.mk_ (Fu5_.out.keeps kp)
          clear kp
          clear st
          have cpa0 := opa.q0
          have cpa1 := opa.q1
          have lpa := opa.lt
          have cpc0 := opc.q0
          have cpc1 := opc.q1
          have lpc := opc.lt
          have ch30 := oh3.q0
          have ch31 := oh3.q1
          have ch32 := oh3.q2
          have ch33 := oh3.q3
          have lh3 := oh3.lt
          obtain ⟨u6_1, u6_2, u6_3, u6_4, u6_5, u6_6, u6_7, u6_8, rfl⟩ := hvu6_.shape
          have Fu6_ := Hid.mk_ hvu6_
          clear hvu6_
          have zh3_16 : w13.heap.size < w16.heap.size := oh3.lt
          have zpa_16 : p13 < w16.heap.size := opa.lt
          have zpb_16 : p14 < w16.heap.size := opb.lt
          have zfx_16 : p17 < w16.heap.size := ofx.lt
          have zfy_16 : p18 < w16.heap.size := ofy.lt
          have zgx_16 : p19 < w16.heap.size := ogx.lt
          have zgy_16 : p20 < w16.heap.size := ogy.lt
          have zz16 := B.size
          have Gh3 := Fu3_.out
          rw [HX3.out] at Gh3
          have Kh3 := Hid.mk_ (Gh3.keeps keepsB)
          clear Gh3
          have Gh4 := Fu6_.out
          rw [HY3.out] at Gh4
          have Kh4 := Hid.mk_ (Gh4.keeps keepsB)
          clear Gh4
          (try dsimp only); repeat' (first | go_values | go_skip | go_guarded | go_step | go_upon)
          refine Reg.wp_chain_n (fun N0 D v W => Below w.heap.size w W ∧ Keeps w16 W ∧ N0 ≤ W.heap.size ∧ Blk W (w3.heap.size) 31 CA ∧ Blk W (p13) 43 #[.int .i64 x0, .int .i64 y0] ∧ Blk W (p14) 43 #[.int .i64 x1, .int .i64 y1] ∧ Blk W (wr.heap.size) 43 #[.int .i64 x3, .int .i64 y3] ∧ Blk W (p17) 28 #[.bool t21, .slice t22 t23 t24, .bool t25, .slice t26 t27 t28] ∧ Blk W (p18) 28 #[.bool t31, .slice t32 t33 t34, .bool t35, .slice t36 t37 t38] ∧ Blk W (p19) 28 #[.bool oux_1, .slice oux_2 oux_3 oux_4, .bool oux_5, .slice oux_6 oux_7 oux_8] ∧ Blk W (p20) 28 #[.bool ouy_1, .slice ouy_2 ouy_3 ouy_4, .bool ouy_5, .slice ouy_6 ouy_7 ouy_8] ∧ Blk W (w11.heap.size) 28 #[.bool u4_1, .slice u4_2 u4_3 u4_4, .bool u4_5, .slice u4_6 u4_7 u4_8] ∧ Blk W (w12.heap.size) 28 #[.bool u5_1, .slice u5_2 u5_3 u5_4, .bool u5_5, .slice u5_6 u5_7 u5_8] ∧ Blk W (w13.heap.size) 28 #[.bool u3_1, .slice u3_2 u3_3 u3_4, .bool u3_5, .slice u3_6 u3_7 u3_8] ∧ Blk W (w16.heap.size) 28 #[.bool u6_1, .slice u6_2 u6_3 u6_4, .bool u6_5, .slice u6_6 u6_7 u6_8])
            (Reg.inl [13, 14, 24, 25]) (Reg.gv [(13, IsFr), (14, fun z_ => z_ = .bool true), (24, IsFr), (25, fun z_ => z_ = .bool true)]) (gw [(13, GFr ((vx3 : Rat))), (24, GFr ((vy3 : Rat)))]) (fun _ => Keeps) (fun _ _ => False) (Reg.pl [(14, [(13, some 217)]), (25, [(24, some 228)]), (28, [(13, some 217), (14, some 218), (24, some 228), (25, some 229)])]) (Reg.pl [])
            (by kernel_rfl) (by kernel_rfl) (by kernel_rfl) (Reg.gv_some _ (by intro p hp; simp only [List.mem_cons, List.not_mem_nil, or_false] at hp; rcases hp with rfl | rfl | rfl | rfl <;> first | exact ⟨_, rfl⟩ | exact ⟨_, 0, rfl⟩ | exact ⟨_, none, 0, 0, rfl⟩ | exact ⟨_, false, none, 0, 0, rfl⟩ | exact ⟨_, false, none, 0, 0, false, none, 0, 0, rfl⟩)) (fun N0 hN0 => ⟨fun v => ?_, fun D v v' W hv hj => ?_, fun D v k j W W' x _ _ _ _ hk hg => gw_keeps _ (by intro p hp; simp only [List.mem_cons, List.not_mem_nil, or_false] at hp; rcases hp with rfl | rfl <;> first | exact GFr.keeps | exact GFrE.keeps | exact GNu.keeps | exact GNuE.keeps | exact GLi.keeps) hk hg, fun _ _ _ _ h => h.elim, fun ops' Q' hops hQ => ?_⟩)
          · exact ⟨belowB, keepsB, Nat.le_of_eq hN0.out, ownK, ownK, ownK, ownK, ownK, ownK, ownK, ownK, ownK, ownK, ownK, ownK⟩
          · obtain ⟨j0, jk, jn, b_q, b_pa, b_pb, b_pc, b_fx, b_fy, b_gx, b_gy, b_h1, b_h2, b_h3, b_h4⟩ := hj
            exact ⟨j0, jk, jn, b_q, b_pa, b_pb, b_pc, b_fx, b_fy, b_gx, b_gy, b_h1, b_h2, b_h3, b_h4⟩
          have i_q : w3.heap.size < N0 := by have e := hN0.out; (try simp only [World.size_alloc, World.size_setCell, World.size_drew, World.heap_drewN] at e); first | omega | (have h := oq.lt; omega)
          have i_pa : p13 < N0 := by have e := hN0.out; (try simp only [World.size_alloc, World.size_setCell, World.size_drew, World.heap_drewN] at e); first | omega | (have h := opa.lt; omega)
          have i_pb : p14 < N0 := by have e := hN0.out; (try simp only [World.size_alloc, World.size_setCell, World.size_drew, World.heap_drewN] at e); first | omega | (have h := opb.lt; omega)
          have i_pc : wr.heap.size < N0 := by have e := hN0.out; (try simp only [World.size_alloc, World.size_setCell, World.size_drew, World.heap_drewN] at e); first | omega | (have h := opc.lt; omega)
          have i_fx : p17 < N0 := by have e := hN0.out; (try simp only [World.size_alloc, World.size_setCell, World.size_drew, World.heap_drewN] at e); first | omega | (have h := ofx.lt; omega)
          have i_fy : p18 < N0 := by have e := hN0.out; (try simp only [World.size_alloc, World.size_setCell, World.size_drew, World.heap_drewN] at e); first | omega | (have h := ofy.lt; omega)
          have i_gx : p19 < N0 := by have e := hN0.out; (try simp only [World.size_alloc, World.size_setCell, World.size_drew, World.heap_drewN] at e); first | omega | (have h := ogx.lt; omega)
          have i_gy : p20 < N0 := by have e := hN0.out; (try simp only [World.size_alloc, World.size_setCell, World.size_drew, World.heap_drewN] at e); first | omega | (have h := ogy.lt; omega)
          have i_h1 : w11.heap.size < N0 := by have e := hN0.out; (try simp only [World.size_alloc, World.size_setCell, World.size_drew, World.heap_drewN] at e); first | omega | (have h := oh1.lt; omega)
          have i_h2 : w12.heap.size < N0 := by have e := hN0.out; (try simp only [World.size_alloc, World.size_setCell, World.size_drew, World.heap_drewN] at e); first | omega | (have h := oh2.lt; omega)
          have i_h3 : w13.heap.size < N0 := by have e := hN0.out; (try simp only [World.size_alloc, World.size_setCell, World.size_drew, World.heap_drewN] at e); first | omega | (have h := oh3.lt; omega)
          have i_h4 : w16.heap.size < N0 := by have e := hN0.out; (try simp only [World.size_alloc, World.size_setCell, World.size_drew, World.heap_drewN] at e); first | omega | (have h := oh4.lt; omega)
          have iw : w.heap.size ≤ N0 := by have e := hN0.out; (try simp only [World.size_alloc, World.size_setCell, World.size_drew, World.heap_drewN] at e); first | omega | (have h := B.size; omega)
          clear cpa0 cpa1 lpa cpc0 cpc1 lpc ch30 ch31 ch32 ch33 lh3
          clear hN0
          apply Reg.RC_pure (hc := rfl) (hst := rfl) (hw := rfl) (t := 204) (hd := rfl) (ht := Nat.le_of_ble_eq_true rfl)
          · intro D v' W' hc hj hf K hK
            go_step
            exact hK.out
          · rfl
          apply Reg.RC_pure (hc := rfl) (hst := rfl) (hw := rfl) (t := 205) (hd := rfl) (ht := Nat.le_of_ble_eq_true rfl)
          · intro D v' W' hc hj hf K hK
            go_step
            exact hK.out
          · rfl
          apply Reg.RC_pure (hc := rfl) (hst := rfl) (hw := rfl) (t := 206) (hd := rfl) (ht := Nat.le_of_ble_eq_true rfl)
          · intro D v' W' hc hj hf K hK
            go_step
            exact hK.out
          · rfl
          apply Reg.RC_pure (hc := rfl) (hst := rfl) (hw := by rw [hops]; rfl) (t := 207) (hd := rfl) (ht := Nat.le_of_ble_eq_true rfl)
          · intro D v' W' hc hj hf K hK
            go_step
            exact hK.out
          · rfl
          apply Reg.RC_pure (hc := rfl) (hst := rfl) (hw := by rw [hops]; rfl) (t := 208) (hd := rfl) (ht := Nat.le_of_ble_eq_true rfl)
          · intro D v' W' hc hj hf K hK
            go_step
            exact hK.out
          · rfl
          apply Reg.RC_pure (hc := rfl) (hst := rfl) (hw := rfl) (t := 209) (hd := rfl) (ht := Nat.le_of_ble_eq_true rfl)
          · intro D v' W' hc hj hf K hK
            go_step
            exact hK.out
          · rfl
          apply Reg.RC_pure (hc := rfl) (hst := rfl) (hw := rfl) (t := 210) (hd := rfl) (ht := Nat.le_of_ble_eq_true rfl)
          · intro D v' W' hc hj hf K hK
            go_step
            exact hK.out
          · rfl
          apply Reg.RC_pure (hc := rfl) (hst := rfl) (hw := by rw [hops]; rfl) (t := 211) (hd := rfl) (ht := Nat.le_of_ble_eq_true rfl)
          · intro D v' W' hc hj hf K hK
            obtain ⟨j0, jk, jn, b_q, b_pa, b_pb, b_pc, b_fx, b_fy, b_gx, b_gy, b_h1, b_h2, b_h3, b_h4⟩ := hj
            have c0 : W'.cell? ⟨w13.heap.size, 0, none⟩ = some (.bool u3_1) := b_h3.c 0 rfl
            have c1 : W'.cell? ⟨w13.heap.size, 1, none⟩ = some (.slice u3_2 u3_3 u3_4) := b_h3.c 1 rfl
            have c2 : W'.cell? ⟨w13.heap.size, 2, none⟩ = some (.bool u3_5) := b_h3.c 2 rfl
            have c3 : W'.cell? ⟨w13.heap.size, 3, none⟩ = some (.slice u3_6 u3_7 u3_8) := b_h3.c 3 rfl
            go_step
            exact hK.out
          · rfl
          apply Reg.RC_pure (hc := rfl) (hst := rfl) (hw := by rw [hops]; rfl) (t := 212) (hd := rfl) (ht := Nat.le_of_ble_eq_true rfl)
          · intro D v' W' hc hj hf K hK
            go_step
            exact hK.out
          · rfl
          apply Reg.RC_pure (hc := rfl) (hst := rfl) (hw := by rw [hops]; rfl) (t := 213) (hd := rfl) (ht := Nat.le_of_ble_eq_true rfl)
          · intro D v' W' hc hj hf K hK
            obtain ⟨j0, jk, jn, b_q, b_pa, b_pb, b_pc, b_fx, b_fy, b_gx, b_gy, b_h1, b_h2, b_h3, b_h4⟩ := hj
            have c0 : W'.cell? ⟨wr.heap.size, 0, none⟩ = some (.int .i64 x3) := b_pc.c 0 rfl
            have c1 : W'.cell? ⟨wr.heap.size, 1, none⟩ = some (.int .i64 y3) := b_pc.c 1 rfl
            go_step
            exact hK.out
          · rfl
          apply Reg.RC_pure (hc := rfl) (hst := rfl) (hw := by rw [hops]; rfl) (t := 214) (hd := rfl) (ht := Nat.le_of_ble_eq_true rfl)
          · intro D v' W' hc hj hf K hK
            go_step
            exact hK.out
          · rfl
          apply Reg.RC_pure (hc := rfl) (hst := rfl) (hw := by rw [hops]; rfl) (t := 215) (hd := rfl) (ht := Nat.le_of_ble_eq_true rfl)
          · intro D v' W' hc hj hf K hK
            obtain ⟨j0, jk, jn, b_q, b_pa, b_pb, b_pc, b_fx, b_fy, b_gx, b_gy, b_h1, b_h2, b_h3, b_h4⟩ := hj
            have c0 : W'.cell? ⟨p13, 0, none⟩ = some (.int .i64 x0) := b_pa.c 0 rfl
            have c1 : W'.cell? ⟨p13, 1, none⟩ = some (.int .i64 y0) := b_pa.c 1 rfl
            go_step
            exact hK.out
          · rfl
          apply Reg.RC_pure (hc := rfl) (hst := rfl) (hw := by rw [hops]; rfl) (t := 216) (hd := rfl) (ht := Nat.le_of_ble_eq_true rfl)
          · intro D v' W' hc hj hf K hK
            go_step
            rw [wvx3]
            exact hK.out
          · rfl
          refine Reg.RC_call rfl (by intro t ht; cases ht; exact Nat.le_of_ble_eq_true rfl) (by rw [hops]; rfl) (fun D v' W' hc hj hf K hK => ?_) ?_
          · obtain ⟨j0, jk, jn, b_q, b_pa, b_pb, b_pc, b_fx, b_fy, b_gx, b_gy, b_h1, b_h2, b_h3, b_h4⟩ := hj
            clear hf
            go_step
            refine (lofI vx3 W' bvx3).mono ?_
            rintro e W2 ⟨u, rfl, hu, hs⟩
            obtain ⟨ovx3_1, ovx3_2, ovx3_3, ovx3_4, ovx3_5, ovx3_6, ovx3_7, ovx3_8, rfl⟩ := hu.shape
            exact hK.out _ W2 (Keeps.steps hs) ⟨below_steps j0 (Nat.le_refl _) hs, jk.then_ hs, Nat.le_trans jn hs.size, b_q.steps hs, b_pa.steps hs, b_pb.steps hs, b_pc.steps hs, b_fx.steps hs, b_fy.steps hs, b_gx.steps hs, b_gy.steps hs, b_h1.steps hs, b_h2.steps hs, b_h3.steps hs, b_h4.steps hs⟩ hu ⟨_, _, _, _, _, _, _, _, rfl⟩
          rintro _ ⟨ovx3_1, ovx3_2, ovx3_3, ovx3_4, ovx3_5, ovx3_6, ovx3_7, ovx3_8, rfl⟩
          refine Reg.RC_at (b := ⟨#[_,_,_,_,_,_,_,_,_,_,_,_,_,_,_,_,_,_,_,_,_,_,_,_,_,_,_,_,_,_,_,_,_,_,_,_,_,_,_,_,_,_,_,_,_,_,_,_,_,_,_,_,_,_,_,_,_,_,_,_,_,_,_,_,_,_,_,_,_,_,_,_,_,_,_,_,_,_,_,_,_,_,_,_,_,_,_,_,_,_,_,_,_,_,_,_,_,_,_,_,_,_,_,_,_,_,_,_,_,_,_,_,_,_,_,_,_,_,_,_,_,_,_,_,_,_,_,_,_,_,_,_,_,_,_,_,_,_,_,_,_,_,_,_,_,_,_,_,_,_,_,_,_,_,_,_,_,_,_,_,_,_,_,_,_,_,_,_,_,_,_,_,_,_,_,_,_,_,_,_,_,_,_,_,_,_,_,_,_,_,_,_,_,_,_,_,_,_,_,_,_,_,_,_,_,_,_,_,_,_,_,_,_,_,_,_,_,_,_,_,_,_,_,_,_,_,_,_,_,_,_,_,_], _⟩) rfl ?_
          refine Reg.RC_call rfl (by intro t ht; cases ht; exact Nat.le_of_ble_eq_true rfl) (by rw [hops]; rfl) (fun D v' W' hc hj hf K hK => ?_) ?_
          · obtain ⟨j0, jk, jn, b_q, b_pa, b_pb, b_pc, b_fx, b_fy, b_gx, b_gy, b_h1, b_h2, b_h3, b_h4⟩ := hj
            have g13 : GFr ((vx3 : Rat)) _ W' := (hf (13, some 217) (.head _) rfl).2.2
            have g13 : FR W' _ ((vx3 : Rat)) := g13
            clear hf
            go_step
            refine (rsameR W' (Kh3.out.keeps jk) g13).mono ?_
            rintro e W2 ⟨rfl, hs⟩
            exact hK.out _ W2 (Keeps.steps hs) ⟨below_steps j0 (Nat.le_refl _) hs, jk.then_ hs, Nat.le_trans jn hs.size, b_q.steps hs, b_pa.steps hs, b_pb.steps hs, b_pc.steps hs, b_fx.steps hs, b_fy.steps hs, b_gx.steps hs, b_gy.steps hs, b_h1.steps hs, b_h2.steps hs, b_h3.steps hs, b_h4.steps hs⟩ trivial rfl
          rintro _ rfl
          refine Reg.RC_at (b := ⟨#[_,_,_,_,_,_,_,_,_,_,_,_,_,_,_,_,_,_,_,_,_,_,_,_,_,_,_,_,_,_,_,_,_,_,_,_,_,_,_,_,_,_,_,_,_,_,_,_,_,_,_,_,_,_,_,_,_,_,_,_,_,_,_,_,_,_,_,_,_,_,_,_,_,_,_,_,_,_,_,_,_,_,_,_,_,_,_,_,_,_,_,_,_,_,_,_,_,_,_,_,_,_,_,_,_,_,_,_,_,_,_,_,_,_,_,_,_,_,_,_,_,_,_,_,_,_,_,_,_,_,_,_,_,_,_,_,_,_,_,_,_,_,_,_,_,_,_,_,_,_,_,_,_,_,_,_,_,_,_,_,_,_,_,_,_,_,_,_,_,_,_,_,_,_,_,_,_,_,_,_,_,_,_,_,_,_,_,_,_,_,_,_,_,_,_,_,_,_,_,_,_,_,_,_,_,_,_,_,_,_,_,_,_,_,_,_,_,_,_,_,_,_,_,_,_,_,_,_,_,_,_,_,_], _⟩) rfl ?_
          apply Reg.RC_pure (hc := rfl) (hst := rfl) (hw := by rw [hops]; rfl) (t := 219) (hd := rfl) (ht := Nat.le_of_ble_eq_true rfl)
          · intro D v' W' hc hj hf K hK
            go_step
            exact hK.out
          · rfl
          apply Reg.RC_pure (hc := rfl) (hst := rfl) (hw := rfl) (t := 220) (hd := rfl) (ht := Nat.le_of_ble_eq_true rfl)
          · intro D v' W' hc hj hf K hK
            go_step
            exact hK.out
          · rfl
          apply Reg.RC_pure (hc := rfl) (hst := rfl) (hw := rfl) (t := 221) (hd := rfl) (ht := Nat.le_of_ble_eq_true rfl)
          · intro D v' W' hc hj hf K hK
            go_step
            exact hK.out
          · rfl
          apply Reg.RC_pure (hc := rfl) (hst := rfl) (hw := by rw [hops]; rfl) (t := 222) (hd := rfl) (ht := Nat.le_of_ble_eq_true rfl)
          · intro D v' W' hc hj hf K hK
            obtain ⟨j0, jk, jn, b_q, b_pa, b_pb, b_pc, b_fx, b_fy, b_gx, b_gy, b_h1, b_h2, b_h3, b_h4⟩ := hj
            have c0 : W'.cell? ⟨w16.heap.size, 0, none⟩ = some (.bool u6_1) := b_h4.c 0 rfl
            have c1 : W'.cell? ⟨w16.heap.size, 1, none⟩ = some (.slice u6_2 u6_3 u6_4) := b_h4.c 1 rfl
            have c2 : W'.cell? ⟨w16.heap.size, 2, none⟩ = some (.bool u6_5) := b_h4.c 2 rfl
            have c3 : W'.cell? ⟨w16.heap.size, 3, none⟩ = some (.slice u6_6 u6_7 u6_8) := b_h4.c 3 rfl
            go_step
            exact hK.out
          · rfl
          apply Reg.RC_pure (hc := rfl) (hst := rfl) (hw := by rw [hops]; rfl) (t := 223) (hd := rfl) (ht := Nat.le_of_ble_eq_true rfl)
          · intro D v' W' hc hj hf K hK
            go_step
            exact hK.out
          · rfl
          apply Reg.RC_pure (hc := rfl) (hst := rfl) (hw := by rw [hops]; rfl) (t := 224) (hd := rfl) (ht := Nat.le_of_ble_eq_true rfl)
          · intro D v' W' hc hj hf K hK
            obtain ⟨j0, jk, jn, b_q, b_pa, b_pb, b_pc, b_fx, b_fy, b_gx, b_gy, b_h1, b_h2, b_h3, b_h4⟩ := hj
            have c0 : W'.cell? ⟨wr.heap.size, 0, none⟩ = some (.int .i64 x3) := b_pc.c 0 rfl
            have c1 : W'.cell? ⟨wr.heap.size, 1, none⟩ = some (.int .i64 y3) := b_pc.c 1 rfl
            go_step
            exact hK.out
          · rfl
          apply Reg.RC_pure (hc := rfl) (hst := rfl) (hw := by rw [hops]; rfl) (t := 225) (hd := rfl) (ht := Nat.le_of_ble_eq_true rfl)
          · intro D v' W' hc hj hf K hK
            go_step
            exact hK.out
          · rfl
          apply Reg.RC_pure (hc := rfl) (hst := rfl) (hw := by rw [hops]; rfl) (t := 226) (hd := rfl) (ht := Nat.le_of_ble_eq_true rfl)
          · intro D v' W' hc hj hf K hK
            obtain ⟨j0, jk, jn, b_q, b_pa, b_pb, b_pc, b_fx, b_fy, b_gx, b_gy, b_h1, b_h2, b_h3, b_h4⟩ := hj
            have c0 : W'.cell? ⟨p13, 0, none⟩ = some (.int .i64 x0) := b_pa.c 0 rfl
            have c1 : W'.cell? ⟨p13, 1, none⟩ = some (.int .i64 y0) := b_pa.c 1 rfl
            go_step
            exact hK.out
          · rfl
          apply Reg.RC_pure (hc := rfl) (hst := rfl) (hw := by rw [hops]; rfl) (t := 227) (hd := rfl) (ht := Nat.le_of_ble_eq_true rfl)
          · intro D v' W' hc hj hf K hK
            go_step
            rw [wvy3]
            exact hK.out
          · rfl
          refine Reg.RC_call rfl (by intro t ht; cases ht; exact Nat.le_of_ble_eq_true rfl) (by rw [hops]; rfl) (fun D v' W' hc hj hf K hK => ?_) ?_
          · obtain ⟨j0, jk, jn, b_q, b_pa, b_pb, b_pc, b_fx, b_fy, b_gx, b_gy, b_h1, b_h2, b_h3, b_h4⟩ := hj
            clear hf
            go_step
            refine (lofI vy3 W' bvy3).mono ?_
            rintro e W2 ⟨u, rfl, hu, hs⟩
            obtain ⟨ovy3_1, ovy3_2, ovy3_3, ovy3_4, ovy3_5, ovy3_6, ovy3_7, ovy3_8, rfl⟩ := hu.shape
            exact hK.out _ W2 (Keeps.steps hs) ⟨below_steps j0 (Nat.le_refl _) hs, jk.then_ hs, Nat.le_trans jn hs.size, b_q.steps hs, b_pa.steps hs, b_pb.steps hs, b_pc.steps hs, b_fx.steps hs, b_fy.steps hs, b_gx.steps hs, b_gy.steps hs, b_h1.steps hs, b_h2.steps hs, b_h3.steps hs, b_h4.steps hs⟩ hu ⟨_, _, _, _, _, _, _, _, rfl⟩
          rintro _ ⟨ovy3_1, ovy3_2, ovy3_3, ovy3_4, ovy3_5, ovy3_6, ovy3_7, ovy3_8, rfl⟩
          refine Reg.RC_at (b := ⟨#[_,_,_,_,_,_,_,_,_,_,_,_,_,_,_,_,_,_,_,_,_,_,_,_,_,_,_,_,_,_,_,_,_,_,_,_,_,_,_,_,_,_,_,_,_,_,_,_,_,_,_,_,_,_,_,_,_,_,_,_,_,_,_,_,_,_,_,_,_,_,_,_,_,_,_,_,_,_,_,_,_,_,_,_,_,_,_,_,_,_,_,_,_,_,_,_,_,_,_,_,_,_,_,_,_,_,_,_,_,_,_,_,_,_,_,_,_,_,_,_,_,_,_,_,_,_,_,_,_,_,_,_,_,_,_,_,_,_,_,_,_,_,_,_,_,_,_,_,_,_,_,_,_,_,_,_,_,_,_,_,_,_,_,_,_,_,_,_,_,_,_,_,_,_,_,_,_,_,_,_,_,_,_,_,_,_,_,_,_,_,_,_,_,_,_,_,_,_,_,_,_,_,_,_,_,_,_,_,_,_,_,_,_,_,_,_,_,_,_,_,_,_,_,_,_,_,_,_,_,_,_,_,_], _⟩) rfl ?_
          refine Reg.RC_call rfl (by intro t ht; cases ht; exact Nat.le_of_ble_eq_true rfl) (by rw [hops]; rfl) (fun D v' W' hc hj hf K hK => ?_) ?_
          · obtain ⟨j0, jk, jn, b_q, b_pa, b_pb, b_pc, b_fx, b_fy, b_gx, b_gy, b_h1, b_h2, b_h3, b_h4⟩ := hj
            have g24 : GFr ((vy3 : Rat)) _ W' := (hf (24, some 228) (.head _) rfl).2.2
            have g24 : FR W' _ ((vy3 : Rat)) := g24
            clear hf
            go_step
            refine (rsameR W' (Kh4.out.keeps jk) g24).mono ?_
            rintro e W2 ⟨rfl, hs⟩
            exact hK.out _ W2 (Keeps.steps hs) ⟨below_steps j0 (Nat.le_refl _) hs, jk.then_ hs, Nat.le_trans jn hs.size, b_q.steps hs, b_pa.steps hs, b_pb.steps hs, b_pc.steps hs, b_fx.steps hs, b_fy.steps hs, b_gx.steps hs, b_gy.steps hs, b_h1.steps hs, b_h2.steps hs, b_h3.steps hs, b_h4.steps hs⟩ trivial rfl
          rintro _ rfl
          refine Reg.RC_at (b := ⟨#[_,_,_,_,_,_,_,_,_,_,_,_,_,_,_,_,_,_,_,_,_,_,_,_,_,_,_,_,_,_,_,_,_,_,_,_,_,_,_,_,_,_,_,_,_,_,_,_,_,_,_,_,_,_,_,_,_,_,_,_,_,_,_,_,_,_,_,_,_,_,_,_,_,_,_,_,_,_,_,_,_,_,_,_,_,_,_,_,_,_,_,_,_,_,_,_,_,_,_,_,_,_,_,_,_,_,_,_,_,_,_,_,_,_,_,_,_,_,_,_,_,_,_,_,_,_,_,_,_,_,_,_,_,_,_,_,_,_,_,_,_,_,_,_,_,_,_,_,_,_,_,_,_,_,_,_,_,_,_,_,_,_,_,_,_,_,_,_,_,_,_,_,_,_,_,_,_,_,_,_,_,_,_,_,_,_,_,_,_,_,_,_,_,_,_,_,_,_,_,_,_,_,_,_,_,_,_,_,_,_,_,_,_,_,_,_,_,_,_,_,_,_,_,_,_,_,_,_,_,_,_,_,_], _⟩) rfl ?_
          apply Reg.RC_pure (hc := rfl) (hst := rfl) (hw := by rw [hops]; rfl) (t := 230) (hd := rfl) (ht := Nat.le_of_ble_eq_true rfl)
          · intro D v' W' hc hj hf K hK
            go_step
            exact hK.out
          · rfl
          apply Reg.RC_pure (hc := rfl) (hst := rfl) (hw := rfl) (t := 231) (hd := rfl) (ht := Nat.le_of_ble_eq_true rfl)
          · intro D v' W' hc hj hf K hK
            go_step
            exact hK.out
          · rfl
          refine Reg.RC_end (fun Dn v' w17 hd hj hf => ?_)
          obtain ⟨j0, jk, jn, b_q, b_pa, b_pb, b_pc, b_fx, b_fy, b_gx, b_gy, b_h1, b_h2, b_h3, b_h4⟩ := hj
          have B := j0
          have oq := b_q
          clear b_q
          have opa := b_pa
          clear b_pa
          have opb := b_pb
          clear b_pb
          have opc := b_pc
          clear b_pc
          have ofx := b_fx
          clear b_fx
          have ofy := b_fy
          clear b_fy
          have ogx := b_gx
          clear b_gx
          have ogy := b_gy
          clear b_gy
          have oh1 := b_h1
          clear b_h1
          have oh2 := b_h2
          clear b_h2
          have oh3 := b_h3
          clear b_h3
          have oh4 := b_h4
          clear b_h4
          have Fovx3_ : Hid (FR w17 (.agg #[.bool ovx3_1, .slice ovx3_2 ovx3_3 ovx3_4, .bool ovx3_5, .slice ovx3_6 ovx3_7 ovx3_8]) ((vx3 : Rat))) := (hf (13, some 217) (.head _) rfl).2.2
          have Fovy3_ : Hid (FR w17 (.agg #[.bool ovy3_1, .slice ovy3_2 ovy3_3 ovy3_4, .bool ovy3_5, .slice ovy3_6 ovy3_7 ovy3_8]) ((vy3 : Rat))) := (hf (24, some 228) (.tail _ (.tail _ (.head _))) rfl).2.2
          replace Fq0 := Hid.mk_ (Fq0.out.keeps jk)
          replace Fq1 := Hid.mk_ (Fq1.out.keeps jk)
          replace Fq2 := Hid.mk_ (Fq2.out.keeps jk)
          replace Fq3 := Hid.mk_ (Fq3.out.keeps jk)
          replace Foux_ := Hid.mk_ (Foux_.out.keeps jk)
          replace Fouy_ := Hid.mk_ (Fouy_.out.keeps jk)
          replace Fu1_ := Hid.mk_ (Fu1_.out.keeps jk)
          replace Fu2_ := Hid.mk_ (Fu2_.out.keeps jk)
          replace Fu3_ := Hid.mk_ (Fu3_.out.keeps jk)
          replace Fu4_ := Hid.mk_ (Fu4_.out.keeps jk)
          replace Fu5_ := Hid.mk_ (Fu5_.out.keeps jk)
          replace Fu6_ := Hid.mk_ (Fu6_.out.keeps jk)
          replace Kh3 := Hid.mk_ (Kh3.out.keeps jk)
          replace Kh4 := Hid.mk_ (Kh4.out.keeps jk)
          replace kk := kk.trans jk
          clear hd hf jk j0
          refine hQ _ _ ?_
          clear hQ hops Q' ops'
          (try dsimp only); repeat' (first | go_values | go_skip | go_guarded | go_step | go_upon)
          go_roundw
          case rel => exact ⟨4, by omega, by omega, by go_num, ownK, ownK, ownK, belowB, kk.trans keepsB⟩
          case measure => simp [intOf]
        · skip
          rw [show ((4 : Nat) : Int) = 4 from rfl]
          repeat' (first | go_values | go_skip | go_guarded | go_step | go_upon)
          go_returns
          exact ⟨rfl, belowB⟩

end Go.Proofs.Ytibdehlmflaodaa
