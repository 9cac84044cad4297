import Derived.Test.YtibdehlmflaodaaCQx
import Derived.Deep.DeepCutAuto
namespace Go.Proofs.Ytibdehlmflaodaa
open Go.RowKit
structure GOOD (n : Nat) (re im dx dy : Int) : Prop where
  hn : (n : Int) ≤ 40
  hre : -1000 ≤ re ∧ re ≤ 1000
  him : -1000 ≤ im ∧ im ≤ 1000
  hnz : ¬ (re = 0 ∧ im = 0)
  hdx : -1048576 ≤ dx ∧ dx ≤ 1048576
  hdy : -1048576 ≤ dy ∧ dy ≤ 1048576
theorem infoP : (Try.prog.info? 43).map (fun i => (i.zero, i.size, i.bytes)) = some (some (.agg #[.int .i64 0, .int .i64 0]), 2, 16) := by kernel_rfl
theorem mv_prods {n : Nat} {re im dx dy x y : Int} (g : GOOD n re im dx dy) (h : okp x y) : (-1048576000 ≤ x * re ∧ x * re ≤ 1048576000) ∧ (-1048576000 ≤ y * im ∧ y * im ≤ 1048576000) ∧ (-1048576000 ≤ x * im ∧ x * im ≤ 1048576000) ∧ (-1048576000 ≤ y * re ∧ y * re ≤ 1048576000) := by
  obtain ⟨h1, h2, h3, h4⟩ := h
  exact ⟨mul_bound h1 h2 g.hre.1 g.hre.2, mul_bound h3 h4 g.him.1 g.him.2, mul_bound h1 h2 g.him.1 g.him.2, mul_bound h3 h4 g.hre.1 g.hre.2⟩
theorem mv_i64 {l : PL} {n : Nat} {re im dx dy : Int} (g : GOOD n re im dx dy) (h : ∀ i, i < l.length → okp (pt l i).1 (pt l i).2) : ∀ k, -9223372036854775808 ≤ ((l.map (mv re im dx dy)).getD k (0, 0)).1 ∧ ((l.map (mv re im dx dy)).getD k (0, 0)).1 ≤ 9223372036854775807 ∧ -9223372036854775808 ≤ ((l.map (mv re im dx dy)).getD k (0, 0)).2 ∧ ((l.map (mv re im dx dy)).getD k (0, 0)).2 ≤ 9223372036854775807 := by
  intro k
  rcases Nat.lt_or_ge k l.length with hk | hk
  · have e : (l.map (mv re im dx dy)).getD k (0, 0) = mv re im dx dy (pt l k) := by unfold pt; simp [List.getD, hk]
    rw [e]
    have p := mv_prods g (h k hk)
    have := g.hdx
    have := g.hdy
    unfold mv
    dsimp only
    omega
  · have e : (l.map (mv re im dx dy)).getD k (0, 0) = (0, 0) := by simp [List.getD, hk]
    rw [e]; decide
theorem mv_pt {l : PL} {re im dx dy : Int} {i : Nat} (h : i < l.length) : pt (l.map (mv re im dx dy)) i = mv re im dx dy (pt l i) := by unfold pt; simp [List.getD, h]
theorem mv_steps (re im dx dy : Int) (l : PL) : ∃ M : Nat → PL, M 0 = [] ∧ (∀ i, i < l.length → M (i + 1) = M i ++ [mv re im dx dy (pt l i)]) ∧ M l.length = l.map (mv re im dx dy) :=
  ⟨fun i => (l.take i).map (mv re im dx dy), rfl, fun i hi => by
    dsimp only
    rw [List.take_succ_eq_append_getElem hi, List.map_append]
    unfold pt
    simp [List.getD, hi], by simp⟩
def SlcAt (x : Value) : Prop := ∃ g, x = .slice (some ⟨g, 0, none⟩) 1 1
set_option maxHeartbeats 6400000 in
set_option maxRecDepth 1000000 in
theorem same_walk {v : Value} {l : PL} (k : Nat → Int) (re im dx dy : Int) (w : World) (hv : Pts w v l) (hb : ∀ i, -9223372036854775808 ≤ k i ∧ k i ≤ 9223372036854775807) :
    Calls Try.prog 4 #[v, .agg #[.int .i64 (k 0), .int .i64 (k 1), .int .i64 (k 2), .int .i64 (k 3)], .int .i64 re, .int .i64 im, .int .i64 dx, .int .i64 dy] w fun e w' => e = .returned (.bool true) ∧ Below w.heap.size w w' := by
  by_cases hl : 40 < l.length
  · obtain ⟨ao, cap, rfl⟩ := hv.shape
    obtain ⟨n, hln⟩ : ∃ n, l.length = n := ⟨_, rfl⟩
    rw [hln] at hl ⊢
    clear hv hln hb
    have g1 : (40 : Int) < (n : Int) := by omega
    go_enter Try.func4, Try.ntmps4
    go_wp2_with fail
    refine (lalive20 _).mono ?_
    rintro e w1 ⟨rfl, hs1⟩
    have B : Below w.heap.size w w1 := belowA hs1
    clear hs1
    go_wp2
    go_returns
    exact ⟨rfl, belowB⟩
  obtain ⟨i0, hi, hz0, hz1, hz2⟩ := info_parts infoP
  have hk4 : ∀ i, i < 4 → (#[.int .i64 (k 0), .int .i64 (k 1), .int .i64 (k 2), .int .i64 (k 3)] : Array Value)[i]? = some (.int .i64 (k i)) := fun i hi => by rcases (show i = 0 ∨ i = 1 ∨ i = 2 ∨ i = 3 by omega) with rfl | rfl | rfl | rfl <;> rfl
  have hl2 : l.length ≤ 1000 := by omega
  have qc : ∀ w', Steps w w' → Calls Try.prog 8 #[v, .agg #[.int .i64 (k 0), .int .i64 (k 1), .int .i64 (k 2), .int .i64 (k 3)]] w' (CodeP w' l k) := fun w' hs => qcode k w' (hv.steps hs) hl2 hb
  have qt : ∀ w', Steps w w' → Calls Try.prog 8 #[v, .agg #[.int .i64 (k 2), .int .i64 (k 0), .int .i64 (k 3), .int .i64 (k 1)]] w' (CodeP w' l k) := fun w' hs => by
    have := qcode (kT k) w' (hv.steps hs) hl2 (fun i => hb _)
    unfold CodeP at this ⊢
    rw [codeS_turn] at this
    exact this
  have ck : ∀ w', Steps w w' → Calls Try.prog 11 #[v] w' fun e w2 => e = .returned (.int .i64 (chkP l)) ∧ Steps w' w2 := fun w' hs => rcheckP w' (hv.steps hs) hl2
  have hm2 : (l.map (mv re im dx dy)).length ≤ 1000 := by rw [List.length_map]; exact hl2
  have mc : ∀ w' o, Pts w' o (l.map (mv re im dx dy)) → Calls Try.prog 11 #[o] w' fun e w2 => e = .returned (.int .i64 (chkP (l.map (mv re im dx dy)))) ∧ Steps w' w2 := fun w' o h => rcheckP w' h hm2
  have mq : ¬ (re = 0 ∧ im = 0) → chkP l = 0 → chkP (l.map (mv re im dx dy)) = 0 → ∀ w' o, Pts w' o (l.map (mv re im dx dy)) → Calls Try.prog 8 #[o, .agg #[.int .i64 (k 0), .int .i64 (k 1), .int .i64 (k 2), .int .i64 (k 3)]] w' fun e w2 => ∃ u, e = .returned (.tuple #[.agg u, .int .i64 (codeS l k).1]) ∧ QM w2 u (kA (codeS l k).2) (fun i => cP (cA (codeS l k).2 i) (codeS l k).2.n) (fun i => cQ (cA (codeS l k).2 i) (codeS l k).2.n) ∧ Steps w' w2 := fun hz h0 h1 w' o h => by
    obtain ⟨e1, e2, e3⟩ := codeS_mv k re im dx dy hz h0 h1 (by simp) (fun i hi => mv_pt hi)
    refine (qcode k w' h hm2 hb).mono ?_
    rintro e w2 ⟨u, rfl, hq, hs⟩
    obtain ⟨cs, rfl, qm⟩ := hq.qm
    rw [e2, show (fun i => cP (cA (codeS (l.map (mv re im dx dy)) k).2 i) (codeS (l.map (mv re im dx dy)) k).2.n) = _ from funext fun i => (e3 i).1, show (fun i => cQ (cA (codeS (l.map (mv re im dx dy)) k).2 i) (codeS (l.map (mv re im dx dy)) k).2.n) = _ from funext fun i => (e3 i).2] at qm
    exact ⟨cs, by rw [e1], qm, hs⟩
  have mo : ∀ (w' : World) (base m : Nat) (o : Value), chkP l = 0 → GOOD l.length re im dx dy → w'.ownsRow base 43 2 o m (pcs (l.map (mv re im dx dy))) → Pts w' o (l.map (mv re im dx dy)) := fun _ _ _ _ h0 g h => Pts.own h (mv_i64 g fun i hi => chk_pts h0 i hi)
  have hat : ∀ {ao : Option Addr} {cap : Nat}, v = .slice ao l.length cap → ∀ a, a < l.length → ∃ b o, ao = some ⟨b, o, none⟩ ∧ b < w.heap.size ∧ w.cell? ⟨b, o + a * 2, none⟩ = some (.int .i64 (pt l a).1) ∧ w.cell? ⟨b, o + a * 2 + 1, none⟩ = some (.int .i64 (pt l a).2) := fun e a ha => (e ▸ hv).at ha
  have hok : chkP l = 0 → ∀ i, i < l.length → okp (pt l i).1 (pt l i).2 := fun h i hi => chk_pts h i hi
  have hf1 := fun i => (codeS_fits (l := l) k i).1
  have hf2 := fun i => (codeS_fits (l := l) k i).2
  unfold CodeP at qc qt
  obtain ⟨M, M0, M1, M2⟩ := mv_steps re im dx dy l
  rw [← M2] at mc mq mo
  obtain ⟨e0, he0⟩ : ∃ z, (codeS l k).1 = z := ⟨_, rfl⟩
  obtain ⟨A0, hA0⟩ : ∃ z, (codeS l k).2 = z := ⟨_, rfl⟩
  rw [hA0] at qc qt hf1 hf2 mq
  rw [he0] at qc qt mq
  obtain ⟨cc, hcc⟩ : ∃ z, chkP l = z := ⟨_, rfl⟩
  rw [hcc] at ck mq mo hok
  obtain ⟨cm, hcm⟩ : ∃ z, chkP (M l.length) = z := ⟨_, rfl⟩
  rw [hcm] at mc mq
  have hcap : l.length ≤ 40 := by omega
  clear hA0 he0 hcc hcm hb M2 hm2 hl2 hl
  obtain ⟨ao, cap, rfl⟩ := hv.shape
  have hcap2 : l.length ≤ cap := by have := hv.cells; omega
  have hat := hat rfl
  obtain ⟨n, hln⟩ : ∃ n, l.length = n := ⟨_, rfl⟩
  obtain ⟨P, hP⟩ : ∃ P, pt l = P := ⟨_, rfl⟩
  rw [hln] at qc qt ck mc mq mo hat hok M1 hcap hcap2 ⊢
  rw [hP] at hat hok M1
  clear hln hv hP
  have HM0 := Hid.mk_ M0
  have HM1 := Hid.mk_ M1
  have Hat := Hid.mk_ hat
  have Hok := Hid.mk_ hok
  have Hmq := Hid.mk_ mq
  have Hmo := Hid.mk_ mo
  have Hi := Hid.mk_ hi
  have Hz := Hid.mk_ (And.intro hz0 (And.intro hz1 hz2))
  clear M0 M1 hat hok mq mo hi hz0 hz1 hz2
  go_enter Try.func4, Try.ntmps4
  go_wp2_with fail
  refine (lalive20 _).mono ?_
  rintro e w1 ⟨rfl, hs1⟩
  have oa : Blk w1 (w.heap.size) 23 #[.int .i64 (k 0), .int .i64 (k 1), .int .i64 (k 2), .int .i64 (k 3)] := Blk.stepsK hs1
  have B : Below w.heap.size w w1 := belowA hs1
  clear hs1
  go_upto_region 2 with fail
  go_cut [74] (fun c wx => (c = .bool true ∨ (c = .bool false ∧ GOOD n re im dx dy ∧ cc = 0)) ∧ Blk wx (w.heap.size) 23 #[.int .i64 (k 0), .int .i64 (k 1), .int .i64 (k 2), .int .i64 (k 3)] ∧ Below w.heap.size w wx)
  case first =>
    have g0 : ¬ (40 : Int) < (n : Int) := by omega
    by_cases g1 : re < -1000
    · go_wp2_with fail
      go_meet
      exact ⟨.inl rfl, ownK, belowB⟩
    by_cases g2 : 1000 < re
    · go_wp2_with fail
      go_meet
      exact ⟨.inl rfl, ownK, belowB⟩
    by_cases g3 : im < -1000
    · go_wp2_with fail
      go_meet
      exact ⟨.inl rfl, ownK, belowB⟩
    by_cases g4 : 1000 < im
    · go_wp2_with fail
      go_meet
      exact ⟨.inl rfl, ownK, belowB⟩
    by_cases gr : re = 0
    · have gr' : (re == 0) = true := by simpa using gr
      have Gr := Hid.mk_ gr
      clear gr
      by_cases gi : im = 0
      · have gi' : (im == 0) = true := by simpa using gi
        clear gi
        go_wp2_with fail
        go_meet
        exact ⟨.inl rfl, ownK, belowB⟩
      · have gi' : (im == 0) = false := by simpa using gi
        by_cases g6 : dx < -1048576
        · go_wp2_with fail
          go_meet
          exact ⟨.inl rfl, ownK, belowB⟩
        by_cases g7 : 1048576 < dx
        · go_wp2_with fail
          go_meet
          exact ⟨.inl rfl, ownK, belowB⟩
        by_cases g8 : dy < -1048576
        · go_wp2_with fail
          go_meet
          exact ⟨.inl rfl, ownK, belowB⟩
        by_cases g9 : 1048576 < dy
        · go_wp2_with fail
          go_meet
          exact ⟨.inl rfl, ownK, belowB⟩
        go_wp2_with fail
        refine (ck _ belowB).mono ?_
        rintro e w2 ⟨rfl, hs⟩
        have oa2 := oa.steps hs
        have B2 := below_steps B (Nat.le_refl _) hs
        clear hs
        by_cases gc : cc = 0
        · subst gc
          go_wp2_with fail
          go_meet
          exact ⟨.inr ⟨rfl, ⟨by omega, by omega, by omega, by omega, by omega, by omega⟩, trivial⟩, ownK, belowB⟩
        · have gc' : (cc != 0) = true := by simpa using gc
          go_wp2_with fail
          go_meet
          exact ⟨.inl rfl, ownK, belowB⟩
    · have gr' : (re == 0) = false := by simpa using gr
      by_cases g6 : dx < -1048576
      · go_wp2_with fail
        go_meet
        exact ⟨.inl rfl, ownK, belowB⟩
      by_cases g7 : 1048576 < dx
      · go_wp2_with fail
        go_meet
        exact ⟨.inl rfl, ownK, belowB⟩
      by_cases g8 : dy < -1048576
      · go_wp2_with fail
        go_meet
        exact ⟨.inl rfl, ownK, belowB⟩
      by_cases g9 : 1048576 < dy
      · go_wp2_with fail
        go_meet
        exact ⟨.inl rfl, ownK, belowB⟩
      go_wp2_with fail
      refine (ck _ belowB).mono ?_
      rintro e w2 ⟨rfl, hs⟩
      have oa2 := oa.steps hs
      have B2 := below_steps B (Nat.le_refl _) hs
      clear hs
      by_cases gc : cc = 0
      · subst gc
        go_wp2_with fail
        go_meet
        exact ⟨.inr ⟨rfl, ⟨by omega, by omega, by omega, by omega, by omega, by omega⟩, trivial⟩, ownK, belowB⟩
      · have gc' : (cc != 0) = true := by simpa using gc
        go_wp2_with fail
        go_meet
        exact ⟨.inl rfl, ownK, belowB⟩

  case rest =>
    obtain ⟨hc, oa2, B2⟩ := hcut
    clear oa B
    have oa := oa2
    have B := B2
    clear oa2 B2
    rcases hc with rfl | ⟨rfl, gd, rfl⟩
    · clear qc qt ck mc
      go_wp2
      go_returns
      exact ⟨rfl, belowB⟩
    · have Hgd := Hid.mk_ gd
      clear gd ck
      go_wp2_with fail
      go_loopw [14, 15] (fun oo kk wr => ∃ (k' : Nat) (ow : Value), ow = oo ∧ k' ≤ n ∧ kk = .int .i64 k' ∧ wr.ownsRow (w.heap.size + 1) 43 2 ow k' (pcs (M k')) ∧ Blk wr (w.heap.size) 23 #[.int .i64 (k 0), .int .i64 (k 1), .int .i64 (k 2), .int .i64 (k 3)] ∧ Below w.heap.size w wr) (fun _ kk _ => n - (intOf kk).toNat)
      case atStart => exact ⟨0, _, rfl, Nat.zero_le _, rfl, by rw [HM0.out]; exact World.ownsRow_nil _ _ _ _, ownK, belowB⟩
      case round =>
        obtain ⟨j, ow, rfl, hj, rfl, hr, oa2, B2⟩ := hrel
        clear oa B
        have oa := oa2
        have B := B2
        clear oa2 B2
        rcases Nat.lt_or_ge j n with jn | jn
        · have gd := Hgd.out
          have pr := mv_prods gd (Hok.out (by first | rfl | trivial) j jn)
          have hok := Hok.out (by first | rfl | trivial) j jn
          obtain ⟨b0, o0, rfl, hb0, xa, ya⟩ := Hat.out j jn
          have HX : Hid (M (j + 1) = M j ++ [mv re im dx dy (P j)]) := HM1.out j jn
          have hn40 := gd.hn
          obtain ⟨d1, d2⟩ := gd.hdx
          obtain ⟨d3, d4⟩ := gd.hdy
          have HV : Hid (mv re im dx dy (P j) = ((P j).1 * re - (P j).2 * im + dx, (P j).1 * im + (P j).2 * re + dy)) := rfl
          clear gd
          generalize (P j).1 = x at *
          generalize (P j).2 = y at *
          obtain ⟨m1, e1⟩ : ∃ z, x * re = z := ⟨_, rfl⟩
          obtain ⟨m2, e2⟩ : ∃ z, y * im = z := ⟨_, rfl⟩
          obtain ⟨m3, e3⟩ : ∃ z, x * im = z := ⟨_, rfl⟩
          obtain ⟨m4, e4⟩ : ∃ z, y * re = z := ⟨_, rfl⟩
          rw [e1, e2, e3, e4] at pr HV
          obtain ⟨⟨p11, p12⟩, ⟨p21, p22⟩, ⟨p31, p32⟩, p41, p42⟩ := pr
          have w1' : wrap64 (x * re) = m1 := by rw [e1]; unfold wrap64; omega
          have w2' : wrap64 (y * im) = m2 := by rw [e2]; unfold wrap64; omega
          have w3' : wrap64 (x * im) = m3 := by rw [e3]; unfold wrap64; omega
          have w4' : wrap64 (y * re) = m4 := by rw [e4]; unfold wrap64; omega
          clear e1 e2 e3 e4 hok
          have hlt : decide ((j : Int) < (n : Int)) = true := decide_eq_true (by omega)
          have HR := Hid.mk_ hr
          clear hr
          go_wp2_with fail
          refine Reg.wp_chain (fun D v W => Below w.heap.size w W ∧ Blk W (w.heap.size) 23 #[.int .i64 (k 0), .int .i64 (k 1), .int .i64 (k 2), .int .i64 (k 3)] ∧ (D 37 = false → W.ownsRow (w.heap.size + 1) 43 2 ow j (pcs (M j))) ∧ (D 36 = true → D 37 = false → ∃ g, v 36 = .slice (some ⟨g, 0, none⟩) 1 1 ∧ Blk W g 43 #[.int .i64 (m1 - m2 + dx), .int .i64 (m3 + m4 + dy)]) ∧ (D 37 = true → W.ownsRow (w.heap.size + 1) 43 2 (v 37) (j + 1) (pcs (M j) ++ [.int .i64 (m1 - m2 + dx), .int .i64 (m3 + m4 + dy)])))
            (Reg.inl [36, 37]) (Reg.gv [(36, SlcAt), (37, SlcL (j + 1))]) Reg.None_ (fun _ => Reg.Any) (fun _ _ => False) (Reg.pl [(37, [(36, some 118)]), (39, [(37, some 119)])]) (Reg.pl [(36, [37])])
            (by kernel_rfl) (by kernel_rfl) (by kernel_rfl) (Reg.gv_some _ (by intro p hp; simp only [List.mem_cons, List.not_mem_nil, or_false] at hp; rcases hp with rfl | rfl <;> first | exact ⟨_, 0, rfl⟩ | exact ⟨_, none, 0, rfl⟩)) (fun v => ?_) (fun D v v' W hv hj => ?_) (fun _ _ _ _ _ _ _ _ _ _ _ _ _ => Reg.none_) (fun _ _ _ _ h => h.elim) (fun ops' Q' hops hQ => ?_)
          · exact ⟨belowB, ownK, fun _ => HR.out.drew, fun h => Bool.noConfusion h, fun h => Bool.noConfusion h⟩
          · obtain ⟨j1, j2, j3, j4, j5⟩ := hj
            exact ⟨j1, j2, j3, fun h h' => by rw [← hv 36 h]; exact j4 h h', fun h => by rw [← hv 37 h]; exact j5 h⟩
          apply Reg.RC_pure (hc := rfl) (hst := rfl) (hw := rfl) (t := 82) (hd := rfl) (ht := Nat.le_of_ble_eq_true rfl)
          · intro D v W hc hj hf K' hK'
            go_step
            exact hK'.out
          · rfl
          apply Reg.RC_pure (hc := rfl) (hst := rfl) (hw := rfl) (t := 83) (hd := rfl) (ht := Nat.le_of_ble_eq_true rfl)
          · intro D v W hc hj hf K' hK'
            go_step
            exact hK'.out
          · rfl
          apply Reg.RC_pure (hc := rfl) (hst := rfl) (hw := rfl) (t := 84) (hd := rfl) (ht := Nat.le_of_ble_eq_true rfl)
          · intro D v W hc hj hf K' hK'
            go_step
            exact hK'.out
          · rfl
          apply Reg.RC_pure (hc := rfl) (hst := rfl) (hw := rfl) (t := 85) (hd := rfl) (ht := Nat.le_of_ble_eq_true rfl)
          · intro D v W hc hj hf K' hK'
            go_step
            exact hK'.out
          · rfl
          apply Reg.RC_pure (hc := rfl) (hst := rfl) (hw := rfl) (t := 86) (hd := rfl) (ht := Nat.le_of_ble_eq_true rfl)
          · intro D v W hc hj hf K' hK'
            go_step
            exact hK'.out
          · rfl
          apply Reg.RC_pure (hc := rfl) (hst := rfl) (hw := rfl) (t := 87) (hd := rfl) (ht := Nat.le_of_ble_eq_true rfl)
          · intro D v W hc hj hf K' hK'
            have c0 : W.cell? ⟨b0, o0 + j * 2, none⟩ = _ := (hj.1.cell (p := ⟨b0, o0 + j * 2, none⟩) hb0).trans xa
            go_step
            exact hK'.out
          · rfl
          apply Reg.RC_pure (hc := rfl) (hst := rfl) (hw := rfl) (t := 88) (hd := rfl) (ht := Nat.le_of_ble_eq_true rfl)
          · intro D v W hc hj hf K' hK'
            go_step
            exact hK'.out
          · rfl
          apply Reg.RC_pure (hc := rfl) (hst := rfl) (hw := rfl) (t := 89) (hd := rfl) (ht := Nat.le_of_ble_eq_true rfl)
          · intro D v W hc hj hf K' hK'
            go_step
            rw [w1']
            exact hK'.out
          · rfl
          apply Reg.RC_pure (hc := rfl) (hst := rfl) (hw := rfl) (t := 90) (hd := rfl) (ht := Nat.le_of_ble_eq_true rfl)
          · intro D v W hc hj hf K' hK'
            go_step
            exact hK'.out
          · rfl
          apply Reg.RC_pure (hc := rfl) (hst := rfl) (hw := rfl) (t := 91) (hd := rfl) (ht := Nat.le_of_ble_eq_true rfl)
          · intro D v W hc hj hf K' hK'
            go_step
            exact hK'.out
          · rfl
          apply Reg.RC_pure (hc := rfl) (hst := rfl) (hw := rfl) (t := 92) (hd := rfl) (ht := Nat.le_of_ble_eq_true rfl)
          · intro D v W hc hj hf K' hK'
            go_step
            exact hK'.out
          · rfl
          apply Reg.RC_pure (hc := rfl) (hst := rfl) (hw := rfl) (t := 93) (hd := rfl) (ht := Nat.le_of_ble_eq_true rfl)
          · intro D v W hc hj hf K' hK'
            go_step
            exact hK'.out
          · rfl
          apply Reg.RC_pure (hc := rfl) (hst := rfl) (hw := rfl) (t := 94) (hd := rfl) (ht := Nat.le_of_ble_eq_true rfl)
          · intro D v W hc hj hf K' hK'
            have c1 : W.cell? ⟨b0, o0 + j * 2 + 1, none⟩ = _ := (hj.1.cell (p := ⟨b0, o0 + j * 2 + 1, none⟩) hb0).trans ya
            go_step
            exact hK'.out
          · rfl
          apply Reg.RC_pure (hc := rfl) (hst := rfl) (hw := rfl) (t := 95) (hd := rfl) (ht := Nat.le_of_ble_eq_true rfl)
          · intro D v W hc hj hf K' hK'
            go_step
            exact hK'.out
          · rfl
          apply Reg.RC_pure (hc := rfl) (hst := rfl) (hw := rfl) (t := 96) (hd := rfl) (ht := Nat.le_of_ble_eq_true rfl)
          · intro D v W hc hj hf K' hK'
            go_step
            rw [w2']
            exact hK'.out
          · rfl
          apply Reg.RC_pure (hc := rfl) (hst := rfl) (hw := rfl) (t := 97) (hd := rfl) (ht := Nat.le_of_ble_eq_true rfl)
          · intro D v W hc hj hf K' hK'
            go_step
            exact hK'.out
          · rfl
          apply Reg.RC_pure (hc := rfl) (hst := rfl) (hw := rfl) (t := 98) (hd := rfl) (ht := Nat.le_of_ble_eq_true rfl)
          · intro D v W hc hj hf K' hK'
            go_step
            exact hK'.out
          · rfl
          apply Reg.RC_pure (hc := rfl) (hst := rfl) (hw := rfl) (t := 99) (hd := rfl) (ht := Nat.le_of_ble_eq_true rfl)
          · intro D v W hc hj hf K' hK'
            go_step
            exact hK'.out
          · rfl
          apply Reg.RC_pure (hc := rfl) (hst := rfl) (hw := rfl) (t := 100) (hd := rfl) (ht := Nat.le_of_ble_eq_true rfl)
          · intro D v W hc hj hf K' hK'
            go_step
            exact hK'.out
          · rfl
          apply Reg.RC_pure (hc := rfl) (hst := rfl) (hw := rfl) (t := 101) (hd := rfl) (ht := Nat.le_of_ble_eq_true rfl)
          · intro D v W hc hj hf K' hK'
            go_step
            exact hK'.out
          · rfl
          apply Reg.RC_pure (hc := rfl) (hst := rfl) (hw := rfl) (t := 102) (hd := rfl) (ht := Nat.le_of_ble_eq_true rfl)
          · intro D v W hc hj hf K' hK'
            go_step
            exact hK'.out
          · rfl
          apply Reg.RC_pure (hc := rfl) (hst := rfl) (hw := rfl) (t := 103) (hd := rfl) (ht := Nat.le_of_ble_eq_true rfl)
          · intro D v W hc hj hf K' hK'
            go_step
            exact hK'.out
          · rfl
          apply Reg.RC_pure (hc := rfl) (hst := rfl) (hw := rfl) (t := 104) (hd := rfl) (ht := Nat.le_of_ble_eq_true rfl)
          · intro D v W hc hj hf K' hK'
            have c0 : W.cell? ⟨b0, o0 + j * 2, none⟩ = _ := (hj.1.cell (p := ⟨b0, o0 + j * 2, none⟩) hb0).trans xa
            go_step
            exact hK'.out
          · rfl
          apply Reg.RC_pure (hc := rfl) (hst := rfl) (hw := rfl) (t := 105) (hd := rfl) (ht := Nat.le_of_ble_eq_true rfl)
          · intro D v W hc hj hf K' hK'
            go_step
            exact hK'.out
          · rfl
          apply Reg.RC_pure (hc := rfl) (hst := rfl) (hw := rfl) (t := 106) (hd := rfl) (ht := Nat.le_of_ble_eq_true rfl)
          · intro D v W hc hj hf K' hK'
            go_step
            rw [w3']
            exact hK'.out
          · rfl
          apply Reg.RC_pure (hc := rfl) (hst := rfl) (hw := rfl) (t := 107) (hd := rfl) (ht := Nat.le_of_ble_eq_true rfl)
          · intro D v W hc hj hf K' hK'
            go_step
            exact hK'.out
          · rfl
          apply Reg.RC_pure (hc := rfl) (hst := rfl) (hw := rfl) (t := 108) (hd := rfl) (ht := Nat.le_of_ble_eq_true rfl)
          · intro D v W hc hj hf K' hK'
            go_step
            exact hK'.out
          · rfl
          apply Reg.RC_pure (hc := rfl) (hst := rfl) (hw := rfl) (t := 109) (hd := rfl) (ht := Nat.le_of_ble_eq_true rfl)
          · intro D v W hc hj hf K' hK'
            go_step
            exact hK'.out
          · rfl
          apply Reg.RC_pure (hc := rfl) (hst := rfl) (hw := rfl) (t := 110) (hd := rfl) (ht := Nat.le_of_ble_eq_true rfl)
          · intro D v W hc hj hf K' hK'
            go_step
            exact hK'.out
          · rfl
          apply Reg.RC_pure (hc := rfl) (hst := rfl) (hw := rfl) (t := 111) (hd := rfl) (ht := Nat.le_of_ble_eq_true rfl)
          · intro D v W hc hj hf K' hK'
            have c1 : W.cell? ⟨b0, o0 + j * 2 + 1, none⟩ = _ := (hj.1.cell (p := ⟨b0, o0 + j * 2 + 1, none⟩) hb0).trans ya
            go_step
            exact hK'.out
          · rfl
          apply Reg.RC_pure (hc := rfl) (hst := rfl) (hw := rfl) (t := 112) (hd := rfl) (ht := Nat.le_of_ble_eq_true rfl)
          · intro D v W hc hj hf K' hK'
            go_step
            exact hK'.out
          · rfl
          apply Reg.RC_pure (hc := rfl) (hst := rfl) (hw := rfl) (t := 113) (hd := rfl) (ht := Nat.le_of_ble_eq_true rfl)
          · intro D v W hc hj hf K' hK'
            go_step
            rw [w4']
            exact hK'.out
          · rfl
          apply Reg.RC_pure (hc := rfl) (hst := rfl) (hw := rfl) (t := 114) (hd := rfl) (ht := Nat.le_of_ble_eq_true rfl)
          · intro D v W hc hj hf K' hK'
            go_step
            exact hK'.out
          · rfl
          apply Reg.RC_pure (hc := rfl) (hst := rfl) (hw := rfl) (t := 115) (hd := rfl) (ht := Nat.le_of_ble_eq_true rfl)
          · intro D v W hc hj hf K' hK'
            go_step
            exact hK'.out
          · rfl
          apply Reg.RC_pure (hc := rfl) (hst := rfl) (hw := rfl) (t := 116) (hd := rfl) (ht := Nat.le_of_ble_eq_true rfl)
          · intro D v W hc hj hf K' hK'
            go_step
            exact hK'.out
          · rfl
          apply Reg.RC_pure (hc := rfl) (hst := rfl) (hw := rfl) (t := 117) (hd := rfl) (ht := Nat.le_of_ble_eq_true rfl)
          · intro D v W hc hj hf K' hK'
            go_step
            exact hK'.out
          · rfl
          refine Reg.RC_call rfl (by intro t ht; cases ht; exact Nat.le_of_ble_eq_true rfl) rfl (fun D v W hc hj hf K' hK' => ?_) ?_
          · obtain ⟨j1, j2, j3, j4, j5⟩ := hj
            have s37 : D 37 = false := hc.2 37 (by decide)
            go_step
            exact hK'.out _ _ Reg.any ⟨j1.alloc j1.size _, j2.alloc _, fun h => (j3 h).alloc _, fun _ _ => ⟨_, rfl, Blk.new _ _ _⟩, fun h => Bool.noConfusion (s37.symm.trans h)⟩ Reg.none_ ⟨_, rfl⟩
          rintro _ ⟨ga, rfl⟩
          refine Reg.RC_at (b := ⟨#[_,_,_,_,_,_,_,_,_,_,_,_,_,_,_,_,_,_,_,_,_,_,_,_,_,_,_,_,_,_,_,_,_,_,_,_,_,_,_,_,_,_,_,_,_,_,_,_,_,_,_,_,_,_,_,_,_,_,_,_,_,_,_,_,_,_,_,_,_,_,_,_,_,_,_,_,_,_,_,_,_,_,_,_,_,_,_,_,_,_,_,_,_,_,_,_,_,_,_,_,_,_,_,_,_,_,_,_,_,_,_,_,_,_,_,_,_,_,_,_,_,_,_,_,_,_,_,_,_,_,_,_,_,_,_,_,_,_,_,_,_,_,_,_,_,_,_,_,_,_,_,_,_,_,_,_,_,_,_,_,_,_,_,_,_,_,_,_,_,_,_,_,_,_,_,_,_], _⟩) rfl ?_
          refine Reg.RC_call rfl (by intro t ht; cases ht; exact Nat.le_of_ble_eq_true rfl) rfl (fun D v W hc hj hf K' hK' => ?_) ?_
          · obtain ⟨j1, j2, j3, j4, j5⟩ := hj
            have s37 : D 37 = false := hc.1
            have f36 := hf (36, some 118) (by show (36, some 118) ∈ [(36, some 118)]; simp) rfl
            obtain ⟨g2, eg, hg2⟩ := j4 f36.1 s37
            have ev : v 36 = .slice (some ⟨ga, 0, none⟩) 1 1 := f36.2.1
            rw [ev] at eg
            cases eg
            refine wp_append_own_wide _ (.tmp 82) (.tmp 118) 22 rfl (w.heap.size + 1) 43 i0 _ 2 16 Try.underlying22 Hi.out Hz.out.1 Hz.out.2.1 Hz.out.2.2 rfl (by decide) _ j (pcs (M j)) rfl (j3 s37) ⟨ga, 0, none⟩ 1 1 [.int .i64 (m1 - m2 + dx), .int .i64 (m3 + m4 + dy)] rfl rfl ?_ ?_ (by unfold maxLen; omega) (by omega) (by have := j2.lt; omega) ?_
            · intro t u ht
              rw [Addr.add_lit, Nat.zero_add]
              exact hg2.c t (by simpa using ht)
            · intro u hu
              simp only [List.mem_cons, List.not_mem_nil, or_false] at hu
              rcases hu with rfl | rfl <;> rfl
            · intro v' W' h2 h3 h4
              exact hK'.out v' W' Reg.any ⟨ownsRow_below (j3 s37) h3 j1 (by omega), ownsRow_blk (j3 s37) h3 j2 (by omega), fun h => Bool.noConfusion (show true = false from h), fun _ h => Bool.noConfusion (show true = false from h), fun _ => h2⟩ Reg.none_ (ownsRow_len h2)
          rintro _ ⟨a3, c3, rfl⟩
          refine Reg.RC_at (b := ⟨#[_,_,_,_,_,_,_,_,_,_,_,_,_,_,_,_,_,_,_,_,_,_,_,_,_,_,_,_,_,_,_,_,_,_,_,_,_,_,_,_,_,_,_,_,_,_,_,_,_,_,_,_,_,_,_,_,_,_,_,_,_,_,_,_,_,_,_,_,_,_,_,_,_,_,_,_,_,_,_,_,_,_,_,_,_,_,_,_,_,_,_,_,_,_,_,_,_,_,_,_,_,_,_,_,_,_,_,_,_,_,_,_,_,_,_,_,_,_,_,_,_,_,_,_,_,_,_,_,_,_,_,_,_,_,_,_,_,_,_,_,_,_,_,_,_,_,_,_,_,_,_,_,_,_,_,_,_,_,_,_,_,_,_,_,_,_,_,_,_,_,_,_,_,_,_,_,_], _⟩) rfl ?_
          apply Reg.RC_pure (hc := rfl) (hst := rfl) (hw := rfl) (t := 14) (hd := rfl) (ht := Nat.le_of_ble_eq_true rfl)
          · intro D v W hc hj hf K' hK'
            go_step
            exact hK'.out
          · rfl
          refine Reg.RC_end (fun D v w9 hd hj hf => ?_)
          have f37 := hf (37, some 119) (by show (37, some 119) ∈ [(37, some 119)]; simp) rfl
          have ev : v 37 = .slice a3 (j + 1) c3 := f37.2.1
          obtain ⟨j1, oa9, -, -, j5⟩ := hj
          have hr9 := j5 f37.1
          rw [ev] at hr9
          clear j5 ev f37 hf hd
          refine hQ _ _ ?_
          clear hQ hops Q' ops'
          have HR9 : Hid (w9.ownsRow (w.heap.size + 1) 43 2 (.slice a3 (j + 1) c3) (j + 1) (pcs (M (j + 1)))) := Hid.mk_ (by rw [HX.out, pcs_snoc, HV.out]; exact hr9)
          have B := j1
          clear hr9 j1
          repeat' (first | go_values | go_skip | go_guarded | go_step | go_upon)
          go_roundw
          case rel => exact ⟨j + 1, _, rfl, by omega, by go_num, HR9.out, ownK, belowB⟩
          case measure => simp [intOf]; omega
        · obtain rfl : j = n := by omega
          have gd := Hgd.out
          have hp := Hmo.out wr (w.heap.size + 1) j ow (by first | rfl | trivial) gd hr
          have hq := Hmq.out gd.hnz (by first | rfl | trivial)
          obtain ⟨a4, c4, rfl⟩ := hp.shape
          have Hp := Hid.mk_ hp
          have Hq := Hid.mk_ hq
          clear gd hr hp hq Hgd Hmo Hmq HM0 HM1 Hat Hok Hi Hz
          generalize M j = m at *
          obtain ⟨len, hlen⟩ : ∃ z, m.length = z := ⟨_, rfl⟩
          rw [hlen] at Hp ⊢
          clear hlen
          have ca0 := oa.c 0 (hk4 0 (by omega))
          have ca1 := oa.c 1 (hk4 1 (by omega))
          have ca2 := oa.c 2 (hk4 2 (by omega))
          have ca3 := oa.c 3 (hk4 3 (by omega))
          have z0 := oa.lt
          have P0 : Below wr.heap.size wr wr := Below.refl _ _
          repeat' (first | go_values | go_skip | go_guarded | go_step | go_upon)
          refine (qc _ belowB).mono ?_
          rintro e w3 ⟨u, rfl, hq3, hs3⟩
          obtain ⟨CA, rfl, qa⟩ := hq3.qm
          replace oa := oa.steps hs3
          have B3 := below_steps B (Nat.le_refl _) hs3
          have P3 := below_steps P0 (Nat.le_refl _) hs3
          have ia : (Try.prog.info? 31).map (·.size) = some CA.size := by rw [qa.1]; kernel_rfl
          have sa := qa.1
          have na := qa.2.1
          clear hq3 hs3 P0 z0 qc B
          clear ca0 ca1 ca2 ca3
          have z3 := oa.lt
          dsimp only
          iterate 13 (first | go_values | go_skip | go_guarded | go_step | go_upon)
          (refine store_big rfl 31 (.tmp 16) (.tmp 124) rfl (w3.heap.size) CA rfl rfl 31 #[.int .i64 0, .int .i64 0, .int .i64 0, .int .i64 0, .bool false, .slice none 0 0, .bool false, .slice none 0 0, .bool false, .slice none 0 0, .bool false, .slice none 0 0, .bool false, .slice none 0 0, .bool false, .slice none 0 0, .bool false, .slice none 0 0, .bool false, .slice none 0 0] ownK ia sa.symm na (fun w4 r4 => ?_); have oq4 := r4.blk; have B4 := r4.below (B3.alloc B3.size _) B3.size; have P4 := r4.below (P3.alloc P3.size _) P3.size; have oa4 := r4.far (oa.alloc _) (by omega); have kp4 : Keeps w3 w4 := Keeps.trans keepsB (r4.keeps rfl); have ca0 := oa4.c 0 (hk4 0 (by omega)); have ca1 := oa4.c 1 (hk4 1 (by omega)); have ca2 := oa4.c 2 (hk4 2 (by omega)); have ca3 := oa4.c 3 (hk4 3 (by omega)))
          repeat' (first | go_values | go_skip | go_guarded | go_step | go_upon)
          refine (qt _ B4).mono ?_
          rintro e w5 ⟨u, rfl, hq5, hs5⟩
          obtain ⟨CB, rfl, qb⟩ := hq5.qm
          have oq5 := oq4.steps hs5
          have B5 := below_steps B4 (Nat.le_refl _) hs5
          have P5 := below_steps P4 (Nat.le_refl _) hs5
          have oa5 := oa4.steps hs5
          have ib : (Try.prog.info? 31).map (·.size) = some CB.size := by rw [qb.1]; kernel_rfl
          have sb := qb.1
          have nb := qb.2.1
          have qa5 := (qa.keeps kp4).steps hs5
          clear hq5 hs5 oq4 B4 P4 B3 P3 oa4 oa qa kp4 r4 z3 qt
          clear ca0 ca1 ca2 ca3
          have z5 := oq5.lt
          have y5 := oa5.lt
          dsimp only
          iterate 13 (first | go_values | go_skip | go_guarded | go_step | go_upon)
          (refine store_big rfl 31 (.tmp 18) (.tmp 138) rfl (w5.heap.size) CB rfl rfl 31 #[.int .i64 0, .int .i64 0, .int .i64 0, .int .i64 0, .bool false, .slice none 0 0, .bool false, .slice none 0 0, .bool false, .slice none 0 0, .bool false, .slice none 0 0, .bool false, .slice none 0 0, .bool false, .slice none 0 0, .bool false, .slice none 0 0, .bool false, .slice none 0 0] ownK ib sb.symm nb (fun w6 r6 => ?_); have or6 := r6.blk; have B6 := r6.below (B5.alloc B5.size _) B5.size; have P6 := r6.below (P5.alloc P5.size _) P5.size; have oa6 := r6.far (oa5.alloc _) (by omega); have oq6 := r6.far (oq5.alloc _) (by omega); have kp6 : Keeps w5 w6 := Keeps.trans keepsB (r6.keeps rfl))
          iterate 21 (first | go_values | go_skip | go_guarded | go_step | go_upon)
          (refine load_bigG rfl 31 (.tmp 16) rfl (w3.heap.size) rfl 31 CA _ oq6 Try.underlying31 rfl ia ?_)
          (refine load_bigG rfl 31 (.tmp 18) rfl (w5.heap.size) rfl 31 CB _ or6 Try.underlying31 rfl ib ?_)
          repeat' (first | go_values | go_skip | go_guarded | go_step | go_upon)
          refine (rSame _ (qa5.keeps kp6) (qb.keeps kp6) (fun i _ => hf1 i) (fun i _ => hf2 i)).mono ?_
          rintro e w7 ⟨rfl, hs7⟩
          have oq7 := oq6.steps hs7
          have oa7 := oa6.steps hs7
          have B7 := below_steps B6 (Nat.le_refl _) hs7
          have P7 := below_steps P6 (Nat.le_refl _) hs7
          have qa7 := (qa5.keeps kp6).steps hs7
          clear hs7 oq6 oa6 B6 P6 qa5 kp6 r6 z5 y5 B5 P5 oq5 oa5 or6 qb sb nb ib
          dsimp only
          repeat' (first | go_values | go_skip | go_guarded | go_step | go_upon)
          refine (mc _ _ (Hp.out.steps P7)).mono ?_
          rintro e w8 ⟨rfl, hs8⟩
          have oq8 := oq7.steps hs8
          have oa8 := oa7.steps hs8
          have B8 := below_steps B7 (Nat.le_refl _) hs8
          have P8 := below_steps P7 (Nat.le_refl _) hs8
          have qa8 := qa7.steps hs8
          clear hs8 oq7 oa7 B7 P7 qa7 mc
          by_cases gm : cm = 0
          · subst gm
            have hq := Hq.out (by first | rfl | trivial)
            have ca0 := oa8.c 0 (hk4 0 (by omega))
            have ca1 := oa8.c 1 (hk4 1 (by omega))
            have ca2 := oa8.c 2 (hk4 2 (by omega))
            have ca3 := oa8.c 3 (hk4 3 (by omega))
            dsimp only
            repeat' (first | go_values | go_skip | go_guarded | go_step | go_upon)
            refine (hq w8 _ (Hp.out.steps P8)).mono ?_
            rintro e w9 ⟨CC, rfl, qm, hs9⟩
            have oq9 := oq8.steps hs9
            have B9 := below_steps B8 (Nat.le_refl _) hs9
            have qa9 := qa8.steps hs9
            have ic : (Try.prog.info? 31).map (·.size) = some CC.size := by rw [qm.1]; kernel_rfl
            have sc := qm.1
            have nc := qm.2.1
            clear hs9 oq8 oa8 B8 P8 qa8 hq Hq Hp ca0 ca1 ca2 ca3
            have z9 := oq9.lt
            have KA := qa9.2.2.1
            have KC := qm.2.2.1
            have q4 := eq_at4 (kA A0 0) (kA A0 1) (kA A0 2) (kA A0 3)
            have sm : ∀ w', Keeps w9 w' → Calls Try.prog 14 #[.agg CA, .agg CC] w' fun e w2 => e = .returned (.bool true) ∧ Steps w' w2 := fun w' hk => rsameCode w' (qa9.keeps hk) (qm.keeps hk) (fun i _ => hf1 i) (fun i _ => hf2 i)
            have ka0 := KA 0 (by omega)
            have ka1 := KA 1 (by omega)
            have ka2 := KA 2 (by omega)
            have ka3 := KA 3 (by omega)
            have kc0 := KC 0 (by omega)
            have kc1 := KC 1 (by omega)
            have kc2 := KC 2 (by omega)
            have kc3 := KC 3 (by omega)
            generalize kA A0 0 = t0 at *
            generalize kA A0 1 = t1 at *
            generalize kA A0 2 = t2 at *
            generalize kA A0 3 = t3 at *
            clear KA KC qa9 qm hf1 hf2
            dsimp only
            iterate 13 (first | go_values | go_skip | go_guarded | go_step | go_upon)
            (refine store_big rfl 31 (.tmp 20) (.tmp 157) rfl (w9.heap.size) CC rfl rfl 31 #[.int .i64 0, .int .i64 0, .int .i64 0, .int .i64 0, .bool false, .slice none 0 0, .bool false, .slice none 0 0, .bool false, .slice none 0 0, .bool false, .slice none 0 0, .bool false, .slice none 0 0, .bool false, .slice none 0 0, .bool false, .slice none 0 0, .bool false, .slice none 0 0] ownK ic sc.symm nc (fun w10 r10 => ?_); have oc10 := r10.blk; have B10 := r10.below (B9.alloc B9.size _) B9.size; have oq10 := r10.far (oq9.alloc _) (by omega); have kp10 : Keeps w9 w10 := Keeps.trans keepsB (r10.keeps rfl))
            iterate 29 (first | go_values | go_skip | go_guarded | go_step | go_upon)
            (refine load_bigG rfl 31 (.tmp 16) rfl (w3.heap.size) rfl 31 CA _ oq10 Try.underlying31 rfl ia ?_)
            (refine load_bigG rfl 31 (.tmp 20) rfl (w9.heap.size) rfl 31 CC _ oc10 Try.underlying31 rfl ic ?_)
            repeat' (first | go_values | go_skip | go_guarded | go_step | go_upon)
            refine (sm _ kp10).mono ?_
            rintro e w11 ⟨rfl, hs11⟩
            have oq11 := oq10.steps hs11
            have oc11 := oc10.steps hs11
            have B11 := below_steps B10 (Nat.le_refl _) hs11
            clear hs11 oq10 oc10 B10 kp10 r10 sm oq9 B9 z9
            have xa0 := oq11.c 0 ka0
            have xa1 := oq11.c 1 ka1
            have xa2 := oq11.c 2 ka2
            have xa3 := oq11.c 3 ka3
            have xc0 := oc11.c 0 kc0
            have xc1 := oc11.c 1 kc1
            have xc2 := oc11.c 2 kc2
            have xc3 := oc11.c 3 kc3
            dsimp only
            repeat' (first | go_values | go_skip | go_guarded | go_step | go_upon)
            go_returns
            exact ⟨rfl, belowB⟩
          · have gm' : (cm != 0) = true := by simpa using gm
            dsimp only
            repeat' (first | go_values | go_skip | go_guarded | go_step | go_upon)
            go_returns
            exact ⟨rfl, belowB⟩
end Go.Proofs.Ytibdehlmflaodaa
