import Derived.ChangeKeysEq
import Derived.Test.YtibdehlmflaodaaGreatNQj
set_option linter.unusedVariables false
set_option linter.unusedSimpArgs false
set_option maxHeartbeats 6400000
set_option maxRecDepth 1000000
namespace Go.Proofs.YtibdehlmflaodaaGreat
open Go.RowKit
def Frn (w : World) (x y : Int) (a b c d : Value) : Prop := Num w (.agg #[a, b]) x ∧ Num w (.agg #[c, d]) y
theorem Frn.keeps {w w' : World} {x y : Int} {a b c d : Value} (h : Frn w x y a b c d) (k : Keeps w w') : Frn w' x y a b c d := ⟨h.1.keeps k, h.2.keeps k⟩
theorem Num.parts2 {w : World} {a b : Value} {x : Int} (h : Num w (.agg #[a, b]) x) : ∃ g s n c, a = .bool g ∧ b = .slice s n c := by
 obtain ⟨s, e, hl⟩ := h
 obtain ⟨ao, cap, rfl⟩ := hl.shape
 simp only [Value.agg.injEq, Array.mk.injEq, List.cons.injEq, and_true] at e
 exact ⟨_, _, _, _, e.1, e.2⟩
theorem rsameF {a b c d a' b' c' d' : Value} {x y : Int} (w : World) (h : Frn w x y a b c d) (h' : Frn w x y a' b' c' d') (fx : fits x) (fy : fits y) :
  Calls Tryz.prog 11 #[.agg #[a, b, c, d], .agg #[a', b', c', d']] w fun e w' => e = .returned (.bool true) ∧ Steps w w' := by
 have s1 : ∀ w', Steps w w' → Calls Tryz.prog 25 #[.agg #[a, b], .agg #[a', b']] w' fun e w2 => e = .returned (.bool true) ∧ Steps w' w2 := fun w' hs => by
  have := rsame w' (h.1.steps hs) (h'.1.steps hs) fx fx
  rwa [decide_eq_true rfl] at this
 have s2 : ∀ w', Steps w w' → Calls Tryz.prog 25 #[.agg #[c, d], .agg #[c', d']] w' fun e w2 => e = .returned (.bool true) ∧ Steps w' w2 := fun w' hs => by
  have := rsame w' (h.2.steps hs) (h'.2.steps hs) fy fy
  rwa [decide_eq_true rfl] at this
 obtain ⟨g1, t1, n1, q1, rfl, rfl⟩ := h.1.parts2
 obtain ⟨g2, t2, n2, q2, rfl, rfl⟩ := h.2.parts2
 obtain ⟨g3, t3, n3, q3, rfl, rfl⟩ := h'.1.parts2
 obtain ⟨g4, t4, n4, q4, rfl, rfl⟩ := h'.2.parts2
 clear h h' fx fy
 go_enter Tryz.func11, Tryz.ntmps11
 go_wp2_with fail
 refine (s1 _ belowB).mono ?_
 rintro e w1 ⟨rfl, hs1⟩
 have B : Below w.heap.size w w1 := belowA hs1
 have oa : Blk w1 (w.heap.size) 30 #[.bool g1, .slice t1 n1 q1, .bool g2, .slice t2 n2 q2] := Blk.stepsK hs1
 have ob : Blk w1 (w.heap.size + 1) 30 #[.bool g3, .slice t3 n3 q3, .bool g4, .slice t4 n4 q4] := Blk.stepsK hs1
 clear hs1 s1
 have ca2 := oa.q2
 have ca3 := oa.q3
 have cb2 := ob.q2
 have cb3 := ob.q3
 go_wp2_with fail
 refine (s2 _ B).mono ?_
 rintro e w2 ⟨rfl, hs2⟩
 have B2 := below_steps B (Nat.le_refl _) hs2
 clear oa ob ca2 ca3 cb2 cb3 hs2 B s2
 go_wp2
 go_returns
 exact ⟨rfl, belowB⟩
def QM (w : World) (cs : Array Value) (k p q : Nat → Int) : Prop := cs.size = 20 ∧ cs.all (·.oneCell') = true ∧ (∀ i, i < 4 → cs[i]? = some (.int .i64 (k i))) ∧
 ∀ i, i < 4 → ∃ a b c d, cs[4 + i * 4]? = some a ∧ cs[4 + i * 4 + 1]? = some b ∧ cs[4 + i * 4 + 2]? = some c ∧ cs[4 + i * 4 + 3]? = some d ∧ Frn w (p i) (q i) a b c d
theorem QM.keeps {w w' : World} {cs : Array Value} {k p q : Nat → Int} (h : QM w cs k p q) (kp : Keeps w w') : QM w' cs k p q := by
 obtain ⟨h1, h2, h3, h4⟩ := h
 refine ⟨h1, h2, h3, fun i hi => ?_⟩
 obtain ⟨a, b, c, d, c0, c1, c2, c3, f⟩ := h4 i hi
 exact ⟨a, b, c, d, c0, c1, c2, c3, f.keeps kp⟩
theorem QM.steps {w w' : World} {cs : Array Value} {k p q : Nat → Int} (h : QM w cs k p q) (s : Steps w w') : QM w' cs k p q := h.keeps (Keeps.steps s)
theorem QN.qm {w : World} {v : Value} {a : Arr} (h : QN w v a) : ∃ cs, v = .agg cs ∧ QM w cs (kA a) (fun i => cP (cA a i) a.n) (fun i => cQ (cA a i) a.n) := by
 obtain ⟨c0, c1, c2, c3, c4, c5, c6, c7, c8, c9, c10, c11, c12, c13, c14, c15, rfl, h0, h1, h2, h3⟩ := h
 refine ⟨_, rfl, rfl, ?_, fun i hi => ?_, fun i hi => ?_⟩
 ·
  obtain ⟨_, _, _, _, rfl, rfl⟩ := h0.1.parts2
  obtain ⟨_, _, _, _, rfl, rfl⟩ := h0.2.parts2
  obtain ⟨_, _, _, _, rfl, rfl⟩ := h1.1.parts2
  obtain ⟨_, _, _, _, rfl, rfl⟩ := h1.2.parts2
  obtain ⟨_, _, _, _, rfl, rfl⟩ := h2.1.parts2
  obtain ⟨_, _, _, _, rfl, rfl⟩ := h2.2.parts2
  obtain ⟨_, _, _, _, rfl, rfl⟩ := h3.1.parts2
  obtain ⟨_, _, _, _, rfl, rfl⟩ := h3.2.parts2
  simp [Value.oneCell']
 · rcases (show i = 0 ∨ i = 1 ∨ i = 2 ∨ i = 3 by omega) with rfl | rfl | rfl | rfl <;> rfl
 ·
  rcases (show i = 0 ∨ i = 1 ∨ i = 2 ∨ i = 3 by omega) with rfl | rfl | rfl | rfl
  · exact ⟨_, _, _, _, rfl, rfl, rfl, rfl, h0⟩
  · exact ⟨_, _, _, _, rfl, rfl, rfl, rfl, h1⟩
  · exact ⟨_, _, _, _, rfl, rfl, rfl, rfl, h2⟩
  · exact ⟨_, _, _, _, rfl, rfl, rfl, rfl, h3⟩
theorem rsameCode {CA CB : Array Value} {k k' p q : Nat → Int} (w : World) (ha : QM w CA k p q) (hb : QM w CB k' p q) (fp : ∀ i, i < 4 → fits (p i)) (fq : ∀ i, i < 4 → fits (q i)) :
  Calls Tryz.prog 24 #[.agg CA, .agg CB] w fun e w' => e = .returned (.bool true) ∧ Steps w w' := by
 have hca := ha.1
 have hcb := hb.1
 have HA := Hid.mk_ ha.2.2.2
 have HB := Hid.mk_ hb.2.2.2
 clear ha hb
 go_enter Tryz.func24, Tryz.ntmps24
 go_wp2_with fail
 go_loopw [5] (fun kk wr => ∃ i : Nat, i ≤ 4 ∧ kk = .int .i64 i ∧ Blk wr (w.heap.size) 33 CA ∧ Blk wr (w.heap.size + 1) 33 CB ∧ Below w.heap.size w wr) (fun kk _ => 4 - (intOf kk).toNat)
 case atStart => exact ⟨0, by omega, rfl, ownK, ownK, belowB⟩
 case round =>
  obtain ⟨i, hi, rfl, oa, ob, B⟩ := hrel
  rcases Nat.lt_or_ge i 4 with i4 | i4
  ·
   have hlt : decide ((i : Int) < 4) = true := decide_eq_true (by omega)
   obtain ⟨a, b, c, d, ha0, ha1, ha2, ha3, fa⟩ := HA.out i i4
   obtain ⟨a', b', c', d', hb0, hb1, hb2, hb3, fb⟩ := HB.out i i4
   have fpi := fp i i4
   have fqi := fq i i4
   have sm : ∀ w', Steps w w' → Calls Tryz.prog 11 #[.agg #[a, b, c, d], .agg #[a', b', c', d']] w' fun e w2 => e = .returned (.bool true) ∧ Steps w' w2 := fun w' hs => rsameF w' (fa.keeps (Keeps.steps hs)) (fb.keeps (Keeps.steps hs)) fpi fqi
   clear fa fb fp fq fpi fqi
   go_wp2_with fail
   refine Reg.wp_chain (fun D v W => Below w.heap.size w W ∧ Blk W (w.heap.size) 33 CA ∧ Blk W (w.heap.size + 1) 33 CB) (Reg.inl [8]) (Reg.gv [(8, fun z_ => z_ = .bool true)]) Reg.None_ (fun _ => Reg.Any) (fun _ _ => False) (Reg.pl []) (Reg.pl [])
    (by kernel_rfl) (by kernel_rfl) (by kernel_rfl) (Reg.gv_some _ (by intro p hp; simp only [List.mem_cons, List.not_mem_nil, or_false] at hp; rcases hp with rfl <;> first | exact ⟨_, rfl⟩ | exact ⟨_, none, 0, 0, rfl⟩ | exact ⟨_, false, none, 0, 0, rfl⟩ | exact ⟨_, false, none, 0, 0, false, none, 0, 0, rfl⟩)) (fun _ => ⟨belowB, ownK, ownK⟩) (fun _ _ _ _ _ h => h) (fun _ _ _ _ _ _ _ _ _ _ _ _ _ => Reg.none_) (fun _ _ _ _ h => h.elim) (fun ops' Q' hops hQ => ?_)
   apply Reg.RP rfl rfl rfl 10 rfl rfl
   ·
    intro D v W hc hj hf K' hK'
    go_step
    exact hK'.out
   · rfl
   apply Reg.RP rfl rfl rfl 11 rfl rfl
   ·
    intro D v W hc hj hf K' hK'
    go_step
    exact hK'.out
   · rfl
   apply Reg.RP rfl rfl rfl 12 rfl rfl
   ·
    intro D v W hc hj hf K' hK'
    go_step
    exact hK'.out
   · rfl
   apply Reg.RP rfl rfl rfl 13 rfl rfl
   ·
    intro D v W hc hj hf K' hK'
    obtain ⟨j0, oa, ob⟩ := hj
    have c0 : World.cell? W ⟨w.heap.size, 4 + i * 4, none⟩ = _ := oa.c _ ha0
    have c1 : World.cell? W ⟨w.heap.size, 4 + i * 4 + 1, none⟩ = _ := oa.c _ ha1
    have c2 : World.cell? W ⟨w.heap.size, 4 + i * 4 + 2, none⟩ = _ := oa.c _ ha2
    have c3 : World.cell? W ⟨w.heap.size, 4 + i * 4 + 3, none⟩ = _ := oa.c _ ha3
    go_step
    exact hK'.out
   · rfl
   apply Reg.RP rfl rfl rfl 14 rfl rfl
   ·
    intro D v W hc hj hf K' hK'
    go_step
    exact hK'.out
   · rfl
   apply Reg.RP rfl rfl rfl 15 rfl rfl
   ·
    intro D v W hc hj hf K' hK'
    go_step
    exact hK'.out
   · rfl
   apply Reg.RP rfl rfl rfl 16 rfl rfl
   ·
    intro D v W hc hj hf K' hK'
    go_step
    exact hK'.out
   · rfl
   apply Reg.RP rfl rfl rfl 17 rfl rfl
   ·
    intro D v W hc hj hf K' hK'
    obtain ⟨j0, oa, ob⟩ := hj
    have c0 : World.cell? W ⟨w.heap.size + 1, 4 + i * 4, none⟩ = _ := ob.c _ hb0
    have c1 : World.cell? W ⟨w.heap.size + 1, 4 + i * 4 + 1, none⟩ = _ := ob.c _ hb1
    have c2 : World.cell? W ⟨w.heap.size + 1, 4 + i * 4 + 2, none⟩ = _ := ob.c _ hb2
    have c3 : World.cell? W ⟨w.heap.size + 1, 4 + i * 4 + 3, none⟩ = _ := ob.c _ hb3
    go_step
    exact hK'.out
   · rfl
   refine Reg.RC_call rfl (tlt rfl) rfl (fun D v W hc hj hf K' hK' => ?_) ?_
   ·
    obtain ⟨j0, oa, ob⟩ := hj
    go_step
    refine (sm _ j0).mono ?_
    rintro e W2 ⟨rfl, hs⟩
    exact hK'.out _ W2 Reg.any ⟨jst j0 hs, oa.steps hs, ob.steps hs⟩ trivial rfl
   rintro _ rfl
   refine Reg.RC_at (b := ⟨#[_,_,_,_,_,_,_,_,_,_,_,_,_,_,_,_,_,_,_,_], _⟩) rfl ?_
   apply Reg.RP rfl rfl rfl 19 rfl rfl
   ·
    intro D v W hc hj hf K' hK'
    go_step
    exact hK'.out
   · rfl
   refine Reg.RC_end (fun D v w9 hd hj hf => ?_)
   obtain ⟨j0, oa, ob⟩ := hj
   have B := j0
   clear hd hf j0
   refine hQ _ _ ?_
   clear hQ hops Q' ops'
   go_wp2
   go_roundw
   case rel => exact ⟨i + 1, by omega, by go_num, ownK, ownK, belowB⟩
   case measure => simp [intOf]; omega
  ·
   obtain rfl : i = 4 := by omega
   go_wp2
   go_returns
   exact ⟨rfl, belowB⟩
theorem eq_at4 (k0 k1 k2 k3 : Int) (w : World) : (Op.equalIn 10000 25 (.agg #[.int .i64 k0, .int .i64 k1, .int .i64 k2, .int .i64 k3]) (.agg #[.int .i64 k0, .int .i64 k1, .int .i64 k2, .int .i64 k3])).run Tryz.prog w = .ok true w := by
 have one : ∀ k : Int, (Op.equalIn 9999 3 (.int .i64 k) (.int .i64 k)).run Tryz.prog w = .ok true w := fun k => by
  have : (Op.equalIn 9999 3 (.int .i64 k) (.int .i64 k)).run Tryz.prog w = .ok (k == k) w := by kernel_rfl
  rw [this]; simp
 obtain ⟨i, hi⟩ : ∃ i, Tryz.prog.info? 3 = some i := Option.isSome_iff_exists.1 (by kernel_rfl)
 rw [show (10000 : Nat) = 9999 + 1 from rfl, run_equalIn_array w 9999 _ _ Tryz.underlying25 hi]
 have p0 : (part 3 #[.int .i64 k0, .int .i64 k1, .int .i64 k2, .int .i64 k3] (0 * Tryz.prog.cellsOf 3)).run Tryz.prog w = .ok (.int .i64 k0) w := by kernel_rfl
 have p1 : (part 3 #[.int .i64 k0, .int .i64 k1, .int .i64 k2, .int .i64 k3] (1 * Tryz.prog.cellsOf 3)).run Tryz.prog w = .ok (.int .i64 k1) w := by kernel_rfl
 have p2 : (part 3 #[.int .i64 k0, .int .i64 k1, .int .i64 k2, .int .i64 k3] (2 * Tryz.prog.cellsOf 3)).run Tryz.prog w = .ok (.int .i64 k2) w := by kernel_rfl
 have p3 : (part 3 #[.int .i64 k0, .int .i64 k1, .int .i64 k2, .int .i64 k3] (3 * Tryz.prog.cellsOf 3)).run Tryz.prog w = .ok (.int .i64 k3) w := by kernel_rfl
 rw [show List.range 4 = [0, 1, 2, 3] from rfl]
 simp only [Op.eqItems, Sem.run_bind, p0, p1, p2, p3, one, Result.andThen_ok, Bool.not_true, Bool.false_eq_true, if_false, Sem.run_pure]
theorem rSame {CA CB : Array Value} {k p q : Nat → Int} (w : World) (ha : QM w CA k p q) (hb : QM w CB k p q) (fp : ∀ i, i < 4 → fits (p i)) (fq : ∀ i, i < 4 → fits (q i)) :
  Calls Tryz.prog 10 #[.agg CA, .agg CB] w fun e w' => e = .returned (.bool true) ∧ Steps w w' := by
 have sc : ∀ w', Steps w w' → Calls Tryz.prog 24 #[.agg CA, .agg CB] w' fun e w2 => e = .returned (.bool true) ∧ Steps w' w2 := fun w' hs => rsameCode w' (ha.steps hs) (hb.steps hs) fp fq
 have ia : (Tryz.prog.info? 33).map (·.size) = some CA.size := by rw [ha.1]; kernel_rfl
 have ib : (Tryz.prog.info? 33).map (·.size) = some CB.size := by rw [hb.1]; kernel_rfl
 have HA := ha.2.2.1
 have HB := hb.2.2.1
 have a0 := HA 0 (by omega)
 have a1 := HA 1 (by omega)
 have a2 := HA 2 (by omega)
 have a3 := HA 3 (by omega)
 have b0 := HB 0 (by omega)
 have b1 := HB 1 (by omega)
 have b2 := HB 2 (by omega)
 have b3 := HB 3 (by omega)
 clear ha hb fp fq HA HB
 generalize k 0 = k0 at *
 generalize k 1 = k1 at *
 generalize k 2 = k2 at *
 generalize k 3 = k3 at *
 have q4 := eq_at4 k0 k1 k2 k3
 go_enter Tryz.func10, Tryz.ntmps10
 go_wp2_with (first | (refine load_bigG rfl 33 (.tmp 2) rfl (w.heap.size) rfl 33 CA _ ownK Tryz.underlying33 rfl ia ?_) | (refine load_bigG rfl 33 (.tmp 3) rfl (w.heap.size + 1) rfl 33 CB _ ownK Tryz.underlying33 rfl ib ?_))
 refine (sc _ belowB).mono ?_
 rintro e w1 ⟨rfl, hs1⟩
 have B : Below w.heap.size w w1 := belowA hs1
 clear hs1 sc
 go_wp2
 go_returns
 exact ⟨rfl, belowB⟩
theorem fits0 : fits 0 := by
 unfold fits
 rw [(limbs_nil (absN_nonneg _)).2 (by unfold absN; omega)]; decide
theorem codeS_fits {l : PL} (k : Nat → Int) (i : Nat) : fits (cP (cA (codeS l k).2 i) (codeS l k).2.n) ∧ fits (cQ (cA (codeS l k).2 i) (codeS l k).2.n) := by
 have z : fits (cP (cA noArr i) noArr.n) ∧ fits (cQ (cA noArr i) noArr.n) := ⟨fits0, fits0⟩
 unfold codeS
 split
 · exact z
 ·
  rename_i hc
  split
  · exact z
  ·
   rename_i ho
   split
   · exact z
   ·
    rename_i hw
    have ho' := Classical.not_not.1 ho
    have hc' := Classical.not_not.1 hc
    have hw' : 0 < wid l (KK k) := by have := wid_nonneg l (KK k); omega
    have nm := bestOf_num (fun i => chk_pts hc' _ (KK_lt ho' i)) hw'
    have hn : 0 < (bestOf l (KK k)).n := by rw [(bestOf_spec l (KK k) hw').2.1]; exact hw'
    have := (rA_sz nm hn i).fits (by omega)
    unfold cP cQ
    rw [if_neg (show ¬ (bestOf l (KK k)).n = 0 by omega), if_neg (show ¬ (bestOf l (KK k)).n = 0 by omega)]
    exact this
theorem lof (x y : Int) (w : World) (x0 : -9223372036854775808 ≤ x) (x1 : x ≤ 9223372036854775807) (y0 : -9223372036854775808 ≤ y) (y1 : y ≤ 9223372036854775807) (hy : y ≠ 0) :
  Calls Tryz.prog 6 #[.int .i64 x, .int .i64 y] w fun e w' => ∃ v, e = .returned v ∧ FR w' v ((x : Rat) / (y : Rat)) ∧ Steps w w' := by
 have of := fun w' => rofF x y w' x0 x1 y0 y1 hy
 clear x0 x1 y0 y1 hy
 go_enter Tryz.func6, Tryz.ntmps6
 go_wp2_with fail
 refine (of _).mono ?_
 rintro e w1 ⟨v, rfl, hv, hs⟩
 obtain ⟨p1, p2, p3, p4, p5, p6, p7, p8, rfl⟩ := hv.shape
 have B : Below w.heap.size w w1 := belowA hs
 have or : Blk w1 w.heap.size 30 #[.bool false, .slice none 0 0, .bool false, .slice none 0 0] := Blk.stepsK hs
 have zz := B.size
 clear hs of
 have lr := or.lt
 have fr := or.fr
 obtain ⟨cr0, cr1, cr2, cr3⟩ := or.r3
 dsimp only
 go_wp2_with fail
 refine bodyPost_ret (by simp [results, Tryz.results6, go_sem, lr, fr, cr0, cr1, cr2, cr3]; rfl) rfl ?_
 exact ⟨_, rfl, hv.keeps keepsB, belowB⟩
def given4 : PL := [(0, 0), (4, 0), (1, 1), (3, 2)]
theorem lgiven (w : World) : Calls Tryz.prog 26 #[] w fun e w' => ∃ v, e = .returned v ∧ Pts w' v given4 ∧ Steps w w' := by
 go_enter Tryz.func26, Tryz.ntmps26
 go_wp2
 go_returns
 refine ⟨_, rfl, ⟨fun k => ?_, some ⟨w.heap.size, 0, none⟩, 4, rfl, by decide, fun _ => ⟨w.heap.size, 0, rfl, by simp, fun t ht => ?_⟩⟩, belowB⟩
 ·
  rcases (show k = 0 ∨ k = 1 ∨ k = 2 ∨ k = 3 ∨ 4 ≤ k by omega) with rfl | rfl | rfl | rfl | h
  · decide
  · decide
  · decide
  · decide
  · rw [show given4.getD k (0, 0) = (0, 0) by unfold given4; simp [List.getD, List.getElem?_eq_none, h]]; decide
 ·
  have hb : Blk (w.alloc (.cells #[.int .i64 0, .int .i64 0, .int .i64 4, .int .i64 0, .int .i64 1, .int .i64 1, .int .i64 3, .int .i64 2] 23)) w.heap.size 23 #[.int .i64 0, .int .i64 0, .int .i64 4, .int .i64 0, .int .i64 1, .int .i64 1, .int .i64 3, .int .i64 2] := Blk.new _ _ _
  rcases (show t = 0 ∨ t = 1 ∨ t = 2 ∨ t = 3 by unfold given4 at ht; simp at ht; omega) with rfl | rfl | rfl | rfl
  · exact ⟨hb.c 0 rfl, hb.c 1 rfl⟩
  · exact ⟨hb.c 2 rfl, hb.c 3 rfl⟩
  · exact ⟨hb.c 4 rfl, hb.c 5 rfl⟩
  · exact ⟨hb.c 6 rfl, hb.c 7 rfl⟩
def k0123 (i : Nat) : Int := match i with | 0 => 0 | 1 => 1 | 2 => 2 | _ => 3
theorem given_best : bestOf given4 (KK k0123) = ⟨1, 0, 3, 2, 4, -8, 12, -4, 16⟩ := by decide +kernel
theorem given_code : codeS given4 k0123 = (0, ⟨1, 0, 3, 2, 4, -8, 12, -4, 16⟩) := by
 unfold codeS
 have h1 : chkP given4 = 0 := by decide
 have h2 : okIdx given4.length k0123 := fun i hi => by
  rcases (show i = 0 ∨ i = 1 ∨ i = 2 ∨ i = 3 by omega) with rfl | rfl | rfl | rfl
  · exact ⟨⟨by decide, by decide⟩, fun m hm => by omega⟩
  · exact ⟨⟨by decide, by decide⟩, fun m hm => by rcases (show m = 0 by omega) with rfl; decide⟩
  · exact ⟨⟨by decide, by decide⟩, fun m hm => by rcases (show m = 0 ∨ m = 1 by omega) with rfl | rfl <;> decide⟩
  · exact ⟨⟨by decide, by decide⟩, fun m hm => by rcases (show m = 0 ∨ m = 1 ∨ m = 2 by omega) with rfl | rfl | rfl <;> decide⟩
 have h3 : wid given4 (KK k0123) = 17 - 1 := by decide +kernel
 rw [if_neg (by rw [h1]; decide), if_neg (fun h => h h2), if_neg (by rw [h3]; decide), given_best]
theorem cq_frac {x n p q : Int} (hn : n ≠ 0) (hp : rdP x n = p) (hq : rdQ x n = q) : cP x n = p ∧ cQ x n = q := by
 unfold cP cQ
 rw [if_neg hn, if_neg hn, ← (rd_rat hn).1, ← (rd_rat hn).2]
 exact ⟨hp, hq⟩
theorem fr_nums {x y : Int} (hy : y ≠ 0) : ((x : Rat) / (y : Rat)).num = rdP x y ∧ (((x : Rat) / (y : Rat)).den : Int) = rdQ x y := ⟨(rd_rat hy).1.symm, (rd_rat hy).2.symm⟩
theorem FR.frn {w : World} {a b c d : Value} {x y : Int} (hy : y ≠ 0) (h : FR w (.agg #[a, b, c, d]) ((x : Rat) / (y : Rat))) : Frn w (rdP x y) (rdQ x y) a b c d := by
 obtain ⟨a2, a3, a4, a6, a7, a8, e, n1, n2, -⟩ := h.nums
 simp only [Value.agg.injEq, Array.mk.injEq, List.cons.injEq, and_true] at e
 obtain ⟨rfl, rfl, rfl, rfl⟩ := e
 rw [(fr_nums hy).1] at n1
 rw [(fr_nums hy).2] at n2
 exact ⟨n1, n2⟩
theorem lalive20 (w : World) : Calls Tryz.prog 13 #[] w fun e w' => e = .returned (.bool true) ∧ Steps w w' := by
 have qc : ∀ w' v, Pts w' v given4 → Calls Tryz.prog 5 #[v, .agg #[.int .i64 0, .int .i64 1, .int .i64 2, .int .i64 3]] w' fun e w2 => ∃ u, e = .returned (.tuple #[u, .int .i64 0]) ∧ QN w2 u ⟨1, 0, 3, 2, 4, -8, 12, -4, 16⟩ ∧ Steps w' w2 := fun w' v h => by
  have := qcode k0123 w' h (by decide) (fun i => by unfold k0123; split <;> decide)
  refine this.mono ?_
  rintro e w2 ⟨u, rfl, h1, h2⟩
  rw [given_code] at h1 ⊢
  exact ⟨u, rfl, h1, h2⟩
 go_enter Tryz.func13, Tryz.ntmps13
 go_wp2_with fail
 refine (lgiven _).mono ?_
 rintro e w1 ⟨v, rfl, hv, hs1⟩
 have B : Below w.heap.size w w1 := belowA hs1
 obtain ⟨ao, cap, rfl⟩ := hv.shape
 clear hs1
 dsimp only
 go_wp2_with fail
 refine (qc _ _ hv).mono ?_
 rintro e w2 ⟨u, rfl, hq, hs2⟩
 obtain ⟨CA, rfl, qa⟩ := hq.qm
 replace B := below_steps B (Nat.le_refl _) hs2
 have ia : (Tryz.prog.info? 33).map (·.size) = some CA.size := by rw [qa.1]; kernel_rfl
 have sa := qa.1
 have na := qa.2.1
 clear hq hs2 hv qc
 dsimp only
 go_wp2_with (first | (refine store_big rfl 33 (.tmp 1) (.tmp 8) rfl (w2.heap.size) CA rfl rfl 33 #[.int .i64 0, .int .i64 0, .int .i64 0, .int .i64 0, .bool false, .slice none 0 0, .bool false, .slice none 0 0, .bool false, .slice none 0 0, .bool false, .slice none 0 0, .bool false, .slice none 0 0, .bool false, .slice none 0 0, .bool false, .slice none 0 0, .bool false, .slice none 0 0] ownK ia sa.symm na (fun w3 r3 => ?_); have oq := r3.blk; have B3 := r3.below (B.alloc B.size _) B.size; have kp3 : Keeps w2 w3 := Keeps.trans keepsB (r3.keeps rfl)))
 refine (lof 1 4 _ (by decide) (by decide) (by decide) (by decide) (by decide)).mono ?_
 rintro e w4 ⟨uu, rfl, hu, hs4⟩
 obtain ⟨u1, u2, u3, u4, u5, u6, u7, u8, rfl⟩ := hu.shape
 replace B3 := below_steps B3 (Nat.le_refl _) hs4
 replace oq := oq.steps hs4
 replace qa := (qa.keeps kp3).steps hs4
 clear hs4 kp3 B r3
 go_wp2_with fail
 refine (lof (-1) 2 _ (by decide) (by decide) (by decide) (by decide) (by decide)).mono ?_
 rintro e w5 ⟨uu, rfl, hv, hs5⟩
 obtain ⟨v1, v2, v3, v4, v5, v6, v7, v8, rfl⟩ := hv.shape
 replace B3 := below_steps B3 (Nat.le_refl _) hs5
 replace oq := oq.steps hs5
 replace qa := qa.steps hs5
 replace hu := hu.keeps (Keeps.steps hs5)
 clear hs5
 go_wp2_with fail
 refine (lof 3 4 _ (by decide) (by decide) (by decide) (by decide) (by decide)).mono ?_
 rintro e w6 ⟨uu, rfl, hx, hs6⟩
 obtain ⟨s1, s2, s3, s4, s5, s6, s7, s8, rfl⟩ := hx.shape
 replace B3 := below_steps B3 (Nat.le_refl _) hs6
 replace oq := oq.steps hs6
 replace qa := qa.steps hs6
 replace hu := hu.keeps (Keeps.steps hs6)
 replace hv := hv.keeps (Keeps.steps hs6)
 clear hs6
 go_wp2_with fail
 refine (lof (-1) 4 _ (by decide) (by decide) (by decide) (by decide) (by decide)).mono ?_
 rintro e w7 ⟨uu, rfl, hy, hs7⟩
 obtain ⟨t1, t2, t3, t4, t5, t6, t7, t8, rfl⟩ := hy.shape
 replace B3 := below_steps B3 (Nat.le_refl _) hs7
 replace oq := oq.steps hs7
 replace qa := qa.steps hs7
 replace hu := hu.keeps (Keeps.steps hs7)
 replace hv := hv.keeps (Keeps.steps hs7)
 replace hx := hx.keeps (Keeps.steps hs7)
 clear hs7
 have z7 := oq.lt
 dsimp only
 go_wp2_with (first | (refine build_big rfl 31 #[(0, .tmp 11), (1, .tmp 12), (2, .tmp 13), (3, .tmp 14)] rfl #[.bool u1, .slice u2 u3 u4, .bool u5, .slice u6 u7 u8, .bool v1, .slice v2 v3 v4, .bool v5, .slice v6 v7 v8, .bool s1, .slice s2 s3 s4, .bool s5, .slice s6 s7 s8, .bool t1, .slice t2 t3 t4, .bool t5, .slice t6 t7 t8] (by kernel_rfl) ?_) | (refine build_big rfl 33 #[(0, .tmp 10), (1, .tmp 15)] rfl #[.int .i64 1, .int .i64 0, .int .i64 3, .int .i64 2, .bool u1, .slice u2 u3 u4, .bool u5, .slice u6 u7 u8, .bool v1, .slice v2 v3 v4, .bool v5, .slice v6 v7 v8, .bool s1, .slice s2 s3 s4, .bool s5, .slice s6 s7 s8, .bool t1, .slice t2 t3 t4, .bool t5, .slice t6 t7 t8] (by kernel_rfl) ?_) | (refine store_big rfl 33 (.tmp 3) (.tmp 16) rfl (w7.heap.size) #[.int .i64 1, .int .i64 0, .int .i64 3, .int .i64 2, .bool u1, .slice u2 u3 u4, .bool u5, .slice u6 u7 u8, .bool v1, .slice v2 v3 v4, .bool v5, .slice v6 v7 v8, .bool s1, .slice s2 s3 s4, .bool s5, .slice s6 s7 s8, .bool t1, .slice t2 t3 t4, .bool t5, .slice t6 t7 t8] rfl rfl 33 #[.int .i64 0, .int .i64 0, .int .i64 0, .int .i64 0, .bool false, .slice none 0 0, .bool false, .slice none 0 0, .bool false, .slice none 0 0, .bool false, .slice none 0 0, .bool false, .slice none 0 0, .bool false, .slice none 0 0, .bool false, .slice none 0 0, .bool false, .slice none 0 0] ownK (by kernel_rfl) rfl (by simp [Value.oneCell']) (fun w8 r8 => ?_); have or := r8.blk; have B8 := r8.below (B3.alloc B3.size _) B3.size; have oq8 := r8.far (oq.alloc _) (by omega); have kp8 : Keeps w7 w8 := Keeps.trans keepsB (r8.keeps rfl)) | (refine load_bigG rfl 33 (.tmp 1) rfl (w2.heap.size) rfl 33 CA _ oq8 Tryz.underlying33 rfl ia ?_) | (refine load_bigG rfl 33 (.tmp 3) rfl (w7.heap.size) rfl 33 #[.int .i64 1, .int .i64 0, .int .i64 3, .int .i64 2, .bool u1, .slice u2 u3 u4, .bool u5, .slice u6 u7 u8, .bool v1, .slice v2 v3 v4, .bool v5, .slice v6 v7 v8, .bool s1, .slice s2 s3 s4, .bool s5, .slice s6 s7 s8, .bool t1, .slice t2 t3 t4, .bool t5, .slice t6 t7 t8] _ or Tryz.underlying33 rfl (by kernel_rfl) ?_))
 have qa8 := qa.keeps kp8
 have qw : QM w8 #[.int .i64 1, .int .i64 0, .int .i64 3, .int .i64 2, .bool u1, .slice u2 u3 u4, .bool u5, .slice u6 u7 u8, .bool v1, .slice v2 v3 v4, .bool v5, .slice v6 v7 v8, .bool s1, .slice s2 s3 s4, .bool s5, .slice s6 s7 s8, .bool t1, .slice t2 t3 t4, .bool t5, .slice t6 t7 t8] (kA ⟨1, 0, 3, 2, 4, -8, 12, -4, 16⟩) (fun i => cP (cA ⟨1, 0, 3, 2, 4, -8, 12, -4, 16⟩ i) 16) (fun i => cQ (cA ⟨1, 0, 3, 2, 4, -8, 12, -4, 16⟩ i) 16) := by
  have f0 := (hu.keeps kp8).frn (by decide)
  have f1 := (hv.keeps kp8).frn (by decide)
  have f2 := (hx.keeps kp8).frn (by decide)
  have f3 := (hy.keeps kp8).frn (by decide)
  have g0 := cq_frac (x := 4) (n := 16) (p := rdP 1 4) (q := rdQ 1 4) (by decide) (by decide +kernel) (by decide +kernel)
  have g1 := cq_frac (x := -8) (n := 16) (p := rdP (-1) 2) (q := rdQ (-1) 2) (by decide) (by decide +kernel) (by decide +kernel)
  have g2 := cq_frac (x := 12) (n := 16) (p := rdP 3 4) (q := rdQ 3 4) (by decide) (by decide +kernel) (by decide +kernel)
  have g3 := cq_frac (x := -4) (n := 16) (p := rdP (-1) 4) (q := rdQ (-1) 4) (by decide) (by decide +kernel) (by decide +kernel)
  refine ⟨rfl, by simp [Value.oneCell'], fun i hi => ?_, fun i hi => ?_⟩
  · rcases (show i = 0 ∨ i = 1 ∨ i = 2 ∨ i = 3 by omega) with rfl | rfl | rfl | rfl <;> rfl
  ·
   rcases (show i = 0 ∨ i = 1 ∨ i = 2 ∨ i = 3 by omega) with rfl | rfl | rfl | rfl
   · exact ⟨_, _, _, _, rfl, rfl, rfl, rfl, by show Frn _ (cP 4 16) (cQ 4 16) _ _ _ _; rw [g0.1, g0.2]; exact f0⟩
   · exact ⟨_, _, _, _, rfl, rfl, rfl, rfl, by show Frn _ (cP (-8) 16) (cQ (-8) 16) _ _ _ _; rw [g1.1, g1.2]; exact f1⟩
   · exact ⟨_, _, _, _, rfl, rfl, rfl, rfl, by show Frn _ (cP 12 16) (cQ 12 16) _ _ _ _; rw [g2.1, g2.2]; exact f2⟩
   · exact ⟨_, _, _, _, rfl, rfl, rfl, rfl, by show Frn _ (cP (-4) 16) (cQ (-4) 16) _ _ _ _; rw [g3.1, g3.2]; exact f3⟩
 have hfit := fun i => codeS_fits (l := given4) k0123 i
 rw [given_code] at hfit
 have sm := rSame w8 qa8 qw (fun i _ => (hfit i).1) (fun i _ => (hfit i).2)
 refine sm.mono ?_
 rintro e w9 ⟨rfl, hs9⟩
 replace B8 := below_steps B8 (Nat.le_refl _) hs9
 clear hs9 sm qw qa8 hfit oq8 or r8 kp8
 go_wp2
 go_returns
 exact ⟨rfl, belowB⟩
end Go.Proofs.YtibdehlmflaodaaGreat
