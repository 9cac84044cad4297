import Derived.ChangeKeysEq
import Derived.Test.YtibdehlmflaodaaCQt
namespace Go.Proofs.Ytibdehlmflaodaa
open Go.RowKit
def Frn (w : World) (x y : Int) (a b c d : Value) : Prop := Num w (.agg #[a, b]) x ∧ Num w (.agg #[c, d]) y
theorem Frn.keeps {w w' : World} {x y : Int} {a b c d : Value} (h : Frn w x y a b c d) (k : Keeps w w') : Frn w' x y a b c d := ⟨h.1.keeps k, h.2.keeps k⟩
theorem Num.parts2 {w : World} {a b : Value} {x : Int} (h : Num w (.agg #[a, b]) x) : ∃ g s n c, a = .bool g ∧ b = .slice s n c := by
  obtain ⟨s, e, hl⟩ := h
  obtain ⟨ao, cap, rfl⟩ := hl.shape
  simp only [Value.agg.injEq, Array.mk.injEq, List.cons.injEq, and_true] at e
  exact ⟨_, _, _, _, e.1, e.2⟩
set_option maxHeartbeats 6400000 in
set_option maxRecDepth 1000000 in
theorem rsameF {a b c d a' b' c' d' : Value} {x y : Int} (w : World) (h : Frn w x y a b c d) (h' : Frn w x y a' b' c' d') (fx : fits x) (fy : fits y) :
    Calls Try.prog 29 #[.agg #[a, b, c, d], .agg #[a', b', c', d']] w fun e w' => e = .returned (.bool true) ∧ Steps w w' := by
  have s1 : ∀ w', Steps w w' → Calls Try.prog 53 #[.agg #[a, b], .agg #[a', b']] w' fun e w2 => e = .returned (.bool true) ∧ Steps w' w2 := fun w' hs => by
    have := rsame w' (h.1.steps hs) (h'.1.steps hs) fx fx
    rwa [decide_eq_true rfl] at this
  have s2 : ∀ w', Steps w w' → Calls Try.prog 53 #[.agg #[c, d], .agg #[c', d']] w' fun e w2 => e = .returned (.bool true) ∧ Steps w' w2 := fun w' hs => by
    have := rsame w' (h.2.steps hs) (h'.2.steps hs) fy fy
    rwa [decide_eq_true rfl] at this
  obtain ⟨g1, t1, n1, q1, rfl, rfl⟩ := h.1.parts2
  obtain ⟨g2, t2, n2, q2, rfl, rfl⟩ := h.2.parts2
  obtain ⟨g3, t3, n3, q3, rfl, rfl⟩ := h'.1.parts2
  obtain ⟨g4, t4, n4, q4, rfl, rfl⟩ := h'.2.parts2
  clear h h' fx fy
  go_enter Try.func29, Try.ntmps29
  go_wp2_with fail
  refine (s1 _ belowB).mono ?_
  rintro e w1 ⟨rfl, hs1⟩
  have B : Below w.heap.size w w1 := belowA hs1
  have oa : Blk w1 (w.heap.size) 28 #[.bool g1, .slice t1 n1 q1, .bool g2, .slice t2 n2 q2] := Blk.stepsK hs1
  have ob : Blk w1 (w.heap.size + 1) 28 #[.bool g3, .slice t3 n3 q3, .bool g4, .slice t4 n4 q4] := Blk.stepsK hs1
  clear hs1 s1
  have ca2 := oa.q2
  have ca3 := oa.q3
  have cb2 := ob.q2
  have cb3 := ob.q3
  go_wp2_with fail
  refine (s2 _ B).mono ?_
  rintro e w2 ⟨rfl, hs2⟩
  have B2 := below_steps B (Nat.le_refl _) hs2
  clear oa ob ca2 ca3 cb2 cb3 hs2 B s2
  go_wp2
  go_returns
  exact ⟨rfl, belowB⟩
def QM (w : World) (cs : Array Value) (k p q : Nat → Int) : Prop := cs.size = 20 ∧ cs.all (·.oneCell') = true ∧ (∀ i, i < 4 → cs[i]? = some (.int .i64 (k i))) ∧
  ∀ i, i < 4 → ∃ a b c d, cs[4 + i * 4]? = some a ∧ cs[4 + i * 4 + 1]? = some b ∧ cs[4 + i * 4 + 2]? = some c ∧ cs[4 + i * 4 + 3]? = some d ∧ Frn w (p i) (q i) a b c d
theorem QM.keeps {w w' : World} {cs : Array Value} {k p q : Nat → Int} (h : QM w cs k p q) (kp : Keeps w w') : QM w' cs k p q := by
  obtain ⟨h1, h2, h3, h4⟩ := h
  refine ⟨h1, h2, h3, fun i hi => ?_⟩
  obtain ⟨a, b, c, d, c0, c1, c2, c3, f⟩ := h4 i hi
  exact ⟨a, b, c, d, c0, c1, c2, c3, f.keeps kp⟩
theorem QM.steps {w w' : World} {cs : Array Value} {k p q : Nat → Int} (h : QM w cs k p q) (s : Steps w w') : QM w' cs k p q := h.keeps (Keeps.steps s)
theorem QN.qm {w : World} {v : Value} {a : Arr} (h : QN w v a) : ∃ cs, v = .agg cs ∧ QM w cs (kA a) (fun i => cP (cA a i) a.n) (fun i => cQ (cA a i) a.n) := by
  obtain ⟨c0, c1, c2, c3, c4, c5, c6, c7, c8, c9, c10, c11, c12, c13, c14, c15, rfl, h0, h1, h2, h3⟩ := h
  refine ⟨_, rfl, rfl, ?_, fun i hi => ?_, fun i hi => ?_⟩
  · obtain ⟨_, _, _, _, rfl, rfl⟩ := h0.1.parts2
    obtain ⟨_, _, _, _, rfl, rfl⟩ := h0.2.parts2
    obtain ⟨_, _, _, _, rfl, rfl⟩ := h1.1.parts2
    obtain ⟨_, _, _, _, rfl, rfl⟩ := h1.2.parts2
    obtain ⟨_, _, _, _, rfl, rfl⟩ := h2.1.parts2
    obtain ⟨_, _, _, _, rfl, rfl⟩ := h2.2.parts2
    obtain ⟨_, _, _, _, rfl, rfl⟩ := h3.1.parts2
    obtain ⟨_, _, _, _, rfl, rfl⟩ := h3.2.parts2
    simp [Value.oneCell']
  · rcases (show i = 0 ∨ i = 1 ∨ i = 2 ∨ i = 3 by omega) with rfl | rfl | rfl | rfl <;> rfl
  · rcases (show i = 0 ∨ i = 1 ∨ i = 2 ∨ i = 3 by omega) with rfl | rfl | rfl | rfl
    · exact ⟨_, _, _, _, rfl, rfl, rfl, rfl, h0⟩
    · exact ⟨_, _, _, _, rfl, rfl, rfl, rfl, h1⟩
    · exact ⟨_, _, _, _, rfl, rfl, rfl, rfl, h2⟩
    · exact ⟨_, _, _, _, rfl, rfl, rfl, rfl, h3⟩
set_option maxHeartbeats 6400000 in
set_option maxRecDepth 1000000 in
theorem rsameCode {CA CB : Array Value} {k k' p q : Nat → Int} (w : World) (ha : QM w CA k p q) (hb : QM w CB k' p q) (fp : ∀ i, i < 4 → fits (p i)) (fq : ∀ i, i < 4 → fits (q i)) :
    Calls Try.prog 14 #[.agg CA, .agg CB] w fun e w' => e = .returned (.bool true) ∧ Steps w w' := by
  have hca := ha.1
  have hcb := hb.1
  have HA := Hid.mk_ ha.2.2.2
  have HB := Hid.mk_ hb.2.2.2
  clear ha hb
  go_enter Try.func14, Try.ntmps14
  go_wp2_with fail
  go_loopw [5] (fun kk wr => ∃ i : Nat, i ≤ 4 ∧ kk = .int .i64 i ∧ Blk wr (w.heap.size) 31 CA ∧ Blk wr (w.heap.size + 1) 31 CB ∧ Below w.heap.size w wr) (fun kk _ => 4 - (intOf kk).toNat)
  case atStart => exact ⟨0, by omega, rfl, ownK, ownK, belowB⟩
  case round =>
    obtain ⟨i, hi, rfl, oa, ob, B⟩ := hrel
    rcases Nat.lt_or_ge i 4 with i4 | i4
    · have hlt : decide ((i : Int) < 4) = true := decide_eq_true (by omega)
      obtain ⟨a, b, c, d, ha0, ha1, ha2, ha3, fa⟩ := HA.out i i4
      obtain ⟨a', b', c', d', hb0, hb1, hb2, hb3, fb⟩ := HB.out i i4
      have fpi := fp i i4
      have fqi := fq i i4
      have sm : ∀ w', Steps w w' → Calls Try.prog 29 #[.agg #[a, b, c, d], .agg #[a', b', c', d']] w' fun e w2 => e = .returned (.bool true) ∧ Steps w' w2 := fun w' hs => rsameF w' (fa.keeps (Keeps.steps hs)) (fb.keeps (Keeps.steps hs)) fpi fqi
      clear fa fb fp fq fpi fqi
      go_wp2_with fail
      refine Reg.wp_chain (fun D v W => Below w.heap.size w W ∧ Blk W (w.heap.size) 31 CA ∧ Blk W (w.heap.size + 1) 31 CB) (Reg.inl [8]) (Reg.gv [(8, fun z_ => z_ = .bool true)]) Reg.None_ (fun _ => Reg.Any) (fun _ _ => False) (Reg.pl []) (Reg.pl [])
        (by kernel_rfl) (by kernel_rfl) (by kernel_rfl) (Reg.gv_some _ (by intro p hp; simp only [List.mem_cons, List.not_mem_nil, or_false] at hp; rcases hp with rfl <;> first | exact ⟨_, rfl⟩ | exact ⟨_, none, 0, 0, rfl⟩ | exact ⟨_, false, none, 0, 0, rfl⟩ | exact ⟨_, false, none, 0, 0, false, none, 0, 0, rfl⟩)) (fun _ => ⟨belowB, ownK, ownK⟩) (fun _ _ _ _ _ h => h) (fun _ _ _ _ _ _ _ _ _ _ _ _ _ => Reg.none_) (fun _ _ _ _ h => h.elim) (fun ops' Q' hops hQ => ?_)
      apply Reg.RC_pure (hc := rfl) (hst := rfl) (hw := rfl) (t := 10) (hd := rfl) (ht := Nat.le_of_ble_eq_true rfl)
      · intro D v W hc hj hf K' hK'
        go_step
        exact hK'.out
      · rfl
      apply Reg.RC_pure (hc := rfl) (hst := rfl) (hw := rfl) (t := 11) (hd := rfl) (ht := Nat.le_of_ble_eq_true rfl)
      · intro D v W hc hj hf K' hK'
        go_step
        exact hK'.out
      · rfl
      apply Reg.RC_pure (hc := rfl) (hst := rfl) (hw := rfl) (t := 12) (hd := rfl) (ht := Nat.le_of_ble_eq_true rfl)
      · intro D v W hc hj hf K' hK'
        go_step
        exact hK'.out
      · rfl
      apply Reg.RC_pure (hc := rfl) (hst := rfl) (hw := rfl) (t := 13) (hd := rfl) (ht := Nat.le_of_ble_eq_true rfl)
      · intro D v W hc hj hf K' hK'
        obtain ⟨j0, oa, ob⟩ := hj
        have c0 : World.cell? W ⟨w.heap.size, 4 + i * 4, none⟩ = _ := oa.c _ ha0
        have c1 : World.cell? W ⟨w.heap.size, 4 + i * 4 + 1, none⟩ = _ := oa.c _ ha1
        have c2 : World.cell? W ⟨w.heap.size, 4 + i * 4 + 2, none⟩ = _ := oa.c _ ha2
        have c3 : World.cell? W ⟨w.heap.size, 4 + i * 4 + 3, none⟩ = _ := oa.c _ ha3
        go_step
        exact hK'.out
      · rfl
      apply Reg.RC_pure (hc := rfl) (hst := rfl) (hw := rfl) (t := 14) (hd := rfl) (ht := Nat.le_of_ble_eq_true rfl)
      · intro D v W hc hj hf K' hK'
        go_step
        exact hK'.out
      · rfl
      apply Reg.RC_pure (hc := rfl) (hst := rfl) (hw := rfl) (t := 15) (hd := rfl) (ht := Nat.le_of_ble_eq_true rfl)
      · intro D v W hc hj hf K' hK'
        go_step
        exact hK'.out
      · rfl
      apply Reg.RC_pure (hc := rfl) (hst := rfl) (hw := rfl) (t := 16) (hd := rfl) (ht := Nat.le_of_ble_eq_true rfl)
      · intro D v W hc hj hf K' hK'
        go_step
        exact hK'.out
      · rfl
      apply Reg.RC_pure (hc := rfl) (hst := rfl) (hw := rfl) (t := 17) (hd := rfl) (ht := Nat.le_of_ble_eq_true rfl)
      · intro D v W hc hj hf K' hK'
        obtain ⟨j0, oa, ob⟩ := hj
        have c0 : World.cell? W ⟨w.heap.size + 1, 4 + i * 4, none⟩ = _ := ob.c _ hb0
        have c1 : World.cell? W ⟨w.heap.size + 1, 4 + i * 4 + 1, none⟩ = _ := ob.c _ hb1
        have c2 : World.cell? W ⟨w.heap.size + 1, 4 + i * 4 + 2, none⟩ = _ := ob.c _ hb2
        have c3 : World.cell? W ⟨w.heap.size + 1, 4 + i * 4 + 3, none⟩ = _ := ob.c _ hb3
        go_step
        exact hK'.out
      · rfl
      refine Reg.RC_call rfl (by intro t ht; cases ht; exact Nat.le_of_ble_eq_true rfl) rfl (fun D v W hc hj hf K' hK' => ?_) ?_
      · obtain ⟨j0, oa, ob⟩ := hj
        go_step
        refine (sm _ j0).mono ?_
        rintro e W2 ⟨rfl, hs⟩
        exact hK'.out _ W2 Reg.any ⟨below_steps j0 (Nat.le_refl _) hs, oa.steps hs, ob.steps hs⟩ trivial rfl
      rintro _ rfl
      refine Reg.RC_at (b := ⟨#[_,_,_,_,_,_,_,_,_,_,_,_,_,_,_,_,_,_,_,_], _⟩) rfl ?_
      apply Reg.RC_pure (hc := rfl) (hst := rfl) (hw := rfl) (t := 19) (hd := rfl) (ht := Nat.le_of_ble_eq_true rfl)
      · intro D v W hc hj hf K' hK'
        go_step
        exact hK'.out
      · rfl
      refine Reg.RC_end (fun D v w9 hd hj hf => ?_)
      obtain ⟨j0, oa, ob⟩ := hj
      have B := j0
      clear hd hf j0
      refine hQ _ _ ?_
      clear hQ hops Q' ops'
      go_wp2
      go_roundw
      case rel => exact ⟨i + 1, by omega, by go_num, ownK, ownK, belowB⟩
      case measure => simp [intOf]; omega
    · obtain rfl : i = 4 := by omega
      go_wp2
      go_returns
      exact ⟨rfl, belowB⟩
theorem eq_at4 (k0 k1 k2 k3 : Int) (w : World) : (Op.equalIn 10000 23 (.agg #[.int .i64 k0, .int .i64 k1, .int .i64 k2, .int .i64 k3]) (.agg #[.int .i64 k0, .int .i64 k1, .int .i64 k2, .int .i64 k3])).run Try.prog w = .ok true w := by
  have one : ∀ k : Int, (Op.equalIn 9999 3 (.int .i64 k) (.int .i64 k)).run Try.prog w = .ok true w := fun k => by
    have : (Op.equalIn 9999 3 (.int .i64 k) (.int .i64 k)).run Try.prog w = .ok (k == k) w := by kernel_rfl
    rw [this]; simp
  obtain ⟨i, hi⟩ : ∃ i, Try.prog.info? 3 = some i := Option.isSome_iff_exists.1 (by kernel_rfl)
  rw [show (10000 : Nat) = 9999 + 1 from rfl, run_equalIn_array w 9999 _ _ Try.underlying23 hi]
  have p0 : (part 3 #[.int .i64 k0, .int .i64 k1, .int .i64 k2, .int .i64 k3] (0 * Try.prog.cellsOf 3)).run Try.prog w = .ok (.int .i64 k0) w := by kernel_rfl
  have p1 : (part 3 #[.int .i64 k0, .int .i64 k1, .int .i64 k2, .int .i64 k3] (1 * Try.prog.cellsOf 3)).run Try.prog w = .ok (.int .i64 k1) w := by kernel_rfl
  have p2 : (part 3 #[.int .i64 k0, .int .i64 k1, .int .i64 k2, .int .i64 k3] (2 * Try.prog.cellsOf 3)).run Try.prog w = .ok (.int .i64 k2) w := by kernel_rfl
  have p3 : (part 3 #[.int .i64 k0, .int .i64 k1, .int .i64 k2, .int .i64 k3] (3 * Try.prog.cellsOf 3)).run Try.prog w = .ok (.int .i64 k3) w := by kernel_rfl
  rw [show List.range 4 = [0, 1, 2, 3] from rfl]
  simp only [Op.eqItems, Sem.run_bind, p0, p1, p2, p3, one, Result.andThen_ok, Bool.not_true, Bool.false_eq_true, if_false, Sem.run_pure]
set_option maxHeartbeats 6400000 in
set_option maxRecDepth 1000000 in
theorem rSame {CA CB : Array Value} {k p q : Nat → Int} (w : World) (ha : QM w CA k p q) (hb : QM w CB k p q) (fp : ∀ i, i < 4 → fits (p i)) (fq : ∀ i, i < 4 → fits (q i)) :
    Calls Try.prog 12 #[.agg CA, .agg CB] w fun e w' => e = .returned (.bool true) ∧ Steps w w' := by
  have sc : ∀ w', Steps w w' → Calls Try.prog 14 #[.agg CA, .agg CB] w' fun e w2 => e = .returned (.bool true) ∧ Steps w' w2 := fun w' hs => rsameCode w' (ha.steps hs) (hb.steps hs) fp fq
  have ia : (Try.prog.info? 31).map (·.size) = some CA.size := by rw [ha.1]; kernel_rfl
  have ib : (Try.prog.info? 31).map (·.size) = some CB.size := by rw [hb.1]; kernel_rfl
  have HA := ha.2.2.1
  have HB := hb.2.2.1
  have a0 := HA 0 (by omega)
  have a1 := HA 1 (by omega)
  have a2 := HA 2 (by omega)
  have a3 := HA 3 (by omega)
  have b0 := HB 0 (by omega)
  have b1 := HB 1 (by omega)
  have b2 := HB 2 (by omega)
  have b3 := HB 3 (by omega)
  clear ha hb fp fq HA HB
  generalize k 0 = k0 at *
  generalize k 1 = k1 at *
  generalize k 2 = k2 at *
  generalize k 3 = k3 at *
  have q4 := eq_at4 k0 k1 k2 k3
  go_enter Try.func12, Try.ntmps12
  go_wp2_with (first | (refine load_bigG rfl 31 (.tmp 2) rfl (w.heap.size) rfl 31 CA _ ownK Try.underlying31 rfl ia ?_) | (refine load_bigG rfl 31 (.tmp 3) rfl (w.heap.size + 1) rfl 31 CB _ ownK Try.underlying31 rfl ib ?_))
  refine (sc _ belowB).mono ?_
  rintro e w1 ⟨rfl, hs1⟩
  have B : Below w.heap.size w w1 := belowA hs1
  clear hs1 sc
  go_wp2
  go_returns
  exact ⟨rfl, belowB⟩
end Go.Proofs.Ytibdehlmflaodaa
namespace Go.Proofs.Ytibdehlmflaodaa
open Go.RowKit
end Go.Proofs.Ytibdehlmflaodaa
namespace Go.Proofs.Ytibdehlmflaodaa
open Go.RowKit
def given4 : PL := [(0, 0), (4, 0), (1, 1), (3, 2)]
def k0123 (i : Nat) : Int := match i with | 0 => 0 | 1 => 1 | 2 => 2 | _ => 3
end Go.Proofs.Ytibdehlmflaodaa
