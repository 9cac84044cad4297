import Derived.Test.YtibdehlmflaodaaGreatNQi
import Derived.Test.YtibdehlmflaodaaGreatNQe
set_option linter.unusedVariables false
set_option linter.unusedSimpArgs false
set_option maxHeartbeats 6400000
set_option maxRecDepth 1000000
namespace Go.Proofs.YtibdehlmflaodaaGreat
open Go.RowKit
def cP (x n : Int) : Int := if n = 0 then 0 else ((x : Rat) / (n : Rat)).num
def cQ (x n : Int) : Int := if n = 0 then 0 else (((x : Rat) / (n : Rat)).den : Int)
def QN (w : World) (v : Value) (a : Arr) : Prop :=
 ∃ c0 c1 c2 c3 c4 c5 c6 c7 c8 c9 c10 c11 c12 c13 c14 c15, v = .agg #[.int .i64 a.k0, .int .i64 a.k1, .int .i64 a.k2, .int .i64 a.k3, c0, c1, c2, c3, c4, c5, c6, c7, c8, c9, c10, c11, c12, c13, c14, c15] ∧
  (Num w (.agg #[c0, c1]) (cP a.a1 a.n) ∧ Num w (.agg #[c2, c3]) (cQ a.a1 a.n)) ∧ (Num w (.agg #[c4, c5]) (cP a.a2 a.n) ∧ Num w (.agg #[c6, c7]) (cQ a.a2 a.n)) ∧
  (Num w (.agg #[c8, c9]) (cP a.b1 a.n) ∧ Num w (.agg #[c10, c11]) (cQ a.b1 a.n)) ∧ (Num w (.agg #[c12, c13]) (cP a.b2 a.n) ∧ Num w (.agg #[c14, c15]) (cQ a.b2 a.n))
theorem QN.keeps {w w' : World} {v : Value} {a : Arr} (h : QN w v a) (k : Keeps w w') : QN w' v a := by
 obtain ⟨c0, c1, c2, c3, c4, c5, c6, c7, c8, c9, c10, c11, c12, c13, c14, c15, e, ⟨h0, h1⟩, ⟨h2, h3⟩, ⟨h4, h5⟩, ⟨h6, h7⟩⟩ := h
 exact ⟨c0, c1, c2, c3, c4, c5, c6, c7, c8, c9, c10, c11, c12, c13, c14, c15, e, ⟨h0.keeps k, h1.keeps k⟩, ⟨h2.keeps k, h3.keeps k⟩, ⟨h4.keeps k, h5.keeps k⟩, ⟨h6.keeps k, h7.keeps k⟩⟩
theorem QN.steps {w w' : World} {v : Value} {a : Arr} (h : QN w v a) (k : Steps w w') : QN w' v a := h.keeps (Keeps.steps k)
theorem Num.zero0 (w : World) : Num w (.agg #[.bool false, .slice none 0 0]) 0 := ⟨_, rfl, by
 have e : limbs (absN 0) = [] := (limbs_nil (absN_nonneg _)).2 (by unfold absN; omega)
 rw [e]; exact Lim.nil w⟩
theorem QN.zero (w : World) : QN w (.agg #[.int .i64 0, .int .i64 0, .int .i64 0, .int .i64 0, .bool false, .slice none 0 0, .bool false, .slice none 0 0, .bool false, .slice none 0 0, .bool false, .slice none 0 0, .bool false, .slice none 0 0, .bool false, .slice none 0 0, .bool false, .slice none 0 0, .bool false, .slice none 0 0]) noArr :=
 ⟨_, _, _, _, _, _, _, _, _, _, _, _, _, _, _, _, rfl, ⟨Num.zero0 w, Num.zero0 w⟩, ⟨Num.zero0 w, Num.zero0 w⟩, ⟨Num.zero0 w, Num.zero0 w⟩, ⟨Num.zero0 w, Num.zero0 w⟩⟩
theorem FR.num2 {w : World} {a b c d : Value} {x n : Int} (hn : 0 < n) (h : FR w (.agg #[a, b, c, d]) ((x : Rat) / (n : Rat))) : Num w (.agg #[a, b]) (cP x n) ∧ Num w (.agg #[c, d]) (cQ x n) := by
 obtain ⟨a2, a3, a4, a6, a7, a8, e, n1, n2, -⟩ := h.nums
 unfold cP cQ
 rw [if_neg (by omega), if_neg (by omega)]
 simp only [Value.agg.injEq, Array.mk.injEq, List.cons.injEq, and_true] at e
 obtain ⟨rfl, rfl, rfl, rfl⟩ := e
 exact ⟨n1, n2⟩
theorem QD.qn {w : World} {v : Value} {a : Arr} (hn : 0 < a.n) (h : QD w v a.k0 a.k1 a.k2 a.k3 ((a.a1 : Rat) / (a.n : Rat)) ((a.a2 : Rat) / (a.n : Rat)) ((a.b1 : Rat) / (a.n : Rat)) ((a.b2 : Rat) / (a.n : Rat))) : QN w v a := by
 obtain ⟨c0, c1, c2, c3, c4, c5, c6, c7, c8, c9, c10, c11, c12, c13, c14, c15, e, h0, h1, h2, h3⟩ := h
 exact ⟨c0, c1, c2, c3, c4, c5, c6, c7, c8, c9, c10, c11, c12, c13, c14, c15, e, h0.num2 hn, h1.num2 hn, h2.num2 hn, h3.num2 hn⟩
def okAt (n : Nat) (k : Nat → Int) (i : Nat) : Prop := (0 ≤ k i ∧ k i < n) ∧ ∀ m, m < i → k m ≠ k i
def okIdx (n : Nat) (k : Nat → Int) : Prop := ∀ i, i < 4 → okAt n k i
def KK (k : Nat → Int) : Nat → Nat := at4 (k 0).toNat (k 1).toNat (k 2).toNat (k 3).toNat
open Classical in
noncomputable def codeS (l : PL) (k : Nat → Int) : Int × Arr :=
 if chkP l ≠ 0 then (chkP l, noArr) else if ¬ okIdx l.length k then (2, noArr) else if wid l (KK k) = 0 then (18, noArr) else (0, bestOf l (KK k))
def CodeP (w : World) (l : PL) (k : Nat → Int) (e : Ending) (w' : World) : Prop := ∃ u, e = .returned (.tuple #[u, .int .i64 (codeS l k).1]) ∧ QN w' u (codeS l k).2 ∧ Steps w w'
theorem CodeP.none {w w' : World} {l : PL} {k : Nat → Int} {c : Int} (h : codeS l k = (c, noArr)) (st : Steps w w') : CodeP w l k (.returned (.tuple #[.agg #[.int .i64 0, .int .i64 0, .int .i64 0, .int .i64 0, .bool false, .slice none 0 0, .bool false, .slice none 0 0, .bool false, .slice none 0 0, .bool false, .slice none 0 0, .bool false, .slice none 0 0, .bool false, .slice none 0 0, .bool false, .slice none 0 0, .bool false, .slice none 0 0], .int .i64 c])) w' :=
 ⟨_, by rw [h], by rw [h]; exact QN.zero w', st⟩
theorem qcode_bad {v : Value} {l : PL} (k : Nat → Int) (w : World) (hv : Pts w v l) (hl : l.length ≤ 1000) (hc : chkP l ≠ 0) :
  Calls Tryz.prog 5 #[v, .agg #[.int .i64 (k 0), .int .i64 (k 1), .int .i64 (k 2), .int .i64 (k 3)]] w (CodeP w l k) := by
 have HS : Hid (codeS l k = (chkP l, noArr)) := if_pos hc
 have ck : ∀ w', Steps w w' → Calls Tryz.prog 16 #[v] w' fun e w2 => e = .returned (.int .i64 (chkP l)) ∧ Steps w' w2 := fun w' hs => qcheckP w' (hv.steps hs) hl
 obtain ⟨c, hcc⟩ : ∃ c, chkP l = c := ⟨_, rfl⟩
 rw [hcc] at HS ck hc
 have hc' : (c == 0) = false := by simpa using hc
 clear hv hcc
 go_enter Tryz.func5, Tryz.ntmps5
 go_wp2_with fail
 refine (ck _ belowB).mono ?_
 rintro e w1 ⟨rfl, hb1⟩
 have st : Steps _ w1 := hb1
 have B : Below w.heap.size w w1 := belowA st
 have or : Blk w1 (w.heap.size + 1) 33 #[.int .i64 0, .int .i64 0, .int .i64 0, .int .i64 0, .bool false, .slice none 0 0, .bool false, .slice none 0 0, .bool false, .slice none 0 0, .bool false, .slice none 0 0, .bool false, .slice none 0 0, .bool false, .slice none 0 0, .bool false, .slice none 0 0, .bool false, .slice none 0 0] := Blk.stepsK st
 clear st ck hb1
 go_wp2_with (first | (refine build_big rfl 33 #[] rfl #[.int .i64 0, .int .i64 0, .int .i64 0, .int .i64 0, .bool false, .slice none 0 0, .bool false, .slice none 0 0, .bool false, .slice none 0 0, .bool false, .slice none 0 0, .bool false, .slice none 0 0, .bool false, .slice none 0 0, .bool false, .slice none 0 0, .bool false, .slice none 0 0] (by kernel_rfl) ?_) | (refine store_big rfl 33 (.tmp 4) (.tmp 17) rfl (w.heap.size + 1) #[.int .i64 0, .int .i64 0, .int .i64 0, .int .i64 0, .bool false, .slice none 0 0, .bool false, .slice none 0 0, .bool false, .slice none 0 0, .bool false, .slice none 0 0, .bool false, .slice none 0 0, .bool false, .slice none 0 0, .bool false, .slice none 0 0, .bool false, .slice none 0 0] rfl rfl 33 #[.int .i64 0, .int .i64 0, .int .i64 0, .int .i64 0, .bool false, .slice none 0 0, .bool false, .slice none 0 0, .bool false, .slice none 0 0, .bool false, .slice none 0 0, .bool false, .slice none 0 0, .bool false, .slice none 0 0, .bool false, .slice none 0 0, .bool false, .slice none 0 0] ownK (by kernel_rfl) rfl (by simp [Value.oneCell']) (fun wz rz => ?_)))
 refine bodyPost_ret (results_row2 rfl _ _ (w.heap.size + 1) rfl (cs := #[.int .i64 0, .int .i64 0, .int .i64 0, .int .i64 0, .bool false, .slice none 0 0, .bool false, .slice none 0 0, .bool false, .slice none 0 0, .bool false, .slice none 0 0, .bool false, .slice none 0 0, .bool false, .slice none 0 0, .bool false, .slice none 0 0, .bool false, .slice none 0 0]) rz.blk Tryz.underlying33 rfl (by kernel_rfl)) rfl ?_
 have Bz := rz.below B (Nat.le_succ _)
 exact CodeP.none HS.out Bz
structure NumOk (a : Arr) : Prop where
 a1 : -35184372088832 ≤ a.a1 ∧ a.a1 ≤ 35184372088832
 a2 : -35184372088832 ≤ a.a2 ∧ a.a2 ≤ 35184372088832
 b1 : -35184372088832 ≤ a.b1 ∧ a.b1 ≤ 35184372088832
 b2 : -35184372088832 ≤ a.b2 ∧ a.b2 ≤ 35184372088832
 n : 0 ≤ a.n ∧ a.n ≤ 35184372088832
theorem arr4_num {p q r s : Int × Int} (k0 k1 k2 k3 : Nat) (h0 : okp p.1 p.2) (h1 : okp q.1 q.2) (h2 : okp r.1 r.2) (h3 : okp s.1 s.2) : NumOk (arr4 k0 k1 k2 k3 p q r s) := by
 have a := sm_mul (okp_sm h2 h0) (okp_sm h1 h0)
 have b := sm_mul (okp_sm h3 h0) (okp_sm h1 h0)
 have c := sm_mul (okp_sm h1 h0) (okp_sm h1 h0)
 have d := csq_nonneg (q.1 - p.1) (q.2 - p.2)
 refine ⟨?_, ?_, ?_, ?_, ?_⟩ <;> (unfold arr4 ; try unfold cre; try unfold cim; try unfold sqd) <;> dsimp only
 · omega
 · omega
 · omega
 · omega
 · unfold csq at *; omega
theorem bestOf_num {l : PL} {K : Nat → Nat} (hp : ∀ i, okp (pt l (K i)).1 (pt l (K i)).2) (h : 0 < wid l K) : NumOk (bestOf l K) := by
 obtain ⟨h1, -, -⟩ := bestOf_spec l K h
 obtain ⟨p, -, e⟩ := List.mem_map.1 h1
 rw [← e]
 exact arr4_num _ _ _ _ (hp _) (hp _) (hp _) (hp _)
theorem QD.cells {w : World} {v : Value} {k0 k1 k2 k3 : Int} {r0 r1 r2 r3 : Rat} (h : QD w v k0 k1 k2 k3 r0 r1 r2 r3) : ∃ cs, v = .agg cs ∧ cs.size = 20 ∧ cs.all (·.oneCell') = true := by
 obtain ⟨c0, c1, c2, c3, c4, c5, c6, c7, c8, c9, c10, c11, c12, c13, c14, c15, e, h0, h1, h2, h3⟩ := h
 obtain ⟨_, _, _, _, _, _, _, _, e0⟩ := h0.shape
 obtain ⟨_, _, _, _, _, _, _, _, e1⟩ := h1.shape
 obtain ⟨_, _, _, _, _, _, _, _, e2⟩ := h2.shape
 obtain ⟨_, _, _, _, _, _, _, _, e3⟩ := h3.shape
 simp only [Value.agg.injEq, Array.mk.injEq, List.cons.injEq, and_true] at e0 e1 e2 e3
 obtain ⟨rfl, rfl, rfl, rfl⟩ := e0
 obtain ⟨rfl, rfl, rfl, rfl⟩ := e1
 obtain ⟨rfl, rfl, rfl, rfl⟩ := e2
 obtain ⟨rfl, rfl, rfl, rfl⟩ := e3
 exact ⟨_, e, rfl, by simp [Value.oneCell']⟩
theorem qquadA (a : Arr) (w : World) (h : NumOk a) (hn : 0 < a.n) : Calls Tryz.prog 18 #[.agg (arrC a)] w fun e w' => ∃ cs, e = .returned (.tuple #[.agg cs, .int .i64 0]) ∧ QN w' (.agg cs) a ∧ (cs.size = 20 ∧ cs.all (·.oneCell') = true) ∧ Steps w w' := by
 refine Calls.mono (qquad a.k0 a.k1 a.k2 a.k3 a.a1 a.a2 a.b1 a.b2 a.n w ⟨by have := h.a1; omega, by have := h.a1; omega⟩ ⟨by have := h.a2; omega, by have := h.a2; omega⟩ ⟨by have := h.b1; omega, by have := h.b1; omega⟩ ⟨by have := h.b2; omega, by have := h.b2; omega⟩ ⟨hn, by have := h.n; omega⟩) ?_
 rintro e w' ⟨v, rfl, hq, hs⟩
 obtain ⟨cs, rfl, h1, h2⟩ := hq.cells
 exact ⟨cs, rfl, hq.qn hn, ⟨h1, h2⟩, hs⟩
theorem chk_pts {l : PL} (h : chkP l = 0) (k : Nat) (hk : k < l.length) : okp (pt l k).1 (pt l k).2 := by
 unfold chkP at h
 split at h
 · cases h
 ·
  split at h
  ·
   rename_i hq
   have hm : pt l k ∈ l := by
    unfold pt
    simp only [List.getD, List.getElem?_eq_getElem hk, Option.getD_some]
    exact List.getElem_mem hk
   obtain ⟨q1, q2, q3, q4⟩ := hq _ hm
   exact ⟨q1, q2, q3, q4⟩
  · cases h
theorem KK_lt {n : Nat} {k : Nat → Int} (h : okIdx n k) (i : Nat) : KK k i < n := by
 have h0 := (h 0 (by omega)).1
 have h1 := (h 1 (by omega)).1
 have h2 := (h 2 (by omega)).1
 have h3 := (h 3 (by omega)).1
 unfold KK at4
 split <;> omega
theorem retC {w w' : World} {l : PL} {k : Nat → Int} {u : Value} (h : codeS l k = (0, bestOf l (KK k))) (hq : QN w' u (bestOf l (KK k))) (st : Steps w w') : CodeP w l k (.returned (.tuple #[u, .int .i64 0])) w' := ⟨u, by rw [h], by rw [h]; exact hq, st⟩
theorem qcode_in {v : Value} {l : PL} (k : Nat → Int) (w : World) (hv : Pts w v l) (hl : l.length ≤ 1000) (hb : ∀ i, -9223372036854775808 ≤ k i ∧ k i ≤ 9223372036854775807) (hc : chkP l = 0) :
  Calls Tryz.prog 5 #[v, .agg #[.int .i64 (k 0), .int .i64 (k 1), .int .i64 (k 2), .int .i64 (k 3)]] w (CodeP w l k) := by
 have HB : ∀ i, i < 4 → ¬ okAt l.length k i → Hid (codeS l k = (2, noArr)) := fun i hi h => by
  show codeS l k = _
  unfold codeS
  rw [if_neg (by rw [hc]; simp), if_pos (fun hq => h (hq i hi))]
 have HN : okIdx l.length k → wid l (KK k) = 0 → Hid (codeS l k = (18, noArr)) := fun h h2 => by
  show codeS l k = _
  unfold codeS
  rw [if_neg (by rw [hc]; simp), if_neg (fun hq => hq h), if_pos h2]
 have HG : okIdx l.length k → wid l (KK k) ≠ 0 → Hid (codeS l k = (0, bestOf l (KK k))) := fun h h2 => by
  show codeS l k = _
  unfold codeS
  rw [if_neg (by rw [hc]; simp), if_neg (fun hq => hq h), if_neg h2]
 have hck := qcheckP w hv hl
 have ck : ∀ w', Steps w w' → Calls Tryz.prog 16 #[v] w' fun e w2 => e = .returned (.int .i64 0) ∧ Steps w' w2 := fun w' hs => by rw [← hc]; exact qcheckP w' (hv.steps hs) hl
 have cf : okIdx l.length k → ∀ w', Steps w w' → Calls Tryz.prog 17 #[v, .agg #[.int .i64 (k 0), .int .i64 (k 1), .int .i64 (k 2), .int .i64 (k 3)]] w' fun e w2 => e = .returned (.tuple #[.agg (arrC (bestOf l (KK k))), .bool (decide (0 < (bestOf l (KK k)).n))]) ∧ Steps w' w2 := fun h w' hs => by
  have := qfirst (k 0).toNat (k 1).toNat (k 2).toNat (k 3).toNat w' (hv.steps hs) (fun i => KK_lt h i) (fun i => chk_pts hc _ (KK_lt h i))
  rw [Int.toNat_of_nonneg (h 0 (by omega)).1.1, Int.toNat_of_nonneg (h 1 (by omega)).1.1, Int.toNat_of_nonneg (h 2 (by omega)).1.1, Int.toNat_of_nonneg (h 3 (by omega)).1.1] at this
  exact this
 have cq : okIdx l.length k → wid l (KK k) ≠ 0 → ∀ w', Calls Tryz.prog 18 #[.agg (arrC (bestOf l (KK k)))] w' fun e w2 => ∃ cs, e = .returned (.tuple #[.agg cs, .int .i64 0]) ∧ QN w2 (.agg cs) (bestOf l (KK k)) ∧ (cs.size = 20 ∧ cs.all (·.oneCell') = true) ∧ Steps w' w2 := fun h h2 w' => by
  have hw : 0 < wid l (KK k) := by have := wid_nonneg l (KK k); omega
  exact qquadA _ w' (bestOf_num (fun i => chk_pts hc _ (KK_lt h i)) hw) (by rw [(bestOf_spec l (KK k) hw).2.1]; exact hw)
 have hn0 : wid l (KK k) = 0 → Hid ((bestOf l (KK k)).n = 0) := fun h => by show (bestOf l (KK k)).n = 0; rw [bestOf_none _ _ h]; rfl
 have hn1 : wid l (KK k) ≠ 0 → Hid (0 < (bestOf l (KK k)).n) := fun h => by
  have hw : 0 < wid l (KK k) := by have := wid_nonneg l (KK k); omega
  show 0 < (bestOf l (KK k)).n
  rw [(bestOf_spec l (KK k) hw).2.1]; exact hw
 obtain ⟨ao, cap, rfl⟩ := hv.shape
 obtain ⟨len, hlen⟩ : ∃ n, l.length = n := ⟨_, rfl⟩
 rw [hlen] at HB HN HG ck cf cq hl ⊢
 have hk4 : ∀ i, i < 4 → (#[.int .i64 (k 0), .int .i64 (k 1), .int .i64 (k 2), .int .i64 (k 3)] : Array Value)[i]? = some (.int .i64 (k i)) := fun i hi => by rcases (show i = 0 ∨ i = 1 ∨ i = 2 ∨ i = 3 by omega) with rfl | rfl | rfl | rfl <;> rfl
 have hix : ∀ i : Nat, i < 4 → ∀ w' : World, (Instr.index 25 (.agg #[.int .i64 (k 0), .int .i64 (k 1), .int .i64 (k 2), .int .i64 (k 3)]) (.int .i64 i)).run Tryz.prog w' = .ok (.int .i64 (k i)) w' := fun i hi w' => by rcases (show i = 0 ∨ i = 1 ∨ i = 2 ∨ i = 3 by omega) with rfl | rfl | rfl | rfl <;> kernel_rfl
 clear hv hck hc hlen
 go_enter Tryz.func5, Tryz.ntmps5
 go_wp2_with fail
 refine (ck _ belowB).mono ?_
 rintro e w1 ⟨rfl, hb1⟩
 have st : Steps _ w1 := hb1
 have B : Below w.heap.size w w1 := belowA st
 have oa : Blk w1 (w.heap.size) 25 #[.int .i64 (k 0), .int .i64 (k 1), .int .i64 (k 2), .int .i64 (k 3)] := Blk.stepsK st
 have or : Blk w1 (w.heap.size + 1) 33 #[.int .i64 0, .int .i64 0, .int .i64 0, .int .i64 0, .bool false, .slice none 0 0, .bool false, .slice none 0 0, .bool false, .slice none 0 0, .bool false, .slice none 0 0, .bool false, .slice none 0 0, .bool false, .slice none 0 0, .bool false, .slice none 0 0, .bool false, .slice none 0 0] := Blk.stepsK st
 clear st ck hb1
 have ca0 := oa.c 0 (hk4 0 (by omega))
 have ca1 := oa.c 1 (hk4 1 (by omega))
 have ca2 := oa.c 2 (hk4 2 (by omega))
 have ca3 := oa.c 3 (hk4 3 (by omega))
 go_wp2_with fail
 clear ca0 ca1 ca2 ca3
 go_loopw [20] (fun kk wr => ∃ i : Nat, i ≤ 4 ∧ kk = .int .i64 i ∧ (∀ j, j < i → okAt len k j) ∧ Blk wr (w.heap.size) 25 #[.int .i64 (k 0), .int .i64 (k 1), .int .i64 (k 2), .int .i64 (k 3)] ∧ Blk wr (w.heap.size + 1) 33 #[.int .i64 0, .int .i64 0, .int .i64 0, .int .i64 0, .bool false, .slice none 0 0, .bool false, .slice none 0 0, .bool false, .slice none 0 0, .bool false, .slice none 0 0, .bool false, .slice none 0 0, .bool false, .slice none 0 0, .bool false, .slice none 0 0, .bool false, .slice none 0 0] ∧ Below w.heap.size w wr) (fun kk _ => 4 - (intOf kk).toNat)
 case atStart => exact ⟨0, by omega, rfl, fun _ h => by omega, ownK, ownK, belowB⟩
 case round =>
  obtain ⟨i, hi, rfl, hall, za, zr, zB⟩ := hrel
  clear oa or B
  rcases Nat.lt_or_ge i 4 with i4 | i4
  ·
   have ix := hix i i4
   have bi := hb i
   have HX := HB i i4
   unfold okAt at HX
   have hlt : decide ((i : Int) < 4) = true := decide_eq_true (by omega)
   have hsl : ∀ w' : World, (Instr.sliceAt 25 (.pointer (some ⟨w.heap.size, 0, none⟩)) none (some (.int .i64 (i : Int))) none).run Tryz.prog w' = .ok (.slice (some ⟨w.heap.size, 0, none⟩) i 4) w' := fun w' => by rcases (show i = 0 ∨ i = 1 ∨ i = 2 ∨ i = 3 by omega) with rfl | rfl | rfl | rfl <;> kernel_rfl
   obtain ⟨x, hx⟩ : ∃ x, k i = x := ⟨_, rfl⟩
   rw [hx] at ix bi HX
   by_cases b0 : x < 0
   ·
    have E := HX (by omega)
    clear HB HN HG cf cq hn0 hn1 hix hb hk4 hall HX
    go_wp2_with (first | (refine build_big rfl 33 #[] rfl #[.int .i64 0, .int .i64 0, .int .i64 0, .int .i64 0, .bool false, .slice none 0 0, .bool false, .slice none 0 0, .bool false, .slice none 0 0, .bool false, .slice none 0 0, .bool false, .slice none 0 0, .bool false, .slice none 0 0, .bool false, .slice none 0 0, .bool false, .slice none 0 0] (by kernel_rfl) ?_) | (refine store_big rfl 33 (.tmp 4) (.tmp 32) rfl (w.heap.size + 1) #[.int .i64 0, .int .i64 0, .int .i64 0, .int .i64 0, .bool false, .slice none 0 0, .bool false, .slice none 0 0, .bool false, .slice none 0 0, .bool false, .slice none 0 0, .bool false, .slice none 0 0, .bool false, .slice none 0 0, .bool false, .slice none 0 0, .bool false, .slice none 0 0] rfl rfl 33 #[.int .i64 0, .int .i64 0, .int .i64 0, .int .i64 0, .bool false, .slice none 0 0, .bool false, .slice none 0 0, .bool false, .slice none 0 0, .bool false, .slice none 0 0, .bool false, .slice none 0 0, .bool false, .slice none 0 0, .bool false, .slice none 0 0, .bool false, .slice none 0 0] ownK (by kernel_rfl) rfl (by simp [Value.oneCell']) (fun wz rz => ?_)))
    refine bodyPost_ret (results_row2 rfl _ _ (w.heap.size + 1) rfl (cs := #[.int .i64 0, .int .i64 0, .int .i64 0, .int .i64 0, .bool false, .slice none 0 0, .bool false, .slice none 0 0, .bool false, .slice none 0 0, .bool false, .slice none 0 0, .bool false, .slice none 0 0, .bool false, .slice none 0 0, .bool false, .slice none 0 0, .bool false, .slice none 0 0]) rz.blk Tryz.underlying33 rfl (by kernel_rfl)) rfl ?_
    exact CodeP.none E.out (rz.below zB (Nat.le_succ _))
   by_cases b1 : (len : Int) ≤ x
   ·
    have E := HX (by omega)
    clear HB HN HG cf cq hn0 hn1 hix hb hk4 hall HX
    go_wp2_with (first | (refine build_big rfl 33 #[] rfl #[.int .i64 0, .int .i64 0, .int .i64 0, .int .i64 0, .bool false, .slice none 0 0, .bool false, .slice none 0 0, .bool false, .slice none 0 0, .bool false, .slice none 0 0, .bool false, .slice none 0 0, .bool false, .slice none 0 0, .bool false, .slice none 0 0, .bool false, .slice none 0 0] (by kernel_rfl) ?_) | (refine store_big rfl 33 (.tmp 4) (.tmp 32) rfl (w.heap.size + 1) #[.int .i64 0, .int .i64 0, .int .i64 0, .int .i64 0, .bool false, .slice none 0 0, .bool false, .slice none 0 0, .bool false, .slice none 0 0, .bool false, .slice none 0 0, .bool false, .slice none 0 0, .bool false, .slice none 0 0, .bool false, .slice none 0 0, .bool false, .slice none 0 0] rfl rfl 33 #[.int .i64 0, .int .i64 0, .int .i64 0, .int .i64 0, .bool false, .slice none 0 0, .bool false, .slice none 0 0, .bool false, .slice none 0 0, .bool false, .slice none 0 0, .bool false, .slice none 0 0, .bool false, .slice none 0 0, .bool false, .slice none 0 0, .bool false, .slice none 0 0] ownK (by kernel_rfl) rfl (by simp [Value.oneCell']) (fun wz rz => ?_)))
    refine bodyPost_ret (results_row2 rfl _ _ (w.heap.size + 1) rfl (cs := #[.int .i64 0, .int .i64 0, .int .i64 0, .int .i64 0, .bool false, .slice none 0 0, .bool false, .slice none 0 0, .bool false, .slice none 0 0, .bool false, .slice none 0 0, .bool false, .slice none 0 0, .bool false, .slice none 0 0, .bool false, .slice none 0 0, .bool false, .slice none 0 0]) rz.blk Tryz.underlying33 rfl (by kernel_rfl)) rfl ?_
    exact CodeP.none E.out (rz.below zB (Nat.le_succ _))
   go_wp2_with fail
   go_loopw [36] (fun mm wr => ∃ m : Nat, m ≤ i ∧ mm = .int .i64 m ∧ (∀ j, j < m → k j ≠ x) ∧ Blk wr (w.heap.size) 25 #[.int .i64 (k 0), .int .i64 (k 1), .int .i64 (k 2), .int .i64 (k 3)] ∧ Blk wr (w.heap.size + 1) 33 #[.int .i64 0, .int .i64 0, .int .i64 0, .int .i64 0, .bool false, .slice none 0 0, .bool false, .slice none 0 0, .bool false, .slice none 0 0, .bool false, .slice none 0 0, .bool false, .slice none 0 0, .bool false, .slice none 0 0, .bool false, .slice none 0 0, .bool false, .slice none 0 0] ∧ Below w.heap.size w wr) (fun mm _ => i - (intOf mm).toNat)
   case atStart => exact ⟨0, by omega, rfl, fun _ h => by omega, ownK, ownK, belowB⟩
   case round =>
    obtain ⟨m, hm, rfl, hal2, ya, yr, yB⟩ := hrel
    clear za zr zB
    rcases Nat.lt_or_ge m i with mi | mi
    ·
     have cm := ya.c m (hk4 m (by omega))
     have hlm : decide ((m : Int) < (i : Int)) = true := decide_eq_true (by omega)
     obtain ⟨y, hy⟩ : ∃ y, k m = y := ⟨_, rfl⟩
     rw [hy] at cm
     by_cases e : y = x
     ·
      subst e
      have E := HX (fun h => h.2 m mi hy)
      clear HB HN HG cf cq hn0 hn1 hix hb hk4 hall HX hal2
      go_wp2_with (first | (refine build_big rfl 33 #[] rfl #[.int .i64 0, .int .i64 0, .int .i64 0, .int .i64 0, .bool false, .slice none 0 0, .bool false, .slice none 0 0, .bool false, .slice none 0 0, .bool false, .slice none 0 0, .bool false, .slice none 0 0, .bool false, .slice none 0 0, .bool false, .slice none 0 0, .bool false, .slice none 0 0] (by kernel_rfl) ?_) | (refine store_big rfl 33 (.tmp 4) (.tmp 43) rfl (w.heap.size + 1) #[.int .i64 0, .int .i64 0, .int .i64 0, .int .i64 0, .bool false, .slice none 0 0, .bool false, .slice none 0 0, .bool false, .slice none 0 0, .bool false, .slice none 0 0, .bool false, .slice none 0 0, .bool false, .slice none 0 0, .bool false, .slice none 0 0, .bool false, .slice none 0 0] rfl rfl 33 #[.int .i64 0, .int .i64 0, .int .i64 0, .int .i64 0, .bool false, .slice none 0 0, .bool false, .slice none 0 0, .bool false, .slice none 0 0, .bool false, .slice none 0 0, .bool false, .slice none 0 0, .bool false, .slice none 0 0, .bool false, .slice none 0 0, .bool false, .slice none 0 0] ownK (by kernel_rfl) rfl (by simp [Value.oneCell']) (fun wz rz => ?_)))
      refine bodyPost_ret (results_row2 rfl _ _ (w.heap.size + 1) rfl (cs := #[.int .i64 0, .int .i64 0, .int .i64 0, .int .i64 0, .bool false, .slice none 0 0, .bool false, .slice none 0 0, .bool false, .slice none 0 0, .bool false, .slice none 0 0, .bool false, .slice none 0 0, .bool false, .slice none 0 0, .bool false, .slice none 0 0, .bool false, .slice none 0 0]) rz.blk Tryz.underlying33 rfl (by kernel_rfl)) rfl ?_
      exact CodeP.none E.out (rz.below yB (Nat.le_succ _))
     ·
      have hne : (y == x) = false := by simpa using e
      go_wp2
      go_roundw
      case rel =>
       refine ⟨m + 1, by omega, by go_num, fun j hj => ?_, ownK, ownK, belowB⟩
       rcases Nat.lt_or_ge j m with g | g
       · exact hal2 j g
       ·
        obtain rfl : j = m := by omega
        rw [hy]; exact e
      case measure => simp [intOf]; omega
    ·
     obtain rfl : m = i := by omega
     go_wp2
     go_roundw
     case rel =>
      refine ⟨m + 1, by omega, by go_num, fun j hj => ?_, ownK, ownK, belowB⟩
      rcases Nat.lt_or_ge j m with g | g
      · exact hall j g
      ·
       obtain rfl : j = m := by omega
       unfold okAt
       rw [hx]
       exact ⟨by omega, hal2⟩
     case measure => simp [intOf]; omega
  ·
   obtain rfl : i = 4 := by omega
   have OK : okIdx len k := fun j hj => hall j hj
   replace cf := cf OK
   replace cq := cq OK
   replace HN := HN OK
   replace HG := HG OK
   have ca0 := za.c 0 (hk4 0 (by omega))
   have ca1 := za.c 1 (hk4 1 (by omega))
   have ca2 := za.c 2 (hk4 2 (by omega))
   have ca3 := za.c 3 (hk4 3 (by omega))
   clear HB hall hix hb OK hk4
   obtain ⟨a, ha⟩ : ∃ a, bestOf l (KK k) = a := ⟨_, rfl⟩
   rw [ha] at cf cq hn0 hn1
   go_wp2_with fail
   refine (cf _ zB).mono ?_
   rintro e w2 ⟨rfl, st⟩
   have oa := za.steps st
   have or := zr.steps st
   have B := below_steps zB (Nat.le_refl _) st
   clear za zr zB st cf ca0 ca1 ca2 ca3
   have lr := or.lt
   by_cases hw : wid l (KK k) = 0
   ·
    have E := HN hw
    have hz : decide (0 < a.n) = false := decide_eq_false (by have := (hn0 hw).out; omega)
    clear cq HG HN hn0 hn1 ha
    rw [hz]
    dsimp only
    go_wp2_with (first | (refine store_big rfl 57 (.tmp 11) (.tmp 50) rfl (w2.heap.size) (arrC a) rfl rfl 57 #[.int .i64 0, .int .i64 0, .int .i64 0, .int .i64 0, .int .i64 0, .int .i64 0, .int .i64 0, .int .i64 0, .int .i64 0] ownK (by kernel_rfl) rfl (arrC_one a) (fun wa ra => ?_); have or2 := ra.far (or.alloc _) (by omega); have B2 := ra.below (B.alloc B.size _) B.size) | (refine build_big rfl 33 #[] rfl #[.int .i64 0, .int .i64 0, .int .i64 0, .int .i64 0, .bool false, .slice none 0 0, .bool false, .slice none 0 0, .bool false, .slice none 0 0, .bool false, .slice none 0 0, .bool false, .slice none 0 0, .bool false, .slice none 0 0, .bool false, .slice none 0 0, .bool false, .slice none 0 0] (by kernel_rfl) ?_) | (refine store_big rfl 33 (.tmp 4) (.tmp 54) rfl (w.heap.size + 1) #[.int .i64 0, .int .i64 0, .int .i64 0, .int .i64 0, .bool false, .slice none 0 0, .bool false, .slice none 0 0, .bool false, .slice none 0 0, .bool false, .slice none 0 0, .bool false, .slice none 0 0, .bool false, .slice none 0 0, .bool false, .slice none 0 0, .bool false, .slice none 0 0] rfl rfl 33 #[.int .i64 0, .int .i64 0, .int .i64 0, .int .i64 0, .bool false, .slice none 0 0, .bool false, .slice none 0 0, .bool false, .slice none 0 0, .bool false, .slice none 0 0, .bool false, .slice none 0 0, .bool false, .slice none 0 0, .bool false, .slice none 0 0, .bool false, .slice none 0 0] or2 (by kernel_rfl) rfl (by simp [Value.oneCell']) (fun wz rz => ?_)))
    refine bodyPost_ret (results_row2 rfl _ _ (w.heap.size + 1) rfl (cs := #[.int .i64 0, .int .i64 0, .int .i64 0, .int .i64 0, .bool false, .slice none 0 0, .bool false, .slice none 0 0, .bool false, .slice none 0 0, .bool false, .slice none 0 0, .bool false, .slice none 0 0, .bool false, .slice none 0 0, .bool false, .slice none 0 0, .bool false, .slice none 0 0]) rz.blk Tryz.underlying33 rfl (by kernel_rfl)) rfl ?_
    exact CodeP.none E.out (rz.below B2 (Nat.le_succ _))
   ·
    have E := HG hw
    have hz : decide (0 < a.n) = true := decide_eq_true (hn1 hw).out
    replace cq := cq hw
    clear HG HN hn0 hn1
    rw [hz]
    dsimp only
    go_wp2_with (first | (refine store_big rfl 57 (.tmp 11) (.tmp 50) rfl (w2.heap.size) (arrC a) rfl rfl 57 #[.int .i64 0, .int .i64 0, .int .i64 0, .int .i64 0, .int .i64 0, .int .i64 0, .int .i64 0, .int .i64 0, .int .i64 0] ownK (by kernel_rfl) rfl (arrC_one a) (fun wa ra => ?_); have or2 := ra.far (or.alloc _) (by omega); have B2 := ra.below (B.alloc B.size _) B.size) | (refine load_big rfl 57 (.tmp 11) rfl (w2.heap.size) rfl 57 (arrC a) _ ra.blk Tryz.underlying57 rfl (by kernel_rfl) ?_))
    refine (cq _).mono ?_
    rintro e w3 ⟨cs, rfl, hq, ⟨hsz, hone⟩, st3⟩
    have or3 := or2.steps st3
    have B3 := below_steps B2 (Nat.le_refl _) st3
    have hi : (Tryz.prog.info? 33).map (·.size) = some cs.size := by rw [hsz]; kernel_rfl
    clear or or2 B B2 cq hz st3
    dsimp only
    go_wp2_with (first | (refine store_big rfl 33 (.tmp 4) (.tmp 57) rfl (w.heap.size + 1) cs rfl rfl 33 #[.int .i64 0, .int .i64 0, .int .i64 0, .int .i64 0, .bool false, .slice none 0 0, .bool false, .slice none 0 0, .bool false, .slice none 0 0, .bool false, .slice none 0 0, .bool false, .slice none 0 0, .bool false, .slice none 0 0, .bool false, .slice none 0 0, .bool false, .slice none 0 0] or3 hi hsz.symm hone (fun wz rz => ?_)))
    refine bodyPost_ret (results_row2 rfl _ _ (w.heap.size + 1) rfl (cs := cs) rz.blk Tryz.underlying33 rfl hi) rfl ?_
    have hq2 := hq.keeps (rz.keeps rfl)
    rw [← ha] at hq2
    exact retC E.out hq2 (rz.below B3 (Nat.le_succ _))
theorem qcode {v : Value} {l : PL} (k : Nat → Int) (w : World) (hv : Pts w v l) (hl : l.length ≤ 1000) (hb : ∀ i, -9223372036854775808 ≤ k i ∧ k i ≤ 9223372036854775807) :
  Calls Tryz.prog 5 #[v, .agg #[.int .i64 (k 0), .int .i64 (k 1), .int .i64 (k 2), .int .i64 (k 3)]] w (CodeP w l k) := by
 by_cases hc : chkP l = 0
 · exact qcode_in k w hv hl hb hc
 · exact qcode_bad k w hv hl hc
end Go.Proofs.YtibdehlmflaodaaGreat
namespace Go.Proofs.YtibdehlmflaodaaGreat
open Go.RowKit
theorem rofF (x y : Int) (w : World) (x0 : -9223372036854775808 ≤ x) (x1 : x ≤ 9223372036854775807) (y0 : -9223372036854775808 ≤ y) (y1 : y ≤ 9223372036854775807) (hy : y ≠ 0) :
  Calls Tryz.prog 19 #[.int .i64 x, .int .i64 y] w fun e w' => ∃ v, e = .returned (.tuple #[v, .int .i64 0]) ∧ FR w' v ((x : Rat) / (y : Rat)) ∧ Steps w w' := by
 refine (rof x y w x0 x1 y0 y1 hy).mono ?_
 rintro e w' ⟨v, rfl, h1, h2⟩
 exact ⟨v, rfl, FR.of_rd hy h1, h2⟩
end Go.Proofs.YtibdehlmflaodaaGreat
namespace Go.Proofs.YtibdehlmflaodaaGreat
open Go.RowKit
def wrow (l : PL) (K : Nat → Nat) (i : Nat) (b : Int) : Nat → Int
 | 0 => b
 | k + 1 => max (wrow l K i b k) (dst l K i k)
def wtot (l : PL) (K : Nat → Nat) : Nat → Int
 | 0 => 0
 | i + 1 => wrow l K i (wtot l K i) i
theorem Pts.at {w : World} {ao : Option Addr} {len cap : Nat} {l : PL} (h : Pts w (.slice ao len cap) l) {a : Nat} (ha : a < l.length) : ∃ b o, ao = some ⟨b, o, none⟩ ∧ b < w.heap.size ∧ w.cell? ⟨b, o + a * 2, none⟩ = some (.int .i64 (pt l a).1) ∧ w.cell? ⟨b, o + a * 2 + 1, none⟩ = some (.int .i64 (pt l a).2) := by
 obtain ⟨e, -, h2⟩ := h.cells
 obtain ⟨b, o, e1, hb, hc⟩ := h2 (by omega)
 exact ⟨b, o, e1, hb, (hc a ha).1, (hc a ha).2⟩
end Go.Proofs.YtibdehlmflaodaaGreat
namespace Go.Proofs.YtibdehlmflaodaaGreat
open Go.RowKit
def QF (w : World) (cs : Array Value) (k : Nat → Int) (r : Nat → Rat) : Prop := cs.size = 20 ∧ cs.all (·.oneCell') = true ∧ (∀ i, i < 4 → cs[i]? = some (.int .i64 (k i))) ∧
 ∀ i, i < 4 → ∃ a1 a2 a3 a4 a5 a6 a7 a8, cs[4 + i * 4]? = some (.bool a1) ∧ cs[4 + i * 4 + 1]? = some (.slice a2 a3 a4) ∧ cs[4 + i * 4 + 2]? = some (.bool a5) ∧ cs[4 + i * 4 + 3]? = some (.slice a6 a7 a8) ∧ FR w (.agg #[.bool a1, .slice a2 a3 a4, .bool a5, .slice a6 a7 a8]) (r i)
theorem QF.keeps {w w' : World} {cs : Array Value} {k : Nat → Int} {r : Nat → Rat} (h : QF w cs k r) (kp : Keeps w w') : QF w' cs k r := by
 obtain ⟨h1, h2, h3, h4⟩ := h
 refine ⟨h1, h2, h3, fun i hi => ?_⟩
 obtain ⟨a1, a2, a3, a4, a5, a6, a7, a8, c0, c1, c2, c3, f⟩ := h4 i hi
 exact ⟨a1, a2, a3, a4, a5, a6, a7, a8, c0, c1, c2, c3, f.keeps kp⟩
theorem QF.steps {w w' : World} {cs : Array Value} {k : Nat → Int} {r : Nat → Rat} (h : QF w cs k r) (s : Steps w w') : QF w' cs k r := h.keeps (Keeps.steps s)
end Go.Proofs.YtibdehlmflaodaaGreat
namespace Go.Proofs.YtibdehlmflaodaaGreat
open Go.RowKit
def kA (a : Arr) (i : Nat) : Int := match i with | 0 => a.k0 | 1 => a.k1 | 2 => a.k2 | _ => a.k3
def cA (a : Arr) (i : Nat) : Int := match i with | 0 => a.a1 | 1 => a.a2 | 2 => a.b1 | _ => a.b2
def rA (a : Arr) (i : Nat) : Rat := (cA a i : Rat) / (a.n : Rat)
def IsFF (x : Value) : Prop := ∃ u v, IsFr u ∧ IsFr v ∧ x = .tuple #[u, v]
def GFF (r s : Rat) (x : Value) (W : World) : Prop := ∃ u v, x = .tuple #[u, v] ∧ FR W u r ∧ FR W v s
theorem GFF.keeps {r s : Rat} (x : Value) (W W' : World) (k : Keeps W W') (h : GFF r s x W) : GFF r s x W' := by obtain ⟨u, v, e, h1, h2⟩ := h; exact ⟨u, v, e, h1.keeps k, h2.keeps k⟩
theorem GFF.get {r s : Rat} {u v : Value} {W : World} (h : GFF r s (.tuple #[u, v]) W) : FR W u r ∧ FR W v s := by
 obtain ⟨u', v', e, h1, h2⟩ := h
 simp only [Value.tuple.injEq, Array.mk.injEq, List.cons.injEq, and_true] at e
 obtain ⟨rfl, rfl⟩ := e
 exact ⟨h1, h2⟩
end Go.Proofs.YtibdehlmflaodaaGreat
namespace Go.Proofs.YtibdehlmflaodaaGreat
open Go.RowKit
def sgn2 (x y : Int) : Prop := (x < 0 ↔ y < 0) ∧ (x = 0 ↔ y = 0)
theorem sgn2.sub (x y : Int) : sgn2 (x - y) (cmpI x y) := by
 unfold sgn2 cmpI
 split
 · omega
 · split <;> omega
theorem sgn2.refl (x : Int) : sgn2 x x := ⟨Iff.rfl, Iff.rfl⟩
def befE (a c : Arr) : Nat → Int
 | 0 => cmpQ (rA a 0 + rA a 2) (rA c 0 + rA c 2)
 | n + 1 => orI (befE a c n) (if n < 4 then cmpQ (rA a n) (rA c n) else kA a (n - 4) - kA c (n - 4))
theorem absN_le {x m : Int} (h0 : -m ≤ x) (h1 : x ≤ m) : absN x ≤ m := by unfold absN; omega
theorem rA_sz {a : Arr} (h : NumOk a) (hn : 0 < a.n) (i : Nat) : sz (rA a i) 2 := by
 have e : bp 2 = 18446744073709551616 := by decide
 unfold rA
 refine sz_frac (by omega) ?_ ?_
 ·
  have : -35184372088832 ≤ cA a i ∧ cA a i ≤ 35184372088832 := by
   unfold cA; split
   · exact h.a1
   · exact h.a2
   · exact h.b1
   · exact h.b2
  rw [e]; exact absN_le (by omega) (by omega)
 ·
  have := h.n
  rw [e]; exact absN_le (by omega) (by omega)
def bestU (l : PL) (K : Nat → Nat) (N : Int) (a b c : Nat) : Option Arr := bestR N ((upto4 a b c).map (arrOf l K))
end Go.Proofs.YtibdehlmflaodaaGreat
namespace Go.Proofs.YtibdehlmflaodaaGreat
open Go.RowKit
def FoundC (wr : World) (g : Nat) (ff : Value) : Option Arr → Prop
 | none => ff = .bool false ∧ Blk wr g 33 #[.int .i64 0, .int .i64 0, .int .i64 0, .int .i64 0, .bool false, .slice none 0 0, .bool false, .slice none 0 0, .bool false, .slice none 0 0, .bool false, .slice none 0 0, .bool false, .slice none 0 0, .bool false, .slice none 0 0, .bool false, .slice none 0 0, .bool false, .slice none 0 0]
 | some x => ff = .bool true ∧ ∃ cs, Blk wr g 33 cs ∧ QF wr cs (kA x) (rA x)
theorem FoundC.steps {w w' : World} {g : Nat} {ff : Value} {o : Option Arr} (h : FoundC w g ff o) (s : Steps w w') : FoundC w' g ff o := by
 cases o with
 | none => exact ⟨h.1, h.2.steps s⟩
 | some x => obtain ⟨e, cs, h1, h2⟩ := h; exact ⟨e, cs, h1.steps s, h2.steps s⟩
theorem FoundC.lt {w : World} {g : Nat} {ff : Value} {o : Option Arr} (h : FoundC w g ff o) : g < w.heap.size := by
 cases o with
 | none => exact h.2.lt
 | some x => obtain ⟨e, cs, h1, h2⟩ := h; exact h1.lt
def IsQ (x : Value) : Prop := ∃ cs : Array Value, x = .agg cs ∧ cs.size = 20 ∧ cs.all (·.oneCell') = true
def GQ (k : Nat → Int) (r : Nat → Rat) (x : Value) (W : World) : Prop := ∃ cs, x = .agg cs ∧ QF W cs k r
theorem GQ.keeps {k : Nat → Int} {r : Nat → Rat} (x : Value) (W W' : World) (kp : Keeps W W') (h : GQ k r x W) : GQ k r x W' := by obtain ⟨cs, e, h⟩ := h; exact ⟨cs, e, h.keeps kp⟩
theorem GQ.get {k : Nat → Int} {r : Nat → Rat} {cs : Array Value} {W : World} (h : GQ k r (.agg cs) W) : QF W cs k r := by obtain ⟨cs', e, h⟩ := h; injection e with e; subst e; exact h
theorem load_bigG {P : Program} {ops : Array Oper} {rest : List Oper} {o : Oper} {a : Act} {w : World} {Q : Exit → Act → World → Prop} (hw : Region.wanted o (yielded ops a.tmps) = true) (ty : TypeId) (x : Operand) (ho : o.op = .load ty x) (g : Nat) (hx : a.eval x = .pointer (some ⟨g, 0, none⟩)) (t : TypeId) (cs : Array Value) (d : TypeDesc) (hg : Blk w g t cs)
  (hu : P.underlying ty = some d) (hd : (match d with | .struct _ | .array _ _ => true | _ => false) = true) (hi : (P.info? ty).map (·.size) = some cs.size)
  (h : wpList P ops Q rest (a.put o.dst (.agg cs)) w) : wpList P ops Q (o :: rest) a w := by
 unfold wpList
 rw [if_pos hw]
 exact .inl (wp_load_row ty x ho g hx t cs (0, 0) d hg hu hd hi h)
theorem QF.noU {w : World} {cs : Array Value} {k : Nat → Int} {r : Nat → Rat} (h : QF w cs k r) : noU32 cs = true := by
 obtain ⟨hs, -, hk, hf⟩ := h
 unfold noU32
 rw [List.all_eq_true]
 intro x hx
 obtain ⟨j, hj, e⟩ := List.getElem_of_mem hx
 have hj20 : j < 20 := by simpa [hs] using hj
 have e2 : cs[j]? = some x := by rw [← e]; simp at hj ⊢
 have key : ∀ i, i < 4 → ∀ m, m < 4 → cs[4 + i * 4 + m]? = some x → (match x with | .int .u32 _ => false | _ => true) = true := fun i hi m hm h => by
  obtain ⟨a1, a2, a3, a4, a5, a6, a7, a8, c0, c1, c2, c3, -⟩ := hf i hi
  rcases (show m = 0 ∨ m = 1 ∨ m = 2 ∨ m = 3 by omega) with rfl | rfl | rfl | rfl
  · rw [Nat.add_zero, c0] at h; injection h with h; subst h; rfl
  · rw [c1] at h; injection h with h; subst h; rfl
  · rw [c2] at h; injection h with h; subst h; rfl
  · rw [c3] at h; injection h with h; subst h; rfl
 rcases Nat.lt_or_ge j 4 with g | g
 · rw [hk j g] at e2; injection e2 with e2; subst e2; rfl
 ·
  refine key ((j - 4) / 4) (by omega) ((j - 4) % 4) (by omega) ?_
  rw [show 4 + (j - 4) / 4 * 4 + (j - 4) % 4 = j by omega]; exact e2
end Go.Proofs.YtibdehlmflaodaaGreat
namespace Go.Proofs.YtibdehlmflaodaaGreat
open Go.RowKit
theorem QF.qn {w : World} {cs : Array Value} {a : Arr} (hn : 0 < a.n) (h : QF w cs (kA a) (rA a)) : QN w (.agg cs) a := by
 obtain ⟨hs, -, hk, hf⟩ := h
 obtain ⟨l⟩ := cs
 replace hs : l.length = 20 := by simpa using hs
 match l, hs with
 | [x0, x1, x2, x3, x4, x5, x6, x7, x8, x9, x10, x11, x12, x13, x14, x15, x16, x17, x18, x19], _ =>
  obtain ⟨a1, a2, a3, a4, a5, a6, a7, a8, p0, p1, p2, p3, f0⟩ := hf 0 (by omega)
  obtain ⟨b1, b2, b3, b4, b5, b6, b7, b8, p4, p5, p6, p7, f1⟩ := hf 1 (by omega)
  obtain ⟨c1, c2, c3, c4, c5, c6, c7, c8, p8, p9, p10, p11, f2⟩ := hf 2 (by omega)
  obtain ⟨d1, d2, d3, d4, d5, d6, d7, d8, p12, p13, p14, p15, f3⟩ := hf 3 (by omega)
  have k0 := hk 0 (by omega)
  have k1 := hk 1 (by omega)
  have k2 := hk 2 (by omega)
  have k3 := hk 3 (by omega)
  replace k0 : some x0 = some _ := k0
  injection k0 with k0
  replace k1 : some x1 = some _ := k1
  injection k1 with k1
  replace k2 : some x2 = some _ := k2
  injection k2 with k2
  replace k3 : some x3 = some _ := k3
  injection k3 with k3
  replace p0 : some x4 = some _ := p0
  injection p0 with p0
  replace p1 : some x5 = some _ := p1
  injection p1 with p1
  replace p2 : some x6 = some _ := p2
  injection p2 with p2
  replace p3 : some x7 = some _ := p3
  injection p3 with p3
  replace p4 : some x8 = some _ := p4
  injection p4 with p4
  replace p5 : some x9 = some _ := p5
  injection p5 with p5
  replace p6 : some x10 = some _ := p6
  injection p6 with p6
  replace p7 : some x11 = some _ := p7
  injection p7 with p7
  replace p8 : some x12 = some _ := p8
  injection p8 with p8
  replace p9 : some x13 = some _ := p9
  injection p9 with p9
  replace p10 : some x14 = some _ := p10
  injection p10 with p10
  replace p11 : some x15 = some _ := p11
  injection p11 with p11
  replace p12 : some x16 = some _ := p12
  injection p12 with p12
  replace p13 : some x17 = some _ := p13
  injection p13 with p13
  replace p14 : some x18 = some _ := p14
  injection p14 with p14
  replace p15 : some x19 = some _ := p15
  injection p15 with p15
  subst k0 k1 k2 k3 p0 p1 p2 p3 p4 p5 p6 p7 p8 p9 p10 p11 p12 p13 p14 p15
  exact ⟨_, _, _, _, _, _, _, _, _, _, _, _, _, _, _, _, rfl, f0.num2 hn, f1.num2 hn, f2.num2 hn, f3.num2 hn⟩
end Go.Proofs.YtibdehlmflaodaaGreat
