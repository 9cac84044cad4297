import Derived.Test.YtibdehlmflaodaaCQi
import Derived.Test.YtibdehlmflaodaaCQe
namespace Go.Proofs.Ytibdehlmflaodaa
open Go.RowKit
def cP (x n : Int) : Int := if n = 0 then 0 else ((x : Rat) / (n : Rat)).num
def cQ (x n : Int) : Int := if n = 0 then 0 else (((x : Rat) / (n : Rat)).den : Int)
def QN (w : World) (v : Value) (a : Arr) : Prop :=
  ∃ c0 c1 c2 c3 c4 c5 c6 c7 c8 c9 c10 c11 c12 c13 c14 c15, v = .agg #[.int .i64 a.k0, .int .i64 a.k1, .int .i64 a.k2, .int .i64 a.k3, c0, c1, c2, c3, c4, c5, c6, c7, c8, c9, c10, c11, c12, c13, c14, c15] ∧
    (Num w (.agg #[c0, c1]) (cP a.a1 a.n) ∧ Num w (.agg #[c2, c3]) (cQ a.a1 a.n)) ∧ (Num w (.agg #[c4, c5]) (cP a.a2 a.n) ∧ Num w (.agg #[c6, c7]) (cQ a.a2 a.n)) ∧
    (Num w (.agg #[c8, c9]) (cP a.b1 a.n) ∧ Num w (.agg #[c10, c11]) (cQ a.b1 a.n)) ∧ (Num w (.agg #[c12, c13]) (cP a.b2 a.n) ∧ Num w (.agg #[c14, c15]) (cQ a.b2 a.n))
theorem QN.keeps {w w' : World} {v : Value} {a : Arr} (h : QN w v a) (k : Keeps w w') : QN w' v a := by
  obtain ⟨c0, c1, c2, c3, c4, c5, c6, c7, c8, c9, c10, c11, c12, c13, c14, c15, e, ⟨h0, h1⟩, ⟨h2, h3⟩, ⟨h4, h5⟩, ⟨h6, h7⟩⟩ := h
  exact ⟨c0, c1, c2, c3, c4, c5, c6, c7, c8, c9, c10, c11, c12, c13, c14, c15, e, ⟨h0.keeps k, h1.keeps k⟩, ⟨h2.keeps k, h3.keeps k⟩, ⟨h4.keeps k, h5.keeps k⟩, ⟨h6.keeps k, h7.keeps k⟩⟩
theorem QN.steps {w w' : World} {v : Value} {a : Arr} (h : QN w v a) (k : Steps w w') : QN w' v a := h.keeps (Keeps.steps k)
theorem Num.zero0 (w : World) : Num w (.agg #[.bool false, .slice none 0 0]) 0 := ⟨_, rfl, by
  have e : limbs (absN 0) = [] := (limbs_nil (absN_nonneg _)).2 (by unfold absN; omega)
  rw [e]; exact Lim.nil w⟩
theorem QN.zero (w : World) : QN w (.agg #[.int .i64 0, .int .i64 0, .int .i64 0, .int .i64 0, .bool false, .slice none 0 0, .bool false, .slice none 0 0, .bool false, .slice none 0 0, .bool false, .slice none 0 0, .bool false, .slice none 0 0, .bool false, .slice none 0 0, .bool false, .slice none 0 0, .bool false, .slice none 0 0]) noArr :=
  ⟨_, _, _, _, _, _, _, _, _, _, _, _, _, _, _, _, rfl, ⟨Num.zero0 w, Num.zero0 w⟩, ⟨Num.zero0 w, Num.zero0 w⟩, ⟨Num.zero0 w, Num.zero0 w⟩, ⟨Num.zero0 w, Num.zero0 w⟩⟩
theorem FR.num2 {w : World} {a b c d : Value} {x n : Int} (hn : 0 < n) (h : FR w (.agg #[a, b, c, d]) ((x : Rat) / (n : Rat))) : Num w (.agg #[a, b]) (cP x n) ∧ Num w (.agg #[c, d]) (cQ x n) := by
  obtain ⟨a2, a3, a4, a6, a7, a8, e, n1, n2, -⟩ := h.nums
  unfold cP cQ
  rw [if_neg (by omega), if_neg (by omega)]
  simp only [Value.agg.injEq, Array.mk.injEq, List.cons.injEq, and_true] at e
  obtain ⟨rfl, rfl, rfl, rfl⟩ := e
  exact ⟨n1, n2⟩
theorem QD.qn {w : World} {v : Value} {a : Arr} (hn : 0 < a.n) (h : QD w v a.k0 a.k1 a.k2 a.k3 ((a.a1 : Rat) / (a.n : Rat)) ((a.a2 : Rat) / (a.n : Rat)) ((a.b1 : Rat) / (a.n : Rat)) ((a.b2 : Rat) / (a.n : Rat))) : QN w v a := by
  obtain ⟨c0, c1, c2, c3, c4, c5, c6, c7, c8, c9, c10, c11, c12, c13, c14, c15, e, h0, h1, h2, h3⟩ := h
  exact ⟨c0, c1, c2, c3, c4, c5, c6, c7, c8, c9, c10, c11, c12, c13, c14, c15, e, h0.num2 hn, h1.num2 hn, h2.num2 hn, h3.num2 hn⟩
def okAt (n : Nat) (k : Nat → Int) (i : Nat) : Prop := (0 ≤ k i ∧ k i < n) ∧ ∀ m, m < i → k m ≠ k i
def okIdx (n : Nat) (k : Nat → Int) : Prop := ∀ i, i < 4 → okAt n k i
def KK (k : Nat → Int) : Nat → Nat := at4 (k 0).toNat (k 1).toNat (k 2).toNat (k 3).toNat
open Classical in
noncomputable def codeS (l : PL) (k : Nat → Int) : Int × Arr :=
  if chkP l ≠ 0 then (chkP l, noArr) else if ¬ okIdx l.length k then (2, noArr) else if wid l (KK k) = 0 then (18, noArr) else (0, bestOf l (KK k))
def CodeP (w : World) (l : PL) (k : Nat → Int) (e : Ending) (w' : World) : Prop := ∃ u, e = .returned (.tuple #[u, .int .i64 (codeS l k).1]) ∧ QN w' u (codeS l k).2 ∧ Steps w w'
theorem CodeP.none {w w' : World} {l : PL} {k : Nat → Int} {c : Int} (h : codeS l k = (c, noArr)) (st : Steps w w') : CodeP w l k (.returned (.tuple #[.agg #[.int .i64 0, .int .i64 0, .int .i64 0, .int .i64 0, .bool false, .slice none 0 0, .bool false, .slice none 0 0, .bool false, .slice none 0 0, .bool false, .slice none 0 0, .bool false, .slice none 0 0, .bool false, .slice none 0 0, .bool false, .slice none 0 0, .bool false, .slice none 0 0], .int .i64 c])) w' :=
  ⟨_, by rw [h], by rw [h]; exact QN.zero w', st⟩
set_option maxHeartbeats 6400000 in
set_option maxRecDepth 1000000 in
theorem qcode_bad {v : Value} {l : PL} (k : Nat → Int) (w : World) (hv : Pts w v l) (hl : l.length ≤ 1000) (hc : chkP l ≠ 0) :
    Calls Try.prog 8 #[v, .agg #[.int .i64 (k 0), .int .i64 (k 1), .int .i64 (k 2), .int .i64 (k 3)]] w (CodeP w l k) := by
  have HS : Hid (codeS l k = (chkP l, noArr)) := if_pos hc
  have ck : ∀ w', Steps w w' → Calls Try.prog 10 #[v] w' fun e w2 => e = .returned (.int .i64 (chkP l)) ∧ Steps w' w2 := fun w' hs => qcheckP w' (hv.steps hs) hl
  obtain ⟨c, hcc⟩ : ∃ c, chkP l = c := ⟨_, rfl⟩
  rw [hcc] at HS ck hc
  have hc' : (c == 0) = false := by simpa using hc
  clear hv hcc
  go_enter Try.func8, Try.ntmps8
  go_wp2_with fail
  refine (ck _ belowB).mono ?_
  rintro e w1 ⟨rfl, hb1⟩
  have st : Steps _ w1 := hb1
  have B : Below w.heap.size w w1 := belowA st
  have or : Blk w1 (w.heap.size + 1) 31 #[.int .i64 0, .int .i64 0, .int .i64 0, .int .i64 0, .bool false, .slice none 0 0, .bool false, .slice none 0 0, .bool false, .slice none 0 0, .bool false, .slice none 0 0, .bool false, .slice none 0 0, .bool false, .slice none 0 0, .bool false, .slice none 0 0, .bool false, .slice none 0 0] := Blk.stepsK st
  clear st ck hb1
  go_wp2_with (first | (refine build_big rfl 31 #[] rfl #[.int .i64 0, .int .i64 0, .int .i64 0, .int .i64 0, .bool false, .slice none 0 0, .bool false, .slice none 0 0, .bool false, .slice none 0 0, .bool false, .slice none 0 0, .bool false, .slice none 0 0, .bool false, .slice none 0 0, .bool false, .slice none 0 0, .bool false, .slice none 0 0] (by kernel_rfl) ?_) | (refine store_big rfl 31 (.tmp 4) (.tmp 17) rfl (w.heap.size + 1) #[.int .i64 0, .int .i64 0, .int .i64 0, .int .i64 0, .bool false, .slice none 0 0, .bool false, .slice none 0 0, .bool false, .slice none 0 0, .bool false, .slice none 0 0, .bool false, .slice none 0 0, .bool false, .slice none 0 0, .bool false, .slice none 0 0, .bool false, .slice none 0 0] rfl rfl 31 #[.int .i64 0, .int .i64 0, .int .i64 0, .int .i64 0, .bool false, .slice none 0 0, .bool false, .slice none 0 0, .bool false, .slice none 0 0, .bool false, .slice none 0 0, .bool false, .slice none 0 0, .bool false, .slice none 0 0, .bool false, .slice none 0 0, .bool false, .slice none 0 0] ownK (by kernel_rfl) rfl (by simp [Value.oneCell']) (fun wz rz => ?_)))
  refine bodyPost_ret (results_row2 rfl _ _ (w.heap.size + 1) rfl (cs := #[.int .i64 0, .int .i64 0, .int .i64 0, .int .i64 0, .bool false, .slice none 0 0, .bool false, .slice none 0 0, .bool false, .slice none 0 0, .bool false, .slice none 0 0, .bool false, .slice none 0 0, .bool false, .slice none 0 0, .bool false, .slice none 0 0, .bool false, .slice none 0 0]) rz.blk Try.underlying31 rfl (by kernel_rfl)) rfl ?_
  have Bz := rz.below B (Nat.le_succ _)
  exact CodeP.none HS.out Bz
theorem sq_le {x m : Int} (h0 : -m ≤ x) (h1 : x ≤ m) : 0 ≤ x * x ∧ x * x ≤ m * m := ⟨by rcases Int.le_total 0 x with h | h; exact Int.mul_nonneg h h; exact Int.mul_nonneg_of_nonpos_of_nonpos h h, (mul_bound h0 h1 h0 h1).2⟩
structure NumOk (a : Arr) : Prop where
  a1 : -35184372088832 ≤ a.a1 ∧ a.a1 ≤ 35184372088832
  a2 : -35184372088832 ≤ a.a2 ∧ a.a2 ≤ 35184372088832
  b1 : -35184372088832 ≤ a.b1 ∧ a.b1 ≤ 35184372088832
  b2 : -35184372088832 ≤ a.b2 ∧ a.b2 ≤ 35184372088832
  n : 0 ≤ a.n ∧ a.n ≤ 35184372088832
theorem arr4_num {p q r s : Int × Int} (k0 k1 k2 k3 : Nat) (h0 : okp p.1 p.2) (h1 : okp q.1 q.2) (h2 : okp r.1 r.2) (h3 : okp s.1 s.2) : NumOk (arr4 k0 k1 k2 k3 p q r s) := by
  have a := sm_mul (okp_sm h2 h0) (okp_sm h1 h0)
  have b := sm_mul (okp_sm h3 h0) (okp_sm h1 h0)
  have c := sm_mul (okp_sm h1 h0) (okp_sm h1 h0)
  have d := csq_nonneg (q.1 - p.1) (q.2 - p.2)
  refine ⟨?_, ?_, ?_, ?_, ?_⟩ <;> (unfold arr4 ; try unfold cre; try unfold cim; try unfold sqd) <;> dsimp only
  · omega
  · omega
  · omega
  · omega
  · unfold csq at *; omega
theorem bestOf_num {l : PL} {K : Nat → Nat} (hp : ∀ i, okp (pt l (K i)).1 (pt l (K i)).2) (h : 0 < wid l K) : NumOk (bestOf l K) := by
  obtain ⟨h1, -, -⟩ := bestOf_spec l K h
  obtain ⟨p, -, e⟩ := List.mem_map.1 h1
  rw [← e]
  exact arr4_num _ _ _ _ (hp _) (hp _) (hp _) (hp _)
theorem QD.cells {w : World} {v : Value} {k0 k1 k2 k3 : Int} {r0 r1 r2 r3 : Rat} (h : QD w v k0 k1 k2 k3 r0 r1 r2 r3) : ∃ cs, v = .agg cs ∧ cs.size = 20 ∧ cs.all (·.oneCell') = true := by
  obtain ⟨c0, c1, c2, c3, c4, c5, c6, c7, c8, c9, c10, c11, c12, c13, c14, c15, e, h0, h1, h2, h3⟩ := h
  obtain ⟨_, _, _, _, _, _, _, _, e0⟩ := h0.shape
  obtain ⟨_, _, _, _, _, _, _, _, e1⟩ := h1.shape
  obtain ⟨_, _, _, _, _, _, _, _, e2⟩ := h2.shape
  obtain ⟨_, _, _, _, _, _, _, _, e3⟩ := h3.shape
  simp only [Value.agg.injEq, Array.mk.injEq, List.cons.injEq, and_true] at e0 e1 e2 e3
  obtain ⟨rfl, rfl, rfl, rfl⟩ := e0
  obtain ⟨rfl, rfl, rfl, rfl⟩ := e1
  obtain ⟨rfl, rfl, rfl, rfl⟩ := e2
  obtain ⟨rfl, rfl, rfl, rfl⟩ := e3
  exact ⟨_, e, rfl, by simp [Value.oneCell']⟩
theorem qquadA (a : Arr) (w : World) (h : NumOk a) (hn : 0 < a.n) : Calls Try.prog 31 #[.agg (arrC a)] w fun e w' => ∃ cs, e = .returned (.tuple #[.agg cs, .int .i64 0]) ∧ QN w' (.agg cs) a ∧ (cs.size = 20 ∧ cs.all (·.oneCell') = true) ∧ Steps w w' := by
  refine Calls.mono (qquad a.k0 a.k1 a.k2 a.k3 a.a1 a.a2 a.b1 a.b2 a.n w ⟨by have := h.a1; omega, by have := h.a1; omega⟩ ⟨by have := h.a2; omega, by have := h.a2; omega⟩ ⟨by have := h.b1; omega, by have := h.b1; omega⟩ ⟨by have := h.b2; omega, by have := h.b2; omega⟩ ⟨hn, by have := h.n; omega⟩) ?_
  rintro e w' ⟨v, rfl, hq, hs⟩
  obtain ⟨cs, rfl, h1, h2⟩ := hq.cells
  exact ⟨cs, rfl, hq.qn hn, ⟨h1, h2⟩, hs⟩
theorem chk_pts {l : PL} (h : chkP l = 0) (k : Nat) (hk : k < l.length) : okp (pt l k).1 (pt l k).2 := by
  unfold chkP at h
  split at h
  · cases h
  · split at h
    · rename_i hq
      have hm : pt l k ∈ l := by
        unfold pt
        simp only [List.getD, List.getElem?_eq_getElem hk, Option.getD_some]
        exact List.getElem_mem hk
      obtain ⟨q1, q2, q3, q4⟩ := hq _ hm
      exact ⟨q1, q2, q3, q4⟩
    · cases h
theorem KK_lt {n : Nat} {k : Nat → Int} (h : okIdx n k) (i : Nat) : KK k i < n := by
  have h0 := (h 0 (by omega)).1
  have h1 := (h 1 (by omega)).1
  have h2 := (h 2 (by omega)).1
  have h3 := (h 3 (by omega)).1
  unfold KK at4
  split <;> omega
theorem retC {w w' : World} {l : PL} {k : Nat → Int} {u : Value} (h : codeS l k = (0, bestOf l (KK k))) (hq : QN w' u (bestOf l (KK k))) (st : Steps w w') : CodeP w l k (.returned (.tuple #[u, .int .i64 0])) w' := ⟨u, by rw [h], by rw [h]; exact hq, st⟩
set_option maxHeartbeats 6400000 in
set_option maxRecDepth 1000000 in
theorem qcode_in {v : Value} {l : PL} (k : Nat → Int) (w : World) (hv : Pts w v l) (hl : l.length ≤ 1000) (hb : ∀ i, -9223372036854775808 ≤ k i ∧ k i ≤ 9223372036854775807) (hc : chkP l = 0) :
    Calls Try.prog 8 #[v, .agg #[.int .i64 (k 0), .int .i64 (k 1), .int .i64 (k 2), .int .i64 (k 3)]] w (CodeP w l k) := by
  have HB : ∀ i, i < 4 → ¬ okAt l.length k i → Hid (codeS l k = (2, noArr)) := fun i hi h => by
    show codeS l k = _
    unfold codeS
    rw [if_neg (by rw [hc]; simp), if_pos (fun hq => h (hq i hi))]
  have HN : okIdx l.length k → wid l (KK k) = 0 → Hid (codeS l k = (18, noArr)) := fun h h2 => by
    show codeS l k = _
    unfold codeS
    rw [if_neg (by rw [hc]; simp), if_neg (fun hq => hq h), if_pos h2]
  have HG : okIdx l.length k → wid l (KK k) ≠ 0 → Hid (codeS l k = (0, bestOf l (KK k))) := fun h h2 => by
    show codeS l k = _
    unfold codeS
    rw [if_neg (by rw [hc]; simp), if_neg (fun hq => hq h), if_neg h2]
  have hck := qcheckP w hv hl
  have ck : ∀ w', Steps w w' → Calls Try.prog 10 #[v] w' fun e w2 => e = .returned (.int .i64 0) ∧ Steps w' w2 := fun w' hs => by rw [← hc]; exact qcheckP w' (hv.steps hs) hl
  have cf : okIdx l.length k → ∀ w', Steps w w' → Calls Try.prog 30 #[v, .agg #[.int .i64 (k 0), .int .i64 (k 1), .int .i64 (k 2), .int .i64 (k 3)]] w' fun e w2 => e = .returned (.tuple #[.agg (arrC (bestOf l (KK k))), .bool (decide (0 < (bestOf l (KK k)).n))]) ∧ Steps w' w2 := fun h w' hs => by
    have := qfirst (k 0).toNat (k 1).toNat (k 2).toNat (k 3).toNat w' (hv.steps hs) (fun i => KK_lt h i) (fun i => chk_pts hc _ (KK_lt h i))
    rw [Int.toNat_of_nonneg (h 0 (by omega)).1.1, Int.toNat_of_nonneg (h 1 (by omega)).1.1, Int.toNat_of_nonneg (h 2 (by omega)).1.1, Int.toNat_of_nonneg (h 3 (by omega)).1.1] at this
    exact this
  have cq : okIdx l.length k → wid l (KK k) ≠ 0 → ∀ w', Calls Try.prog 31 #[.agg (arrC (bestOf l (KK k)))] w' fun e w2 => ∃ cs, e = .returned (.tuple #[.agg cs, .int .i64 0]) ∧ QN w2 (.agg cs) (bestOf l (KK k)) ∧ (cs.size = 20 ∧ cs.all (·.oneCell') = true) ∧ Steps w' w2 := fun h h2 w' => by
    have hw : 0 < wid l (KK k) := by have := wid_nonneg l (KK k); omega
    exact qquadA _ w' (bestOf_num (fun i => chk_pts hc _ (KK_lt h i)) hw) (by rw [(bestOf_spec l (KK k) hw).2.1]; exact hw)
  have hn0 : wid l (KK k) = 0 → Hid ((bestOf l (KK k)).n = 0) := fun h => by show (bestOf l (KK k)).n = 0; rw [bestOf_none _ _ h]; rfl
  have hn1 : wid l (KK k) ≠ 0 → Hid (0 < (bestOf l (KK k)).n) := fun h => by
    have hw : 0 < wid l (KK k) := by have := wid_nonneg l (KK k); omega
    show 0 < (bestOf l (KK k)).n
    rw [(bestOf_spec l (KK k) hw).2.1]; exact hw
  obtain ⟨ao, cap, rfl⟩ := hv.shape
  obtain ⟨len, hlen⟩ : ∃ n, l.length = n := ⟨_, rfl⟩
  rw [hlen] at HB HN HG ck cf cq hl ⊢
  have hk4 : ∀ i, i < 4 → (#[.int .i64 (k 0), .int .i64 (k 1), .int .i64 (k 2), .int .i64 (k 3)] : Array Value)[i]? = some (.int .i64 (k i)) := fun i hi => by rcases (show i = 0 ∨ i = 1 ∨ i = 2 ∨ i = 3 by omega) with rfl | rfl | rfl | rfl <;> rfl
  have hix : ∀ i : Nat, i < 4 → ∀ w' : World, (Instr.index 23 (.agg #[.int .i64 (k 0), .int .i64 (k 1), .int .i64 (k 2), .int .i64 (k 3)]) (.int .i64 i)).run Try.prog w' = .ok (.int .i64 (k i)) w' := fun i hi w' => by rcases (show i = 0 ∨ i = 1 ∨ i = 2 ∨ i = 3 by omega) with rfl | rfl | rfl | rfl <;> kernel_rfl
  clear hv hck hc hlen
  go_enter Try.func8, Try.ntmps8
  go_wp2_with fail
  refine (ck _ belowB).mono ?_
  rintro e w1 ⟨rfl, hb1⟩
  have st : Steps _ w1 := hb1
  have B : Below w.heap.size w w1 := belowA st
  have oa : Blk w1 (w.heap.size) 23 #[.int .i64 (k 0), .int .i64 (k 1), .int .i64 (k 2), .int .i64 (k 3)] := Blk.stepsK st
  have or : Blk w1 (w.heap.size + 1) 31 #[.int .i64 0, .int .i64 0, .int .i64 0, .int .i64 0, .bool false, .slice none 0 0, .bool false, .slice none 0 0, .bool false, .slice none 0 0, .bool false, .slice none 0 0, .bool false, .slice none 0 0, .bool false, .slice none 0 0, .bool false, .slice none 0 0, .bool false, .slice none 0 0] := Blk.stepsK st
  clear st ck hb1
  have ca0 := oa.c 0 (hk4 0 (by omega))
  have ca1 := oa.c 1 (hk4 1 (by omega))
  have ca2 := oa.c 2 (hk4 2 (by omega))
  have ca3 := oa.c 3 (hk4 3 (by omega))
  go_wp2_with fail
  clear ca0 ca1 ca2 ca3
  go_loopw [20] (fun kk wr => ∃ i : Nat, i ≤ 4 ∧ kk = .int .i64 i ∧ (∀ j, j < i → okAt len k j) ∧ Blk wr (w.heap.size) 23 #[.int .i64 (k 0), .int .i64 (k 1), .int .i64 (k 2), .int .i64 (k 3)] ∧ Blk wr (w.heap.size + 1) 31 #[.int .i64 0, .int .i64 0, .int .i64 0, .int .i64 0, .bool false, .slice none 0 0, .bool false, .slice none 0 0, .bool false, .slice none 0 0, .bool false, .slice none 0 0, .bool false, .slice none 0 0, .bool false, .slice none 0 0, .bool false, .slice none 0 0, .bool false, .slice none 0 0] ∧ Below w.heap.size w wr) (fun kk _ => 4 - (intOf kk).toNat)
  case atStart => exact ⟨0, by omega, rfl, fun _ h => by omega, ownK, ownK, belowB⟩
  case round =>
    obtain ⟨i, hi, rfl, hall, za, zr, zB⟩ := hrel
    clear oa or B
    rcases Nat.lt_or_ge i 4 with i4 | i4
    · have ix := hix i i4
      have bi := hb i
      have HX := HB i i4
      unfold okAt at HX
      have hlt : decide ((i : Int) < 4) = true := decide_eq_true (by omega)
      have hsl : ∀ w' : World, (Instr.sliceAt 23 (.pointer (some ⟨w.heap.size, 0, none⟩)) none (some (.int .i64 (i : Int))) none).run Try.prog w' = .ok (.slice (some ⟨w.heap.size, 0, none⟩) i 4) w' := fun w' => by rcases (show i = 0 ∨ i = 1 ∨ i = 2 ∨ i = 3 by omega) with rfl | rfl | rfl | rfl <;> kernel_rfl
      obtain ⟨x, hx⟩ : ∃ x, k i = x := ⟨_, rfl⟩
      rw [hx] at ix bi HX
      by_cases b0 : x < 0
      · have E := HX (by omega)
        clear HB HN HG cf cq hn0 hn1 hix hb hk4 hall HX
        go_wp2_with (first | (refine build_big rfl 31 #[] rfl #[.int .i64 0, .int .i64 0, .int .i64 0, .int .i64 0, .bool false, .slice none 0 0, .bool false, .slice none 0 0, .bool false, .slice none 0 0, .bool false, .slice none 0 0, .bool false, .slice none 0 0, .bool false, .slice none 0 0, .bool false, .slice none 0 0, .bool false, .slice none 0 0] (by kernel_rfl) ?_) | (refine store_big rfl 31 (.tmp 4) (.tmp 32) rfl (w.heap.size + 1) #[.int .i64 0, .int .i64 0, .int .i64 0, .int .i64 0, .bool false, .slice none 0 0, .bool false, .slice none 0 0, .bool false, .slice none 0 0, .bool false, .slice none 0 0, .bool false, .slice none 0 0, .bool false, .slice none 0 0, .bool false, .slice none 0 0, .bool false, .slice none 0 0] rfl rfl 31 #[.int .i64 0, .int .i64 0, .int .i64 0, .int .i64 0, .bool false, .slice none 0 0, .bool false, .slice none 0 0, .bool false, .slice none 0 0, .bool false, .slice none 0 0, .bool false, .slice none 0 0, .bool false, .slice none 0 0, .bool false, .slice none 0 0, .bool false, .slice none 0 0] ownK (by kernel_rfl) rfl (by simp [Value.oneCell']) (fun wz rz => ?_)))
        refine bodyPost_ret (results_row2 rfl _ _ (w.heap.size + 1) rfl (cs := #[.int .i64 0, .int .i64 0, .int .i64 0, .int .i64 0, .bool false, .slice none 0 0, .bool false, .slice none 0 0, .bool false, .slice none 0 0, .bool false, .slice none 0 0, .bool false, .slice none 0 0, .bool false, .slice none 0 0, .bool false, .slice none 0 0, .bool false, .slice none 0 0]) rz.blk Try.underlying31 rfl (by kernel_rfl)) rfl ?_
        exact CodeP.none E.out (rz.below zB (Nat.le_succ _))
      by_cases b1 : (len : Int) ≤ x
      · have E := HX (by omega)
        clear HB HN HG cf cq hn0 hn1 hix hb hk4 hall HX
        go_wp2_with (first | (refine build_big rfl 31 #[] rfl #[.int .i64 0, .int .i64 0, .int .i64 0, .int .i64 0, .bool false, .slice none 0 0, .bool false, .slice none 0 0, .bool false, .slice none 0 0, .bool false, .slice none 0 0, .bool false, .slice none 0 0, .bool false, .slice none 0 0, .bool false, .slice none 0 0, .bool false, .slice none 0 0] (by kernel_rfl) ?_) | (refine store_big rfl 31 (.tmp 4) (.tmp 32) rfl (w.heap.size + 1) #[.int .i64 0, .int .i64 0, .int .i64 0, .int .i64 0, .bool false, .slice none 0 0, .bool false, .slice none 0 0, .bool false, .slice none 0 0, .bool false, .slice none 0 0, .bool false, .slice none 0 0, .bool false, .slice none 0 0, .bool false, .slice none 0 0, .bool false, .slice none 0 0] rfl rfl 31 #[.int .i64 0, .int .i64 0, .int .i64 0, .int .i64 0, .bool false, .slice none 0 0, .bool false, .slice none 0 0, .bool false, .slice none 0 0, .bool false, .slice none 0 0, .bool false, .slice none 0 0, .bool false, .slice none 0 0, .bool false, .slice none 0 0, .bool false, .slice none 0 0] ownK (by kernel_rfl) rfl (by simp [Value.oneCell']) (fun wz rz => ?_)))
        refine bodyPost_ret (results_row2 rfl _ _ (w.heap.size + 1) rfl (cs := #[.int .i64 0, .int .i64 0, .int .i64 0, .int .i64 0, .bool false, .slice none 0 0, .bool false, .slice none 0 0, .bool false, .slice none 0 0, .bool false, .slice none 0 0, .bool false, .slice none 0 0, .bool false, .slice none 0 0, .bool false, .slice none 0 0, .bool false, .slice none 0 0]) rz.blk Try.underlying31 rfl (by kernel_rfl)) rfl ?_
        exact CodeP.none E.out (rz.below zB (Nat.le_succ _))
      go_wp2_with fail
      go_loopw [36] (fun mm wr => ∃ m : Nat, m ≤ i ∧ mm = .int .i64 m ∧ (∀ j, j < m → k j ≠ x) ∧ Blk wr (w.heap.size) 23 #[.int .i64 (k 0), .int .i64 (k 1), .int .i64 (k 2), .int .i64 (k 3)] ∧ Blk wr (w.heap.size + 1) 31 #[.int .i64 0, .int .i64 0, .int .i64 0, .int .i64 0, .bool false, .slice none 0 0, .bool false, .slice none 0 0, .bool false, .slice none 0 0, .bool false, .slice none 0 0, .bool false, .slice none 0 0, .bool false, .slice none 0 0, .bool false, .slice none 0 0, .bool false, .slice none 0 0] ∧ Below w.heap.size w wr) (fun mm _ => i - (intOf mm).toNat)
      case atStart => exact ⟨0, by omega, rfl, fun _ h => by omega, ownK, ownK, belowB⟩
      case round =>
        obtain ⟨m, hm, rfl, hal2, ya, yr, yB⟩ := hrel
        clear za zr zB
        rcases Nat.lt_or_ge m i with mi | mi
        · have cm := ya.c m (hk4 m (by omega))
          have hlm : decide ((m : Int) < (i : Int)) = true := decide_eq_true (by omega)
          obtain ⟨y, hy⟩ : ∃ y, k m = y := ⟨_, rfl⟩
          rw [hy] at cm
          by_cases e : y = x
          · subst e
            have E := HX (fun h => h.2 m mi hy)
            clear HB HN HG cf cq hn0 hn1 hix hb hk4 hall HX hal2
            go_wp2_with (first | (refine build_big rfl 31 #[] rfl #[.int .i64 0, .int .i64 0, .int .i64 0, .int .i64 0, .bool false, .slice none 0 0, .bool false, .slice none 0 0, .bool false, .slice none 0 0, .bool false, .slice none 0 0, .bool false, .slice none 0 0, .bool false, .slice none 0 0, .bool false, .slice none 0 0, .bool false, .slice none 0 0] (by kernel_rfl) ?_) | (refine store_big rfl 31 (.tmp 4) (.tmp 43) rfl (w.heap.size + 1) #[.int .i64 0, .int .i64 0, .int .i64 0, .int .i64 0, .bool false, .slice none 0 0, .bool false, .slice none 0 0, .bool false, .slice none 0 0, .bool false, .slice none 0 0, .bool false, .slice none 0 0, .bool false, .slice none 0 0, .bool false, .slice none 0 0, .bool false, .slice none 0 0] rfl rfl 31 #[.int .i64 0, .int .i64 0, .int .i64 0, .int .i64 0, .bool false, .slice none 0 0, .bool false, .slice none 0 0, .bool false, .slice none 0 0, .bool false, .slice none 0 0, .bool false, .slice none 0 0, .bool false, .slice none 0 0, .bool false, .slice none 0 0, .bool false, .slice none 0 0] ownK (by kernel_rfl) rfl (by simp [Value.oneCell']) (fun wz rz => ?_)))
            refine bodyPost_ret (results_row2 rfl _ _ (w.heap.size + 1) rfl (cs := #[.int .i64 0, .int .i64 0, .int .i64 0, .int .i64 0, .bool false, .slice none 0 0, .bool false, .slice none 0 0, .bool false, .slice none 0 0, .bool false, .slice none 0 0, .bool false, .slice none 0 0, .bool false, .slice none 0 0, .bool false, .slice none 0 0, .bool false, .slice none 0 0]) rz.blk Try.underlying31 rfl (by kernel_rfl)) rfl ?_
            exact CodeP.none E.out (rz.below yB (Nat.le_succ _))
          · have hne : (y == x) = false := by simpa using e
            go_wp2
            go_roundw
            case rel =>
              refine ⟨m + 1, by omega, by go_num, fun j hj => ?_, ownK, ownK, belowB⟩
              rcases Nat.lt_or_ge j m with g | g
              · exact hal2 j g
              · obtain rfl : j = m := by omega
                rw [hy]; exact e
            case measure => simp [intOf]; omega
        · obtain rfl : m = i := by omega
          go_wp2
          go_roundw
          case rel =>
            refine ⟨m + 1, by omega, by go_num, fun j hj => ?_, ownK, ownK, belowB⟩
            rcases Nat.lt_or_ge j m with g | g
            · exact hall j g
            · obtain rfl : j = m := by omega
              unfold okAt
              rw [hx]
              exact ⟨by omega, hal2⟩
          case measure => simp [intOf]; omega
    · obtain rfl : i = 4 := by omega
      have OK : okIdx len k := fun j hj => hall j hj
      replace cf := cf OK
      replace cq := cq OK
      replace HN := HN OK
      replace HG := HG OK
      have ca0 := za.c 0 (hk4 0 (by omega))
      have ca1 := za.c 1 (hk4 1 (by omega))
      have ca2 := za.c 2 (hk4 2 (by omega))
      have ca3 := za.c 3 (hk4 3 (by omega))
      clear HB hall hix hb OK hk4
      obtain ⟨a, ha⟩ : ∃ a, bestOf l (KK k) = a := ⟨_, rfl⟩
      rw [ha] at cf cq hn0 hn1
      go_wp2_with fail
      refine (cf _ zB).mono ?_
      rintro e w2 ⟨rfl, st⟩
      have oa := za.steps st
      have or := zr.steps st
      have B := below_steps zB (Nat.le_refl _) st
      clear za zr zB st cf ca0 ca1 ca2 ca3
      have lr := or.lt
      by_cases hw : wid l (KK k) = 0
      · have E := HN hw
        have hz : decide (0 < a.n) = false := decide_eq_false (by have := (hn0 hw).out; omega)
        clear cq HG HN hn0 hn1 ha
        rw [hz]
        dsimp only
        go_wp2_with (first | (refine store_big rfl 71 (.tmp 11) (.tmp 50) rfl (w2.heap.size) (arrC a) rfl rfl 71 #[.int .i64 0, .int .i64 0, .int .i64 0, .int .i64 0, .int .i64 0, .int .i64 0, .int .i64 0, .int .i64 0, .int .i64 0] ownK (by kernel_rfl) rfl (arrC_one a) (fun wa ra => ?_); have or2 := ra.far (or.alloc _) (by omega); have B2 := ra.below (B.alloc B.size _) B.size) | (refine build_big rfl 31 #[] rfl #[.int .i64 0, .int .i64 0, .int .i64 0, .int .i64 0, .bool false, .slice none 0 0, .bool false, .slice none 0 0, .bool false, .slice none 0 0, .bool false, .slice none 0 0, .bool false, .slice none 0 0, .bool false, .slice none 0 0, .bool false, .slice none 0 0, .bool false, .slice none 0 0] (by kernel_rfl) ?_) | (refine store_big rfl 31 (.tmp 4) (.tmp 54) rfl (w.heap.size + 1) #[.int .i64 0, .int .i64 0, .int .i64 0, .int .i64 0, .bool false, .slice none 0 0, .bool false, .slice none 0 0, .bool false, .slice none 0 0, .bool false, .slice none 0 0, .bool false, .slice none 0 0, .bool false, .slice none 0 0, .bool false, .slice none 0 0, .bool false, .slice none 0 0] rfl rfl 31 #[.int .i64 0, .int .i64 0, .int .i64 0, .int .i64 0, .bool false, .slice none 0 0, .bool false, .slice none 0 0, .bool false, .slice none 0 0, .bool false, .slice none 0 0, .bool false, .slice none 0 0, .bool false, .slice none 0 0, .bool false, .slice none 0 0, .bool false, .slice none 0 0] or2 (by kernel_rfl) rfl (by simp [Value.oneCell']) (fun wz rz => ?_)))
        refine bodyPost_ret (results_row2 rfl _ _ (w.heap.size + 1) rfl (cs := #[.int .i64 0, .int .i64 0, .int .i64 0, .int .i64 0, .bool false, .slice none 0 0, .bool false, .slice none 0 0, .bool false, .slice none 0 0, .bool false, .slice none 0 0, .bool false, .slice none 0 0, .bool false, .slice none 0 0, .bool false, .slice none 0 0, .bool false, .slice none 0 0]) rz.blk Try.underlying31 rfl (by kernel_rfl)) rfl ?_
        exact CodeP.none E.out (rz.below B2 (Nat.le_succ _))
      · have E := HG hw
        have hz : decide (0 < a.n) = true := decide_eq_true (hn1 hw).out
        replace cq := cq hw
        clear HG HN hn0 hn1
        rw [hz]
        dsimp only
        go_wp2_with (first | (refine store_big rfl 71 (.tmp 11) (.tmp 50) rfl (w2.heap.size) (arrC a) rfl rfl 71 #[.int .i64 0, .int .i64 0, .int .i64 0, .int .i64 0, .int .i64 0, .int .i64 0, .int .i64 0, .int .i64 0, .int .i64 0] ownK (by kernel_rfl) rfl (arrC_one a) (fun wa ra => ?_); have or2 := ra.far (or.alloc _) (by omega); have B2 := ra.below (B.alloc B.size _) B.size) | (refine load_big rfl 71 (.tmp 11) rfl (w2.heap.size) rfl 71 (arrC a) _ ra.blk Try.underlying71 rfl (by kernel_rfl) ?_))
        refine (cq _).mono ?_
        rintro e w3 ⟨cs, rfl, hq, ⟨hsz, hone⟩, st3⟩
        have or3 := or2.steps st3
        have B3 := below_steps B2 (Nat.le_refl _) st3
        have hi : (Try.prog.info? 31).map (·.size) = some cs.size := by rw [hsz]; kernel_rfl
        clear or or2 B B2 cq hz st3
        dsimp only
        go_wp2_with (first | (refine store_big rfl 31 (.tmp 4) (.tmp 57) rfl (w.heap.size + 1) cs rfl rfl 31 #[.int .i64 0, .int .i64 0, .int .i64 0, .int .i64 0, .bool false, .slice none 0 0, .bool false, .slice none 0 0, .bool false, .slice none 0 0, .bool false, .slice none 0 0, .bool false, .slice none 0 0, .bool false, .slice none 0 0, .bool false, .slice none 0 0, .bool false, .slice none 0 0] or3 hi hsz.symm hone (fun wz rz => ?_)))
        refine bodyPost_ret (results_row2 rfl _ _ (w.heap.size + 1) rfl (cs := cs) rz.blk Try.underlying31 rfl hi) rfl ?_
        have hq2 := hq.keeps (rz.keeps rfl)
        rw [← ha] at hq2
        exact retC E.out hq2 (rz.below B3 (Nat.le_succ _))
theorem qcode {v : Value} {l : PL} (k : Nat → Int) (w : World) (hv : Pts w v l) (hl : l.length ≤ 1000) (hb : ∀ i, -9223372036854775808 ≤ k i ∧ k i ≤ 9223372036854775807) :
    Calls Try.prog 8 #[v, .agg #[.int .i64 (k 0), .int .i64 (k 1), .int .i64 (k 2), .int .i64 (k 3)]] w (CodeP w l k) := by
  by_cases hc : chkP l = 0
  · exact qcode_in k w hv hl hb hc
  · exact qcode_bad k w hv hl hc
end Go.Proofs.Ytibdehlmflaodaa
namespace Go.Proofs.Ytibdehlmflaodaa
open Go.RowKit
theorem rofF (x y : Int) (w : World) (x0 : -9223372036854775808 ≤ x) (x1 : x ≤ 9223372036854775807) (y0 : -9223372036854775808 ≤ y) (y1 : y ≤ 9223372036854775807) (hy : y ≠ 0) :
    Calls Try.prog 49 #[.int .i64 x, .int .i64 y] w fun e w' => ∃ v, e = .returned (.tuple #[v, .int .i64 0]) ∧ FR w' v ((x : Rat) / (y : Rat)) ∧ Steps w w' := by
  refine (rof x y w x0 x1 y0 y1 hy).mono ?_
  rintro e w' ⟨v, rfl, h1, h2⟩
  exact ⟨v, rfl, FR.of_rd hy h1, h2⟩
set_option maxHeartbeats 6400000 in
set_option maxRecDepth 1000000 in
theorem rapart (x0 y0 x1 y1 : Int) (w : World) (p0 : okp x0 y0) (p1 : okp x1 y1) : Calls Try.prog 59 #[.agg #[.int .i64 x0, .int .i64 y0], .agg #[.int .i64 x1, .int .i64 y1]] w fun e w' => e = .returned (.int .i64 (sqd (x1, y1) (x0, y0))) ∧ Steps w w' := by
  have s := okp_sm p0 p1
  have q := sm_mul s s
  obtain ⟨ux, hux⟩ : ∃ z, x0 - x1 = z := ⟨_, rfl⟩
  obtain ⟨uy, huy⟩ : ∃ z, y0 - y1 = z := ⟨_, rfl⟩
  have E : Hid (sqd (x1, y1) (x0, y0) = ux * ux + uy * uy) := by show sqd _ _ = _; unfold sqd csq; dsimp only; rw [hux, huy]
  rw [hux, huy] at q
  unfold okp at p0 p1
  obtain ⟨m1, h1⟩ : ∃ z, ux * ux = z := ⟨_, rfl⟩
  obtain ⟨m2, h2⟩ : ∃ z, uy * uy = z := ⟨_, rfl⟩
  rw [h1, h2] at q E
  have w1 : wrap64 (x0 - x1) = ux := by rw [← hux]; unfold wrap64; omega
  have w2 : wrap64 (y0 - y1) = uy := by rw [← huy]; unfold wrap64; omega
  have w3 : wrap64 (ux * ux) = m1 := by rw [h1]; unfold wrap64; omega
  have w4 : wrap64 (uy * uy) = m2 := by rw [h2]; unfold wrap64; omega
  have w5 : wrap64 (m1 + m2) = m1 + m2 := by unfold wrap64; omega
  obtain ⟨m, hm⟩ : ∃ z, m1 + m2 = z := ⟨_, rfl⟩
  rw [hm] at w5 E
  have w6 : wrap64 (m1 + m2) = m := by rw [hm]; exact w5
  clear w5 hm h1 h2 q s p0 p1 hux huy
  go_enter Try.func59, Try.ntmps59
  go_wp2
  go_returns
  first | exact ⟨retI E.out.symm, belowB⟩ | exact ⟨retI (w6.trans E.out.symm), belowB⟩
set_option maxHeartbeats 6400000 in
set_option maxRecDepth 1000000 in
theorem rquot (x0 y0 x1 y1 x2 y2 : Int) (w : World) (p0 : okp x0 y0) (p1 : okp x1 y1) (p2 : okp x2 y2) (hn : sqd (x0, y0) (x1, y1) ≠ 0) : Calls Try.prog 90 #[.agg #[.int .i64 x0, .int .i64 y0], .agg #[.int .i64 x1, .int .i64 y1], .agg #[.int .i64 x2, .int .i64 y2]] w fun e w' =>
    ∃ u v, e = .returned (.tuple #[u, v]) ∧ FR w' u ((cre (x1 - x0) (y1 - y0) (x2 - x0) (y2 - y0) : Int) / (sqd (x0, y0) (x1, y1) : Int) : Rat) ∧ FR w' v ((cim (x1 - x0) (y1 - y0) (x2 - x0) (y2 - y0) : Int) / (sqd (x0, y0) (x1, y1) : Int) : Rat) ∧ Steps w w' := by
  have s1 := okp_sm p1 p0
  have s2 := okp_sm p2 p0
  have q1 := sm_mul s2 s1
  have q2 := sm_mul s1 s1
  have n0 := sqd_nonneg (x0, y0) (x1, y1)
  have ap := fun w' => rapart x0 y0 x1 y1 w' p0 p1
  rw [sqd_symm] at ap
  have n1 : sqd (x0, y0) (x1, y1) ≤ 35184372088832 := by unfold sqd csq; dsimp only; omega
  have a1 : -35184372088832 ≤ cre (x1 - x0) (y1 - y0) (x2 - x0) (y2 - y0) ∧ cre (x1 - x0) (y1 - y0) (x2 - x0) (y2 - y0) ≤ 35184372088832 := by unfold cre; omega
  have a2 : -35184372088832 ≤ cim (x1 - x0) (y1 - y0) (x2 - x0) (y2 - y0) ∧ cim (x1 - x0) (y1 - y0) (x2 - x0) (y2 - y0) ≤ 35184372088832 := by unfold cim; omega
  obtain ⟨A, hA⟩ : ∃ z, cre (x1 - x0) (y1 - y0) (x2 - x0) (y2 - y0) = z := ⟨_, rfl⟩
  obtain ⟨B, hB⟩ : ∃ z, cim (x1 - x0) (y1 - y0) (x2 - x0) (y2 - y0) = z := ⟨_, rfl⟩
  obtain ⟨n, hn'⟩ : ∃ z, sqd (x0, y0) (x1, y1) = z := ⟨_, rfl⟩
  rw [hn'] at ap n0 n1 hn ⊢
  rw [hA] at a1 ⊢
  rw [hB] at a2 ⊢
  unfold okp at p0 p1 p2
  have ofA := fun w' => rofF A n w' (by omega) (by omega) (by omega) (by omega) hn
  have ofB := fun w' => rofF B n w' (by omega) (by omega) (by omega) (by omega) hn
  obtain ⟨ux, hux⟩ : ∃ z, x1 - x0 = z := ⟨_, rfl⟩
  obtain ⟨uy, huy⟩ : ∃ z, y1 - y0 = z := ⟨_, rfl⟩
  obtain ⟨vx, hvx⟩ : ∃ z, x2 - x0 = z := ⟨_, rfl⟩
  obtain ⟨vy, hvy⟩ : ∃ z, y2 - y0 = z := ⟨_, rfl⟩
  have w1 : wrap64 (x1 - x0) = ux := by rw [← hux]; unfold wrap64; omega
  have w2 : wrap64 (y1 - y0) = uy := by rw [← huy]; unfold wrap64; omega
  have w3 : wrap64 (x2 - x0) = vx := by rw [← hvx]; unfold wrap64; omega
  have w4 : wrap64 (y2 - y0) = vy := by rw [← hvy]; unfold wrap64; omega
  rw [hux, huy, hvx, hvy] at q1 hA hB
  unfold cre at hA
  unfold cim at hB
  obtain ⟨m1, h1⟩ : ∃ z, vx * ux = z := ⟨_, rfl⟩
  obtain ⟨m2, h2⟩ : ∃ z, vy * uy = z := ⟨_, rfl⟩
  obtain ⟨m3, h3⟩ : ∃ z, vy * ux = z := ⟨_, rfl⟩
  obtain ⟨m4, h4⟩ : ∃ z, vx * uy = z := ⟨_, rfl⟩
  rw [h1, h2] at hA q1
  rw [h3, h4] at hB q1
  have w5 : wrap64 (vx * ux) = m1 := by rw [h1]; unfold wrap64; omega
  have w6 : wrap64 (vy * uy) = m2 := by rw [h2]; unfold wrap64; omega
  have w7 : wrap64 (vy * ux) = m3 := by rw [h3]; unfold wrap64; omega
  have w8 : wrap64 (vx * uy) = m4 := by rw [h4]; unfold wrap64; omega
  have w9 : wrap64 (m1 + m2) = A := by rw [hA]; unfold wrap64; omega
  have w10 : wrap64 (m3 - m4) = B := by rw [hB]; unfold wrap64; omega
  clear a1 a2 n0 n1 q1 q2 s1 s2 p0 p1 p2 hn hux huy hvx hvy h1 h2 h3 h4 hA hB hn'
  go_enter Try.func90, Try.ntmps90
  go_upto_region 1 with fail
  refine Reg.wp_chain_n (fun N0 D v W => Below w.heap.size w W ∧ Keeps w W ∧ N0 ≤ W.heap.size ∧ Blk W (w.heap.size) 43 #[.int .i64 x0, .int .i64 y0] ∧ Blk W (w.heap.size + 1) 43 #[.int .i64 x1, .int .i64 y1] ∧ Blk W (w.heap.size + 1 + 1) 43 #[.int .i64 x2, .int .i64 y2] ∧ Blk W (w.heap.size + 1 + 1 + 1) 28 #[.bool false, .slice none 0 0, .bool false, .slice none 0 0] ∧ Blk W (w.heap.size + 1 + 1 + 1 + 1) 28 #[.bool false, .slice none 0 0, .bool false, .slice none 0 0])
    (Reg.inl []) (Reg.gv []) (gw []) (fun _ => Keeps) (fun _ _ => False) (Reg.pl [(24, [])]) (Reg.pl [])
    (by kernel_rfl) (by kernel_rfl) (by kernel_rfl) (Reg.gv_some _ (by intro p hp; cases hp)) (fun N0 hN0 => ⟨fun v => ?_, fun D v v' W hv hj => ?_, fun D v k j W W' x _ _ _ _ hk hg => gw_keeps _ (by intro p hp; cases hp) hk hg, fun _ _ _ _ h => h.elim, fun ops' Q' hops hQ => ?_⟩)
  · exact ⟨belowB, keepsB, Nat.le_of_eq hN0.out, ownK, ownK, ownK, ownK, ownK⟩
  · obtain ⟨j0, jk, jn, b_a, b_b, b_c, b_q, b_r⟩ := hj
    exact ⟨j0, jk, jn, b_a, b_b, b_c, b_q, b_r⟩
  have i_a : w.heap.size < N0 := by have e := hN0.out; (try simp only [World.size_alloc, World.size_setCell, World.size_drew, World.heap_drewN] at e); first | omega | (have h := oa.lt; omega)
  have i_b : w.heap.size + 1 < N0 := by have e := hN0.out; (try simp only [World.size_alloc, World.size_setCell, World.size_drew, World.heap_drewN] at e); first | omega | (have h := ob.lt; omega)
  have i_c : w.heap.size + 1 + 1 < N0 := by have e := hN0.out; (try simp only [World.size_alloc, World.size_setCell, World.size_drew, World.heap_drewN] at e); first | omega | (have h := oc.lt; omega)
  have i_q : w.heap.size + 1 + 1 + 1 < N0 := by have e := hN0.out; (try simp only [World.size_alloc, World.size_setCell, World.size_drew, World.heap_drewN] at e); first | omega | (have h := oq.lt; omega)
  have i_r : w.heap.size + 1 + 1 + 1 + 1 < N0 := by have e := hN0.out; (try simp only [World.size_alloc, World.size_setCell, World.size_drew, World.heap_drewN] at e); first | omega | (have h := or.lt; omega)
  have iw : w.heap.size ≤ N0 := by have e := hN0.out; (try simp only [World.size_alloc, World.size_setCell, World.size_drew, World.heap_drewN] at e); first | omega | (have h := B.size; omega)
  clear hN0
  apply Reg.RC_pure (hc := rfl) (hst := rfl) (hw := rfl) (t := 17) (hd := rfl) (ht := Nat.le_of_ble_eq_true rfl)
  · intro D v' W' hc hj hf K hK
    go_step
    exact hK.out
  · rfl
  apply Reg.RC_pure (hc := rfl) (hst := rfl) (hw := rfl) (t := 18) (hd := rfl) (ht := Nat.le_of_ble_eq_true rfl)
  · intro D v' W' hc hj hf K hK
    obtain ⟨j0, jk, jn, b_a, b_b, b_c, b_q, b_r⟩ := hj
    have c0 : W'.cell? ⟨w.heap.size + 1, 0, none⟩ = some (.int .i64 x1) := b_b.c 0 rfl
    have c1 : W'.cell? ⟨w.heap.size + 1, 1, none⟩ = some (.int .i64 y1) := b_b.c 1 rfl
    go_step
    exact hK.out
  · rfl
  apply Reg.RC_pure (hc := rfl) (hst := rfl) (hw := rfl) (t := 19) (hd := rfl) (ht := Nat.le_of_ble_eq_true rfl)
  · intro D v' W' hc hj hf K hK
    go_step
    exact hK.out
  · rfl
  apply Reg.RC_pure (hc := rfl) (hst := rfl) (hw := rfl) (t := 20) (hd := rfl) (ht := Nat.le_of_ble_eq_true rfl)
  · intro D v' W' hc hj hf K hK
    obtain ⟨j0, jk, jn, b_a, b_b, b_c, b_q, b_r⟩ := hj
    have c0 : W'.cell? ⟨w.heap.size, 0, none⟩ = some (.int .i64 x0) := b_a.c 0 rfl
    have c1 : W'.cell? ⟨w.heap.size, 1, none⟩ = some (.int .i64 y0) := b_a.c 1 rfl
    go_step
    exact hK.out
  · rfl
  apply Reg.RC_pure (hc := rfl) (hst := rfl) (hw := rfl) (t := 21) (hd := rfl) (ht := Nat.le_of_ble_eq_true rfl)
  · intro D v' W' hc hj hf K hK
    go_step
    exact hK.out
  · rfl
  apply Reg.RC_pure (hc := rfl) (hst := rfl) (hw := rfl) (t := 22) (hd := rfl) (ht := Nat.le_of_ble_eq_true rfl)
  · intro D v' W' hc hj hf K hK
    go_step
    exact hK.out
  · rfl
  apply Reg.RC_pure (hc := rfl) (hst := rfl) (hw := rfl) (t := 23) (hd := rfl) (ht := Nat.le_of_ble_eq_true rfl)
  · intro D v' W' hc hj hf K hK
    obtain ⟨j0, jk, jn, b_a, b_b, b_c, b_q, b_r⟩ := hj
    have c0 : W'.cell? ⟨w.heap.size + 1, 0, none⟩ = some (.int .i64 x1) := b_b.c 0 rfl
    have c1 : W'.cell? ⟨w.heap.size + 1, 1, none⟩ = some (.int .i64 y1) := b_b.c 1 rfl
    go_step
    exact hK.out
  · rfl
  apply Reg.RC_pure (hc := rfl) (hst := rfl) (hw := rfl) (t := 24) (hd := rfl) (ht := Nat.le_of_ble_eq_true rfl)
  · intro D v' W' hc hj hf K hK
    go_step
    exact hK.out
  · rfl
  apply Reg.RC_pure (hc := rfl) (hst := rfl) (hw := rfl) (t := 25) (hd := rfl) (ht := Nat.le_of_ble_eq_true rfl)
  · intro D v' W' hc hj hf K hK
    obtain ⟨j0, jk, jn, b_a, b_b, b_c, b_q, b_r⟩ := hj
    have c0 : W'.cell? ⟨w.heap.size, 0, none⟩ = some (.int .i64 x0) := b_a.c 0 rfl
    have c1 : W'.cell? ⟨w.heap.size, 1, none⟩ = some (.int .i64 y0) := b_a.c 1 rfl
    go_step
    exact hK.out
  · rfl
  apply Reg.RC_pure (hc := rfl) (hst := rfl) (hw := rfl) (t := 26) (hd := rfl) (ht := Nat.le_of_ble_eq_true rfl)
  · intro D v' W' hc hj hf K hK
    go_step
    exact hK.out
  · rfl
  apply Reg.RC_pure (hc := rfl) (hst := rfl) (hw := rfl) (t := 27) (hd := rfl) (ht := Nat.le_of_ble_eq_true rfl)
  · intro D v' W' hc hj hf K hK
    go_step
    exact hK.out
  · rfl
  apply Reg.RC_pure (hc := rfl) (hst := rfl) (hw := rfl) (t := 28) (hd := rfl) (ht := Nat.le_of_ble_eq_true rfl)
  · intro D v' W' hc hj hf K hK
    obtain ⟨j0, jk, jn, b_a, b_b, b_c, b_q, b_r⟩ := hj
    have c0 : W'.cell? ⟨w.heap.size + 1 + 1, 0, none⟩ = some (.int .i64 x2) := b_c.c 0 rfl
    have c1 : W'.cell? ⟨w.heap.size + 1 + 1, 1, none⟩ = some (.int .i64 y2) := b_c.c 1 rfl
    go_step
    exact hK.out
  · rfl
  apply Reg.RC_pure (hc := rfl) (hst := rfl) (hw := rfl) (t := 29) (hd := rfl) (ht := Nat.le_of_ble_eq_true rfl)
  · intro D v' W' hc hj hf K hK
    go_step
    exact hK.out
  · rfl
  apply Reg.RC_pure (hc := rfl) (hst := rfl) (hw := rfl) (t := 30) (hd := rfl) (ht := Nat.le_of_ble_eq_true rfl)
  · intro D v' W' hc hj hf K hK
    obtain ⟨j0, jk, jn, b_a, b_b, b_c, b_q, b_r⟩ := hj
    have c0 : W'.cell? ⟨w.heap.size, 0, none⟩ = some (.int .i64 x0) := b_a.c 0 rfl
    have c1 : W'.cell? ⟨w.heap.size, 1, none⟩ = some (.int .i64 y0) := b_a.c 1 rfl
    go_step
    exact hK.out
  · rfl
  apply Reg.RC_pure (hc := rfl) (hst := rfl) (hw := rfl) (t := 31) (hd := rfl) (ht := Nat.le_of_ble_eq_true rfl)
  · intro D v' W' hc hj hf K hK
    go_step
    exact hK.out
  · rfl
  apply Reg.RC_pure (hc := rfl) (hst := rfl) (hw := rfl) (t := 32) (hd := rfl) (ht := Nat.le_of_ble_eq_true rfl)
  · intro D v' W' hc hj hf K hK
    go_step
    exact hK.out
  · rfl
  apply Reg.RC_pure (hc := rfl) (hst := rfl) (hw := rfl) (t := 33) (hd := rfl) (ht := Nat.le_of_ble_eq_true rfl)
  · intro D v' W' hc hj hf K hK
    obtain ⟨j0, jk, jn, b_a, b_b, b_c, b_q, b_r⟩ := hj
    have c0 : W'.cell? ⟨w.heap.size + 1 + 1, 0, none⟩ = some (.int .i64 x2) := b_c.c 0 rfl
    have c1 : W'.cell? ⟨w.heap.size + 1 + 1, 1, none⟩ = some (.int .i64 y2) := b_c.c 1 rfl
    go_step
    exact hK.out
  · rfl
  apply Reg.RC_pure (hc := rfl) (hst := rfl) (hw := rfl) (t := 34) (hd := rfl) (ht := Nat.le_of_ble_eq_true rfl)
  · intro D v' W' hc hj hf K hK
    go_step
    exact hK.out
  · rfl
  apply Reg.RC_pure (hc := rfl) (hst := rfl) (hw := rfl) (t := 35) (hd := rfl) (ht := Nat.le_of_ble_eq_true rfl)
  · intro D v' W' hc hj hf K hK
    obtain ⟨j0, jk, jn, b_a, b_b, b_c, b_q, b_r⟩ := hj
    have c0 : W'.cell? ⟨w.heap.size, 0, none⟩ = some (.int .i64 x0) := b_a.c 0 rfl
    have c1 : W'.cell? ⟨w.heap.size, 1, none⟩ = some (.int .i64 y0) := b_a.c 1 rfl
    go_step
    exact hK.out
  · rfl
  apply Reg.RC_pure (hc := rfl) (hst := rfl) (hw := rfl) (t := 36) (hd := rfl) (ht := Nat.le_of_ble_eq_true rfl)
  · intro D v' W' hc hj hf K hK
    go_step
    exact hK.out
  · rfl
  apply Reg.RC_pure (hc := rfl) (hst := rfl) (hw := rfl) (t := 8) (hd := rfl) (ht := Nat.le_of_ble_eq_true rfl)
  · intro D v' W' hc hj hf K hK
    go_step
    exact hK.out
  · rfl
  apply Reg.RC_pure (hc := rfl) (hst := rfl) (hw := rfl) (t := 9) (hd := rfl) (ht := Nat.le_of_ble_eq_true rfl)
  · intro D v' W' hc hj hf K hK
    go_step
    exact hK.out
  · rfl
  apply Reg.RC_pure (hc := rfl) (hst := rfl) (hw := rfl) (t := 10) (hd := rfl) (ht := Nat.le_of_ble_eq_true rfl)
  · intro D v' W' hc hj hf K hK
    go_step
    exact hK.out
  · rfl
  apply Reg.RC_pure (hc := rfl) (hst := rfl) (hw := rfl) (t := 11) (hd := rfl) (ht := Nat.le_of_ble_eq_true rfl)
  · intro D v' W' hc hj hf K hK
    go_step
    exact hK.out
  · rfl
  refine Reg.RC_end (fun Dn v' w1 hd hj hf => ?_)
  obtain ⟨j0, jk, jn, b_a, b_b, b_c, b_q, b_r⟩ := hj
  have B := j0
  have oa := b_a
  clear b_a
  have ob := b_b
  clear b_b
  have oc := b_c
  clear b_c
  have oq := b_q
  clear b_q
  have or := b_r
  clear b_r
  clear hd hf jk j0
  refine hQ _ _ ?_
  clear hQ hops Q' ops'
  have ca0 := oa.q0
  have ca1 := oa.q1
  have la := oa.lt
  have cb0 := ob.q0
  have cb1 := ob.q1
  have lb := ob.lt
  have lc := oc.lt
  have lq := oq.lt
  have lr := or.lt
  go_wp2_with fail
  refine (ap _).mono ?_
  rintro e w2 ⟨rfl, hb2⟩
  have st : Steps _ w2 := hb2
  have sk : Below w1.heap.size w1 w2 := belowA st
  replace B := below_steps B (Nat.le_refl _) sk
  replace oa := oa.steps sk
  replace ob := ob.steps sk
  replace oc := oc.steps sk
  replace oq := oq.steps sk
  replace or := or.steps sk
  clear st sk ca0 ca1 la cb0 cb1 lb lc lq lr
  go_wp2_with fail
  refine (ofA _).mono ?_
  rintro e w3 ⟨vfA_, rfl, hvfA_, hb3⟩
  have st : Steps _ w3 := hb3
  have sk : Below w2.heap.size w2 w3 := belowA st
  replace B := below_steps B (Nat.le_refl _) sk
  replace oa := oa.steps sk
  replace ob := ob.steps sk
  replace oc := oc.steps sk
  replace oq := oq.steps sk
  replace or := or.steps sk
  clear st sk
  obtain ⟨fA_1, fA_2, fA_3, fA_4, fA_5, fA_6, fA_7, fA_8, rfl⟩ := hvfA_.shape
  have FfA_ := Hid.mk_ hvfA_
  clear hvfA_
  have zr_3 : w.heap.size + 1 + 1 + 1 + 1 < w3.heap.size := or.lt
  have zz3 := B.size
  go_wp2_with fail
  refine (ofB _).mono ?_
  rintro e w4 ⟨vfB_, rfl, hvfB_, hb4⟩
  have st : Steps _ w4 := hb4
  have sk : Below w3.heap.size w3 w4 := belowA st
  replace B := below_steps B (Nat.le_refl _) sk
  have of : Blk w4 (w3.heap.size) 28 #[.bool fA_1, .slice fA_2 fA_3 fA_4, .bool fA_5, .slice fA_6 fA_7 fA_8] := Blk.stepsK st
  replace oa := oa.steps sk
  replace ob := ob.steps sk
  replace oc := oc.steps sk
  replace oq := oq.steps sk
  replace or := or.steps sk
  replace FfA_ := Hid.mk_ (FfA_.out.steps sk)
  clear st sk
  have cf0 := of.q0
  have cf1 := of.q1
  have cf2 := of.q2
  have cf3 := of.q3
  have lf := of.lt
  obtain ⟨fB_1, fB_2, fB_3, fB_4, fB_5, fB_6, fB_7, fB_8, rfl⟩ := hvfB_.shape
  have FfB_ := Hid.mk_ hvfB_
  clear hvfB_
  have zf_4 : w3.heap.size < w4.heap.size := of.lt
  have zz4 := B.size
  go_wp2_with fail
  go_upto_region 5 with fail
  refine Reg.wp_chain_n (fun N0 D v W => Below w.heap.size w W ∧ Keeps w4 W ∧ N0 ≤ W.heap.size ∧ Blk W (w.heap.size) 43 #[.int .i64 x0, .int .i64 y0] ∧ Blk W (w.heap.size + 1) 43 #[.int .i64 x1, .int .i64 y1] ∧ Blk W (w.heap.size + 1 + 1) 43 #[.int .i64 x2, .int .i64 y2] ∧ ((D 2 = false → Blk W (w.heap.size + 1 + 1 + 1) 28 #[.bool false, .slice none 0 0, .bool false, .slice none 0 0]) ∧ (D 2 = true → Blk W (w.heap.size + 1 + 1 + 1) 28 #[.bool fA_1, .slice fA_2 fA_3 fA_4, .bool fA_5, .slice fA_6 fA_7 fA_8])) ∧ ((D 3 = false → Blk W (w.heap.size + 1 + 1 + 1 + 1) 28 #[.bool false, .slice none 0 0, .bool false, .slice none 0 0]) ∧ (D 3 = true → Blk W (w.heap.size + 1 + 1 + 1 + 1) 28 #[.bool fB_1, .slice fB_2 fB_3 fB_4, .bool fB_5, .slice fB_6 fB_7 fB_8])) ∧ Blk W (w3.heap.size) 28 #[.bool fA_1, .slice fA_2 fA_3 fA_4, .bool fA_5, .slice fA_6 fA_7 fA_8] ∧ Blk W (w4.heap.size) 28 #[.bool fB_1, .slice fB_2 fB_3 fB_4, .bool fB_5, .slice fB_6 fB_7 fB_8])
    (Reg.inl [2, 3]) (Reg.gv []) (gw []) (fun _ => Keeps) (fun _ _ => False) (Reg.pl [(4, [])]) (Reg.pl [])
    (by kernel_rfl) (by kernel_rfl) (by kernel_rfl) (Reg.gv_some _ (by intro p hp; cases hp)) (fun N0 hN0 => ⟨fun v => ?_, fun D v v' W hv hj => ?_, fun D v k j W W' x _ _ _ _ hk hg => gw_keeps _ (by intro p hp; cases hp) hk hg, fun _ _ _ _ h => h.elim, fun ops' Q' hops hQ => ?_⟩)
  · exact ⟨belowB, keepsB, Nat.le_of_eq hN0.out, ownK, ownK, ownK, ⟨fun _ => ownK, (fun h => Bool.noConfusion h)⟩, ⟨fun _ => ownK, (fun h => Bool.noConfusion h)⟩, ownK, ownK⟩
  · obtain ⟨j0, jk, jn, b_a, b_b, b_c, b_q, b_r, b_f, b_g⟩ := hj
    exact ⟨j0, jk, jn, b_a, b_b, b_c, b_q, b_r, b_f, b_g⟩
  have i_a : w.heap.size < N0 := by have e := hN0.out; (try simp only [World.size_alloc, World.size_setCell, World.size_drew, World.heap_drewN] at e); first | omega | (have h := oa.lt; omega)
  have i_b : w.heap.size + 1 < N0 := by have e := hN0.out; (try simp only [World.size_alloc, World.size_setCell, World.size_drew, World.heap_drewN] at e); first | omega | (have h := ob.lt; omega)
  have i_c : w.heap.size + 1 + 1 < N0 := by have e := hN0.out; (try simp only [World.size_alloc, World.size_setCell, World.size_drew, World.heap_drewN] at e); first | omega | (have h := oc.lt; omega)
  have i_q : w.heap.size + 1 + 1 + 1 < N0 := by have e := hN0.out; (try simp only [World.size_alloc, World.size_setCell, World.size_drew, World.heap_drewN] at e); first | omega | (have h := oq.lt; omega)
  have i_r : w.heap.size + 1 + 1 + 1 + 1 < N0 := by have e := hN0.out; (try simp only [World.size_alloc, World.size_setCell, World.size_drew, World.heap_drewN] at e); first | omega | (have h := or.lt; omega)
  have i_f : w3.heap.size < N0 := by have e := hN0.out; (try simp only [World.size_alloc, World.size_setCell, World.size_drew, World.heap_drewN] at e); first | omega | (have h := of.lt; omega)
  have i_g : w4.heap.size < N0 := by have e := hN0.out; (try simp only [World.size_alloc, World.size_setCell, World.size_drew, World.heap_drewN] at e); first | omega | (have h := og.lt; omega)
  have iw : w.heap.size ≤ N0 := by have e := hN0.out; (try simp only [World.size_alloc, World.size_setCell, World.size_drew, World.heap_drewN] at e); first | omega | (have h := B.size; omega)
  clear cf0 cf1 cf2 cf3 lf
  clear hN0
  apply Reg.RC_pure (hc := rfl) (hst := rfl) (hw := rfl) (t := 64) (hd := rfl) (ht := Nat.le_of_ble_eq_true rfl)
  · intro D v' W' hc hj hf K hK
    obtain ⟨j0, jk, jn, b_a, b_b, b_c, b_q, b_r, b_f, b_g⟩ := hj
    have c0 : W'.cell? ⟨w3.heap.size, 0, none⟩ = some (.bool fA_1) := b_f.c 0 rfl
    have c1 : W'.cell? ⟨w3.heap.size, 1, none⟩ = some (.slice fA_2 fA_3 fA_4) := b_f.c 1 rfl
    have c2 : W'.cell? ⟨w3.heap.size, 2, none⟩ = some (.bool fA_5) := b_f.c 2 rfl
    have c3 : W'.cell? ⟨w3.heap.size, 3, none⟩ = some (.slice fA_6 fA_7 fA_8) := b_f.c 3 rfl
    go_step
    exact hK.out
  · rfl
  apply Reg.RC_pure (hc := rfl) (hst := rfl) (hw := rfl) (t := 65) (hd := rfl) (ht := Nat.le_of_ble_eq_true rfl)
  · intro D v' W' hc hj hf K hK
    obtain ⟨j0, jk, jn, b_a, b_b, b_c, b_q, b_r, b_f, b_g⟩ := hj
    have c0 : W'.cell? ⟨w4.heap.size, 0, none⟩ = some (.bool fB_1) := b_g.c 0 rfl
    have c1 : W'.cell? ⟨w4.heap.size, 1, none⟩ = some (.slice fB_2 fB_3 fB_4) := b_g.c 1 rfl
    have c2 : W'.cell? ⟨w4.heap.size, 2, none⟩ = some (.bool fB_5) := b_g.c 2 rfl
    have c3 : W'.cell? ⟨w4.heap.size, 3, none⟩ = some (.slice fB_6 fB_7 fB_8) := b_g.c 3 rfl
    go_step
    exact hK.out
  · rfl
  refine Reg.RC_call rfl (by intro t ht; cases ht) rfl (fun D v' W' hc hj hf K hK => ?_) (fun _ _ => Reg.RC_at (b := ⟨_, _⟩) rfl ?_)
  · obtain ⟨j0, jk, jn, b_a, b_b, b_c, b_q, b_r, b_f, b_g⟩ := hj
    have hb := b_q.1 hc.1
    have e2 : w.heap.size ≤ w.heap.size + 1 + 1 + 1 := by omega
    have ff := hb.fr
    have cc0 : W'.cell? ⟨w.heap.size + 1 + 1 + 1, 0, none⟩ = some (.bool false) := hb.c 0 rfl
    have cc1 : W'.cell? ⟨w.heap.size + 1 + 1 + 1, 1, none⟩ = some (.slice none 0 0) := hb.c 1 rfl
    have cc2 : W'.cell? ⟨w.heap.size + 1 + 1 + 1, 2, none⟩ = some (.bool false) := hb.c 2 rfl
    have cc3 : W'.cell? ⟨w.heap.size + 1 + 1 + 1, 3, none⟩ = some (.slice none 0 0) := hb.c 3 rfl
    go_step
    exact hK.out undef _ (Keeps.only hb rfl ((Only.refl _ _).set.set.set.set)) ⟨(Below.setCell (p := ⟨w.heap.size + 1 + 1 + 1, 3, none⟩) (Below.setCell (p := ⟨w.heap.size + 1 + 1 + 1, 2, none⟩) (Below.setCell (p := ⟨w.heap.size + 1 + 1 + 1, 1, none⟩) (Below.setCell (p := ⟨w.heap.size + 1 + 1 + 1, 0, none⟩) j0 (by show w.heap.size ≤ w.heap.size + 1 + 1 + 1; omega) _) (by show w.heap.size ≤ w.heap.size + 1 + 1 + 1; omega) _) (by show w.heap.size ≤ w.heap.size + 1 + 1 + 1; omega) _) (by show w.heap.size ≤ w.heap.size + 1 + 1 + 1; omega) _), jk.trans (Keeps.only hb rfl ((Only.refl _ _).set.set.set.set)), by simpa using jn, ((((b_a).far' (show w.heap.size ≠ w.heap.size + 1 + 1 + 1 by omega)).far' (show w.heap.size ≠ w.heap.size + 1 + 1 + 1 by omega)).far' (show w.heap.size ≠ w.heap.size + 1 + 1 + 1 by omega)).far' (show w.heap.size ≠ w.heap.size + 1 + 1 + 1 by omega), ((((b_b).far' (show w.heap.size + 1 ≠ w.heap.size + 1 + 1 + 1 by omega)).far' (show w.heap.size + 1 ≠ w.heap.size + 1 + 1 + 1 by omega)).far' (show w.heap.size + 1 ≠ w.heap.size + 1 + 1 + 1 by omega)).far' (show w.heap.size + 1 ≠ w.heap.size + 1 + 1 + 1 by omega), ((((b_c).far' (show w.heap.size + 1 + 1 ≠ w.heap.size + 1 + 1 + 1 by omega)).far' (show w.heap.size + 1 + 1 ≠ w.heap.size + 1 + 1 + 1 by omega)).far' (show w.heap.size + 1 + 1 ≠ w.heap.size + 1 + 1 + 1 by omega)).far' (show w.heap.size + 1 + 1 ≠ w.heap.size + 1 + 1 + 1 by omega), ⟨fun h => Bool.noConfusion h, fun _ => (Blk.set2 (cs' := #[.bool fA_1, .slice fA_2 fA_3 fA_4, .bool fA_5, .slice fA_6 fA_7 fA_8]) (Blk.set2 (cs' := #[.bool fA_1, .slice fA_2 fA_3 fA_4, .bool fA_5, .slice none 0 0]) (Blk.set2 (cs' := #[.bool fA_1, .slice fA_2 fA_3 fA_4, .bool false, .slice none 0 0]) (Blk.set2 (cs' := #[.bool fA_1, .slice none 0 0, .bool false, .slice none 0 0]) hb (i := 0) rfl) (i := 1) rfl) (i := 2) rfl) (i := 3) rfl)⟩, ⟨fun h => ((((b_r.1 h).far' (show w.heap.size + 1 + 1 + 1 + 1 ≠ w.heap.size + 1 + 1 + 1 by omega)).far' (show w.heap.size + 1 + 1 + 1 + 1 ≠ w.heap.size + 1 + 1 + 1 by omega)).far' (show w.heap.size + 1 + 1 + 1 + 1 ≠ w.heap.size + 1 + 1 + 1 by omega)).far' (show w.heap.size + 1 + 1 + 1 + 1 ≠ w.heap.size + 1 + 1 + 1 by omega), fun h => ((((b_r.2 h).far' (show w.heap.size + 1 + 1 + 1 + 1 ≠ w.heap.size + 1 + 1 + 1 by omega)).far' (show w.heap.size + 1 + 1 + 1 + 1 ≠ w.heap.size + 1 + 1 + 1 by omega)).far' (show w.heap.size + 1 + 1 + 1 + 1 ≠ w.heap.size + 1 + 1 + 1 by omega)).far' (show w.heap.size + 1 + 1 + 1 + 1 ≠ w.heap.size + 1 + 1 + 1 by omega)⟩, ((((b_f).far' (show w3.heap.size ≠ w.heap.size + 1 + 1 + 1 by omega)).far' (show w3.heap.size ≠ w.heap.size + 1 + 1 + 1 by omega)).far' (show w3.heap.size ≠ w.heap.size + 1 + 1 + 1 by omega)).far' (show w3.heap.size ≠ w.heap.size + 1 + 1 + 1 by omega), ((((b_g).far' (show w4.heap.size ≠ w.heap.size + 1 + 1 + 1 by omega)).far' (show w4.heap.size ≠ w.heap.size + 1 + 1 + 1 by omega)).far' (show w4.heap.size ≠ w.heap.size + 1 + 1 + 1 by omega)).far' (show w4.heap.size ≠ w.heap.size + 1 + 1 + 1 by omega)⟩ trivial trivial
  refine Reg.RC_call rfl (by intro t ht; cases ht) rfl (fun D v' W' hc hj hf K hK => ?_) (fun _ _ => Reg.RC_at (b := ⟨_, _⟩) rfl ?_)
  · obtain ⟨j0, jk, jn, b_a, b_b, b_c, b_q, b_r, b_f, b_g⟩ := hj
    have hb := b_r.1 hc.1
    have e2 : w.heap.size ≤ w.heap.size + 1 + 1 + 1 + 1 := by omega
    have ff := hb.fr
    have cc0 : W'.cell? ⟨w.heap.size + 1 + 1 + 1 + 1, 0, none⟩ = some (.bool false) := hb.c 0 rfl
    have cc1 : W'.cell? ⟨w.heap.size + 1 + 1 + 1 + 1, 1, none⟩ = some (.slice none 0 0) := hb.c 1 rfl
    have cc2 : W'.cell? ⟨w.heap.size + 1 + 1 + 1 + 1, 2, none⟩ = some (.bool false) := hb.c 2 rfl
    have cc3 : W'.cell? ⟨w.heap.size + 1 + 1 + 1 + 1, 3, none⟩ = some (.slice none 0 0) := hb.c 3 rfl
    go_step
    exact hK.out undef _ (Keeps.only hb rfl ((Only.refl _ _).set.set.set.set)) ⟨(Below.setCell (p := ⟨w.heap.size + 1 + 1 + 1 + 1, 3, none⟩) (Below.setCell (p := ⟨w.heap.size + 1 + 1 + 1 + 1, 2, none⟩) (Below.setCell (p := ⟨w.heap.size + 1 + 1 + 1 + 1, 1, none⟩) (Below.setCell (p := ⟨w.heap.size + 1 + 1 + 1 + 1, 0, none⟩) j0 (by show w.heap.size ≤ w.heap.size + 1 + 1 + 1 + 1; omega) _) (by show w.heap.size ≤ w.heap.size + 1 + 1 + 1 + 1; omega) _) (by show w.heap.size ≤ w.heap.size + 1 + 1 + 1 + 1; omega) _) (by show w.heap.size ≤ w.heap.size + 1 + 1 + 1 + 1; omega) _), jk.trans (Keeps.only hb rfl ((Only.refl _ _).set.set.set.set)), by simpa using jn, ((((b_a).far' (show w.heap.size ≠ w.heap.size + 1 + 1 + 1 + 1 by omega)).far' (show w.heap.size ≠ w.heap.size + 1 + 1 + 1 + 1 by omega)).far' (show w.heap.size ≠ w.heap.size + 1 + 1 + 1 + 1 by omega)).far' (show w.heap.size ≠ w.heap.size + 1 + 1 + 1 + 1 by omega), ((((b_b).far' (show w.heap.size + 1 ≠ w.heap.size + 1 + 1 + 1 + 1 by omega)).far' (show w.heap.size + 1 ≠ w.heap.size + 1 + 1 + 1 + 1 by omega)).far' (show w.heap.size + 1 ≠ w.heap.size + 1 + 1 + 1 + 1 by omega)).far' (show w.heap.size + 1 ≠ w.heap.size + 1 + 1 + 1 + 1 by omega), ((((b_c).far' (show w.heap.size + 1 + 1 ≠ w.heap.size + 1 + 1 + 1 + 1 by omega)).far' (show w.heap.size + 1 + 1 ≠ w.heap.size + 1 + 1 + 1 + 1 by omega)).far' (show w.heap.size + 1 + 1 ≠ w.heap.size + 1 + 1 + 1 + 1 by omega)).far' (show w.heap.size + 1 + 1 ≠ w.heap.size + 1 + 1 + 1 + 1 by omega), ⟨fun h => ((((b_q.1 h).far' (show w.heap.size + 1 + 1 + 1 ≠ w.heap.size + 1 + 1 + 1 + 1 by omega)).far' (show w.heap.size + 1 + 1 + 1 ≠ w.heap.size + 1 + 1 + 1 + 1 by omega)).far' (show w.heap.size + 1 + 1 + 1 ≠ w.heap.size + 1 + 1 + 1 + 1 by omega)).far' (show w.heap.size + 1 + 1 + 1 ≠ w.heap.size + 1 + 1 + 1 + 1 by omega), fun h => ((((b_q.2 h).far' (show w.heap.size + 1 + 1 + 1 ≠ w.heap.size + 1 + 1 + 1 + 1 by omega)).far' (show w.heap.size + 1 + 1 + 1 ≠ w.heap.size + 1 + 1 + 1 + 1 by omega)).far' (show w.heap.size + 1 + 1 + 1 ≠ w.heap.size + 1 + 1 + 1 + 1 by omega)).far' (show w.heap.size + 1 + 1 + 1 ≠ w.heap.size + 1 + 1 + 1 + 1 by omega)⟩, ⟨fun h => Bool.noConfusion h, fun _ => (Blk.set2 (cs' := #[.bool fB_1, .slice fB_2 fB_3 fB_4, .bool fB_5, .slice fB_6 fB_7 fB_8]) (Blk.set2 (cs' := #[.bool fB_1, .slice fB_2 fB_3 fB_4, .bool fB_5, .slice none 0 0]) (Blk.set2 (cs' := #[.bool fB_1, .slice fB_2 fB_3 fB_4, .bool false, .slice none 0 0]) (Blk.set2 (cs' := #[.bool fB_1, .slice none 0 0, .bool false, .slice none 0 0]) hb (i := 0) rfl) (i := 1) rfl) (i := 2) rfl) (i := 3) rfl)⟩, ((((b_f).far' (show w3.heap.size ≠ w.heap.size + 1 + 1 + 1 + 1 by omega)).far' (show w3.heap.size ≠ w.heap.size + 1 + 1 + 1 + 1 by omega)).far' (show w3.heap.size ≠ w.heap.size + 1 + 1 + 1 + 1 by omega)).far' (show w3.heap.size ≠ w.heap.size + 1 + 1 + 1 + 1 by omega), ((((b_g).far' (show w4.heap.size ≠ w.heap.size + 1 + 1 + 1 + 1 by omega)).far' (show w4.heap.size ≠ w.heap.size + 1 + 1 + 1 + 1 by omega)).far' (show w4.heap.size ≠ w.heap.size + 1 + 1 + 1 + 1 by omega)).far' (show w4.heap.size ≠ w.heap.size + 1 + 1 + 1 + 1 by omega)⟩ trivial trivial
  refine Reg.RC_end (fun Dn v' w5 hd hj hf => ?_)
  obtain ⟨j0, jk, jn, b_a, b_b, b_c, b_q, b_r, b_f, b_g⟩ := hj
  have B := j0
  have oa := b_a
  clear b_a
  have ob := b_b
  clear b_b
  have oc := b_c
  clear b_c
  have oq := b_q.2 (hd 2 (Nat.le_of_ble_eq_true rfl))
  clear b_q
  have or := b_r.2 (hd 3 (Nat.le_of_ble_eq_true rfl))
  clear b_r
  have of := b_f
  clear b_f
  have og := b_g
  clear b_g
  replace FfA_ := Hid.mk_ (FfA_.out.keeps jk)
  replace FfB_ := Hid.mk_ (FfB_.out.keeps jk)
  clear hd hf jk j0
  refine hQ _ _ ?_
  clear hQ hops Q' ops'
  have la := oa.lt
  have lb := ob.lt
  have lc := oc.lt
  have cq0 := oq.q0
  have cq1 := oq.q1
  have cq2 := oq.q2
  have cq3 := oq.q3
  have lq := oq.lt
  have cr0 := or.q0
  have cr1 := or.q1
  have cr2 := or.q2
  have cr3 := or.q3
  have lr := or.lt
  go_wp2_with fail
  refine bodyPost_ret (by simp [results, Try.results90, go_sem, la, lb, lc, cq0, cq1, cq2, cq3, lq, cr0, cr1, cr2, cr3, lr]; rfl) rfl ?_
  exact ⟨_, _, rfl, FfA_.out.keeps keepsB, FfB_.out.keeps keepsB, belowB⟩
end Go.Proofs.Ytibdehlmflaodaa
