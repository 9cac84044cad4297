import Derived.Test.YtibdehlmflaodaaCQi
import Derived.Test.YtibdehlmflaodaaCQe
namespace Go.Proofs.Ytibdehlmflaodaa
open Go.RowKit
def cP (x n : Int) : Int := if n = 0 then 0 else ((x : Rat) / (n : Rat)).num
def cQ (x n : Int) : Int := if n = 0 then 0 else (((x : Rat) / (n : Rat)).den : Int)
def QN (w : World) (v : Value) (a : Arr) : Prop :=
  ∃ c0 c1 c2 c3 c4 c5 c6 c7 c8 c9 c10 c11 c12 c13 c14 c15, v = .agg #[.int .i64 a.k0, .int .i64 a.k1, .int .i64 a.k2, .int .i64 a.k3, c0, c1, c2, c3, c4, c5, c6, c7, c8, c9, c10, c11, c12, c13, c14, c15] ∧
    (Num w (.agg #[c0, c1]) (cP a.a1 a.n) ∧ Num w (.agg #[c2, c3]) (cQ a.a1 a.n)) ∧ (Num w (.agg #[c4, c5]) (cP a.a2 a.n) ∧ Num w (.agg #[c6, c7]) (cQ a.a2 a.n)) ∧
    (Num w (.agg #[c8, c9]) (cP a.b1 a.n) ∧ Num w (.agg #[c10, c11]) (cQ a.b1 a.n)) ∧ (Num w (.agg #[c12, c13]) (cP a.b2 a.n) ∧ Num w (.agg #[c14, c15]) (cQ a.b2 a.n))
theorem QN.keeps {w w' : World} {v : Value} {a : Arr} (h : QN w v a) (k : Keeps w w') : QN w' v a := by
  obtain ⟨c0, c1, c2, c3, c4, c5, c6, c7, c8, c9, c10, c11, c12, c13, c14, c15, e, ⟨h0, h1⟩, ⟨h2, h3⟩, ⟨h4, h5⟩, ⟨h6, h7⟩⟩ := h
  exact ⟨c0, c1, c2, c3, c4, c5, c6, c7, c8, c9, c10, c11, c12, c13, c14, c15, e, ⟨h0.keeps k, h1.keeps k⟩, ⟨h2.keeps k, h3.keeps k⟩, ⟨h4.keeps k, h5.keeps k⟩, ⟨h6.keeps k, h7.keeps k⟩⟩
theorem QN.steps {w w' : World} {v : Value} {a : Arr} (h : QN w v a) (k : Steps w w') : QN w' v a := h.keeps (Keeps.steps k)
theorem Num.zero0 (w : World) : Num w (.agg #[.bool false, .slice none 0 0]) 0 := ⟨_, rfl, by
  have e : limbs (absN 0) = [] := (limbs_nil (absN_nonneg _)).2 (by unfold absN; omega)
  rw [e]; exact Lim.nil w⟩
theorem QN.zero (w : World) : QN w (.agg #[.int .i64 0, .int .i64 0, .int .i64 0, .int .i64 0, .bool false, .slice none 0 0, .bool false, .slice none 0 0, .bool false, .slice none 0 0, .bool false, .slice none 0 0, .bool false, .slice none 0 0, .bool false, .slice none 0 0, .bool false, .slice none 0 0, .bool false, .slice none 0 0]) noArr :=
  ⟨_, _, _, _, _, _, _, _, _, _, _, _, _, _, _, _, rfl, ⟨Num.zero0 w, Num.zero0 w⟩, ⟨Num.zero0 w, Num.zero0 w⟩, ⟨Num.zero0 w, Num.zero0 w⟩, ⟨Num.zero0 w, Num.zero0 w⟩⟩
theorem FR.num2 {w : World} {a b c d : Value} {x n : Int} (hn : 0 < n) (h : FR w (.agg #[a, b, c, d]) ((x : Rat) / (n : Rat))) : Num w (.agg #[a, b]) (cP x n) ∧ Num w (.agg #[c, d]) (cQ x n) := by
  obtain ⟨a2, a3, a4, a6, a7, a8, e, n1, n2, -⟩ := h.nums
  unfold cP cQ
  rw [if_neg (by omega), if_neg (by omega)]
  simp only [Value.agg.injEq, Array.mk.injEq, List.cons.injEq, and_true] at e
  obtain ⟨rfl, rfl, rfl, rfl⟩ := e
  exact ⟨n1, n2⟩
theorem QD.qn {w : World} {v : Value} {a : Arr} (hn : 0 < a.n) (h : QD w v a.k0 a.k1 a.k2 a.k3 ((a.a1 : Rat) / (a.n : Rat)) ((a.a2 : Rat) / (a.n : Rat)) ((a.b1 : Rat) / (a.n : Rat)) ((a.b2 : Rat) / (a.n : Rat))) : QN w v a := by
  obtain ⟨c0, c1, c2, c3, c4, c5, c6, c7, c8, c9, c10, c11, c12, c13, c14, c15, e, h0, h1, h2, h3⟩ := h
  exact ⟨c0, c1, c2, c3, c4, c5, c6, c7, c8, c9, c10, c11, c12, c13, c14, c15, e, h0.num2 hn, h1.num2 hn, h2.num2 hn, h3.num2 hn⟩
def okAt (n : Nat) (k : Nat → Int) (i : Nat) : Prop := (0 ≤ k i ∧ k i < n) ∧ ∀ m, m < i → k m ≠ k i
def okIdx (n : Nat) (k : Nat → Int) : Prop := ∀ i, i < 4 → okAt n k i
def KK (k : Nat → Int) : Nat → Nat := at4 (k 0).toNat (k 1).toNat (k 2).toNat (k 3).toNat
open Classical in
noncomputable def codeS (l : PL) (k : Nat → Int) : Int × Arr :=
  if chkP l ≠ 0 then (chkP l, noArr) else if ¬ okIdx l.length k then (2, noArr) else if wid l (KK k) = 0 then (18, noArr) else (0, bestOf l (KK k))
def CodeP (w : World) (l : PL) (k : Nat → Int) (e : Ending) (w' : World) : Prop := ∃ u, e = .returned (.tuple #[u, .int .i64 (codeS l k).1]) ∧ QN w' u (codeS l k).2 ∧ Steps w w'
theorem CodeP.none {w w' : World} {l : PL} {k : Nat → Int} {c : Int} (h : codeS l k = (c, noArr)) (st : Steps w w') : CodeP w l k (.returned (.tuple #[.agg #[.int .i64 0, .int .i64 0, .int .i64 0, .int .i64 0, .bool false, .slice none 0 0, .bool false, .slice none 0 0, .bool false, .slice none 0 0, .bool false, .slice none 0 0, .bool false, .slice none 0 0, .bool false, .slice none 0 0, .bool false, .slice none 0 0, .bool false, .slice none 0 0], .int .i64 c])) w' :=
  ⟨_, by rw [h], by rw [h]; exact QN.zero w', st⟩
structure NumOk (a : Arr) : Prop where
  a1 : -35184372088832 ≤ a.a1 ∧ a.a1 ≤ 35184372088832
  a2 : -35184372088832 ≤ a.a2 ∧ a.a2 ≤ 35184372088832
  b1 : -35184372088832 ≤ a.b1 ∧ a.b1 ≤ 35184372088832
  b2 : -35184372088832 ≤ a.b2 ∧ a.b2 ≤ 35184372088832
  n : 0 ≤ a.n ∧ a.n ≤ 35184372088832
theorem arr4_num {p q r s : Int × Int} (k0 k1 k2 k3 : Nat) (h0 : okp p.1 p.2) (h1 : okp q.1 q.2) (h2 : okp r.1 r.2) (h3 : okp s.1 s.2) : NumOk (arr4 k0 k1 k2 k3 p q r s) := by
  have a := sm_mul (okp_sm h2 h0) (okp_sm h1 h0)
  have b := sm_mul (okp_sm h3 h0) (okp_sm h1 h0)
  have c := sm_mul (okp_sm h1 h0) (okp_sm h1 h0)
  have d := csq_nonneg (q.1 - p.1) (q.2 - p.2)
  refine ⟨?_, ?_, ?_, ?_, ?_⟩ <;> (unfold arr4 ; try unfold cre; try unfold cim; try unfold sqd) <;> dsimp only
  · omega
  · omega
  · omega
  · omega
  · unfold csq at *; omega
theorem bestOf_num {l : PL} {K : Nat → Nat} (hp : ∀ i, okp (pt l (K i)).1 (pt l (K i)).2) (h : 0 < wid l K) : NumOk (bestOf l K) := by
  obtain ⟨h1, -, -⟩ := bestOf_spec l K h
  obtain ⟨p, -, e⟩ := List.mem_map.1 h1
  rw [← e]
  exact arr4_num _ _ _ _ (hp _) (hp _) (hp _) (hp _)
theorem QD.cells {w : World} {v : Value} {k0 k1 k2 k3 : Int} {r0 r1 r2 r3 : Rat} (h : QD w v k0 k1 k2 k3 r0 r1 r2 r3) : ∃ cs, v = .agg cs ∧ cs.size = 20 ∧ cs.all (·.oneCell') = true := by
  obtain ⟨c0, c1, c2, c3, c4, c5, c6, c7, c8, c9, c10, c11, c12, c13, c14, c15, e, h0, h1, h2, h3⟩ := h
  obtain ⟨_, _, _, _, _, _, _, _, e0⟩ := h0.shape
  obtain ⟨_, _, _, _, _, _, _, _, e1⟩ := h1.shape
  obtain ⟨_, _, _, _, _, _, _, _, e2⟩ := h2.shape
  obtain ⟨_, _, _, _, _, _, _, _, e3⟩ := h3.shape
  simp only [Value.agg.injEq, Array.mk.injEq, List.cons.injEq, and_true] at e0 e1 e2 e3
  obtain ⟨rfl, rfl, rfl, rfl⟩ := e0
  obtain ⟨rfl, rfl, rfl, rfl⟩ := e1
  obtain ⟨rfl, rfl, rfl, rfl⟩ := e2
  obtain ⟨rfl, rfl, rfl, rfl⟩ := e3
  exact ⟨_, e, rfl, by simp [Value.oneCell']⟩
theorem qquadA (a : Arr) (w : World) (h : NumOk a) (hn : 0 < a.n) : Calls Try.prog 31 #[.agg (arrC a)] w fun e w' => ∃ cs, e = .returned (.tuple #[.agg cs, .int .i64 0]) ∧ QN w' (.agg cs) a ∧ (cs.size = 20 ∧ cs.all (·.oneCell') = true) ∧ Steps w w' := by
  refine Calls.mono (qquad a.k0 a.k1 a.k2 a.k3 a.a1 a.a2 a.b1 a.b2 a.n w ⟨by have := h.a1; omega, by have := h.a1; omega⟩ ⟨by have := h.a2; omega, by have := h.a2; omega⟩ ⟨by have := h.b1; omega, by have := h.b1; omega⟩ ⟨by have := h.b2; omega, by have := h.b2; omega⟩ ⟨hn, by have := h.n; omega⟩) ?_
  rintro e w' ⟨v, rfl, hq, hs⟩
  obtain ⟨cs, rfl, h1, h2⟩ := hq.cells
  exact ⟨cs, rfl, hq.qn hn, ⟨h1, h2⟩, hs⟩
theorem chk_pts {l : PL} (h : chkP l = 0) (k : Nat) (hk : k < l.length) : okp (pt l k).1 (pt l k).2 := by
  unfold chkP at h
  split at h
  · cases h
  · split at h
    · rename_i hq
      have hm : pt l k ∈ l := by
        unfold pt
        simp only [List.getD, List.getElem?_eq_getElem hk, Option.getD_some]
        exact List.getElem_mem hk
      obtain ⟨q1, q2, q3, q4⟩ := hq _ hm
      exact ⟨q1, q2, q3, q4⟩
    · cases h
end Go.Proofs.Ytibdehlmflaodaa
namespace Go.Proofs.Ytibdehlmflaodaa
open Go.RowKit
theorem rofF (x y : Int) (w : World) (x0 : -9223372036854775808 ≤ x) (x1 : x ≤ 9223372036854775807) (y0 : -9223372036854775808 ≤ y) (y1 : y ≤ 9223372036854775807) (hy : y ≠ 0) :
    Calls Try.prog 49 #[.int .i64 x, .int .i64 y] w fun e w' => ∃ v, e = .returned (.tuple #[v, .int .i64 0]) ∧ FR w' v ((x : Rat) / (y : Rat)) ∧ Steps w w' := by
  refine (rof x y w x0 x1 y0 y1 hy).mono ?_
  rintro e w' ⟨v, rfl, h1, h2⟩
  exact ⟨v, rfl, FR.of_rd hy h1, h2⟩
set_option maxHeartbeats 6400000 in
set_option maxRecDepth 1000000 in
theorem rapart (x0 y0 x1 y1 : Int) (w : World) (p0 : okp x0 y0) (p1 : okp x1 y1) : Calls Try.prog 59 #[.agg #[.int .i64 x0, .int .i64 y0], .agg #[.int .i64 x1, .int .i64 y1]] w fun e w' => e = .returned (.int .i64 (sqd (x1, y1) (x0, y0))) ∧ Steps w w' := by
  have s := okp_sm p0 p1
  have q := sm_mul s s
  obtain ⟨ux, hux⟩ : ∃ z, x0 - x1 = z := ⟨_, rfl⟩
  obtain ⟨uy, huy⟩ : ∃ z, y0 - y1 = z := ⟨_, rfl⟩
  have E : Hid (sqd (x1, y1) (x0, y0) = ux * ux + uy * uy) := by show sqd _ _ = _; unfold sqd csq; dsimp only; rw [hux, huy]
  rw [hux, huy] at q
  unfold okp at p0 p1
  obtain ⟨m1, h1⟩ : ∃ z, ux * ux = z := ⟨_, rfl⟩
  obtain ⟨m2, h2⟩ : ∃ z, uy * uy = z := ⟨_, rfl⟩
  rw [h1, h2] at q E
  have w1 : wrap64 (x0 - x1) = ux := by rw [← hux]; unfold wrap64; omega
  have w2 : wrap64 (y0 - y1) = uy := by rw [← huy]; unfold wrap64; omega
  have w3 : wrap64 (ux * ux) = m1 := by rw [h1]; unfold wrap64; omega
  have w4 : wrap64 (uy * uy) = m2 := by rw [h2]; unfold wrap64; omega
  have w5 : wrap64 (m1 + m2) = m1 + m2 := by unfold wrap64; omega
  obtain ⟨m, hm⟩ : ∃ z, m1 + m2 = z := ⟨_, rfl⟩
  rw [hm] at w5 E
  have w6 : wrap64 (m1 + m2) = m := by rw [hm]; exact w5
  clear w5 hm h1 h2 q s p0 p1 hux huy
  go_enter Try.func59, Try.ntmps59
  go_wp2
  go_returns
  first | exact ⟨retI E.out.symm, belowB⟩ | exact ⟨retI (w6.trans E.out.symm), belowB⟩
set_option maxHeartbeats 6400000 in
set_option maxRecDepth 1000000 in
theorem rquot (x0 y0 x1 y1 x2 y2 : Int) (w : World) (p0 : okp x0 y0) (p1 : okp x1 y1) (p2 : okp x2 y2) (hn : sqd (x0, y0) (x1, y1) ≠ 0) : Calls Try.prog 90 #[.agg #[.int .i64 x0, .int .i64 y0], .agg #[.int .i64 x1, .int .i64 y1], .agg #[.int .i64 x2, .int .i64 y2]] w fun e w' =>
    ∃ u v, e = .returned (.tuple #[u, v]) ∧ FR w' u ((cre (x1 - x0) (y1 - y0) (x2 - x0) (y2 - y0) : Int) / (sqd (x0, y0) (x1, y1) : Int) : Rat) ∧ FR w' v ((cim (x1 - x0) (y1 - y0) (x2 - x0) (y2 - y0) : Int) / (sqd (x0, y0) (x1, y1) : Int) : Rat) ∧ Steps w w' := by
  have s1 := okp_sm p1 p0
  have s2 := okp_sm p2 p0
  have q1 := sm_mul s2 s1
  have q2 := sm_mul s1 s1
  have n0 := sqd_nonneg (x0, y0) (x1, y1)
  have ap := fun w' => rapart x0 y0 x1 y1 w' p0 p1
  rw [sqd_symm] at ap
  have n1 : sqd (x0, y0) (x1, y1) ≤ 35184372088832 := by unfold sqd csq; dsimp only; omega
  have a1 : -35184372088832 ≤ cre (x1 - x0) (y1 - y0) (x2 - x0) (y2 - y0) ∧ cre (x1 - x0) (y1 - y0) (x2 - x0) (y2 - y0) ≤ 35184372088832 := by unfold cre; omega
  have a2 : -35184372088832 ≤ cim (x1 - x0) (y1 - y0) (x2 - x0) (y2 - y0) ∧ cim (x1 - x0) (y1 - y0) (x2 - x0) (y2 - y0) ≤ 35184372088832 := by unfold cim; omega
  obtain ⟨A, hA⟩ : ∃ z, cre (x1 - x0) (y1 - y0) (x2 - x0) (y2 - y0) = z := ⟨_, rfl⟩
  obtain ⟨B, hB⟩ : ∃ z, cim (x1 - x0) (y1 - y0) (x2 - x0) (y2 - y0) = z := ⟨_, rfl⟩
  obtain ⟨n, hn'⟩ : ∃ z, sqd (x0, y0) (x1, y1) = z := ⟨_, rfl⟩
  rw [hn'] at ap n0 n1 hn ⊢
  rw [hA] at a1 ⊢
  rw [hB] at a2 ⊢
  unfold okp at p0 p1 p2
  have ofA := fun w' => rofF A n w' (by omega) (by omega) (by omega) (by omega) hn
  have ofB := fun w' => rofF B n w' (by omega) (by omega) (by omega) (by omega) hn
  obtain ⟨ux, hux⟩ : ∃ z, x1 - x0 = z := ⟨_, rfl⟩
  obtain ⟨uy, huy⟩ : ∃ z, y1 - y0 = z := ⟨_, rfl⟩
  obtain ⟨vx, hvx⟩ : ∃ z, x2 - x0 = z := ⟨_, rfl⟩
  obtain ⟨vy, hvy⟩ : ∃ z, y2 - y0 = z := ⟨_, rfl⟩
  have w1 : wrap64 (x1 - x0) = ux := by rw [← hux]; unfold wrap64; omega
  have w2 : wrap64 (y1 - y0) = uy := by rw [← huy]; unfold wrap64; omega
  have w3 : wrap64 (x2 - x0) = vx := by rw [← hvx]; unfold wrap64; omega
  have w4 : wrap64 (y2 - y0) = vy := by rw [← hvy]; unfold wrap64; omega
  rw [hux, huy, hvx, hvy] at q1 hA hB
  unfold cre at hA
  unfold cim at hB
  obtain ⟨m1, h1⟩ : ∃ z, vx * ux = z := ⟨_, rfl⟩
  obtain ⟨m2, h2⟩ : ∃ z, vy * uy = z := ⟨_, rfl⟩
  obtain ⟨m3, h3⟩ : ∃ z, vy * ux = z := ⟨_, rfl⟩
  obtain ⟨m4, h4⟩ : ∃ z, vx * uy = z := ⟨_, rfl⟩
  rw [h1, h2] at hA q1
  rw [h3, h4] at hB q1
  have w5 : wrap64 (vx * ux) = m1 := by rw [h1]; unfold wrap64; omega
  have w6 : wrap64 (vy * uy) = m2 := by rw [h2]; unfold wrap64; omega
  have w7 : wrap64 (vy * ux) = m3 := by rw [h3]; unfold wrap64; omega
  have w8 : wrap64 (vx * uy) = m4 := by rw [h4]; unfold wrap64; omega
  have w9 : wrap64 (m1 + m2) = A := by rw [hA]; unfold wrap64; omega
  have w10 : wrap64 (m3 - m4) = B := by rw [hB]; unfold wrap64; omega
  clear a1 a2 n0 n1 q1 q2 s1 s2 p0 p1 p2 hn hux huy hvx hvy h1 h2 h3 h4 hA hB hn'
  go_enter Try.func90, Try.ntmps90
  go_upto_region 1 with fail
  refine Reg.wp_chain_n (fun N0 D v W => Below w.heap.size w W ∧ Keeps w W ∧ N0 ≤ W.heap.size ∧ Blk W (w.heap.size) 43 #[.int .i64 x0, .int .i64 y0] ∧ Blk W (w.heap.size + 1) 43 #[.int .i64 x1, .int .i64 y1] ∧ Blk W (w.heap.size + 1 + 1) 43 #[.int .i64 x2, .int .i64 y2] ∧ Blk W (w.heap.size + 1 + 1 + 1) 28 #[.bool false, .slice none 0 0, .bool false, .slice none 0 0] ∧ Blk W (w.heap.size + 1 + 1 + 1 + 1) 28 #[.bool false, .slice none 0 0, .bool false, .slice none 0 0])
    (Reg.inl []) (Reg.gv []) (gw []) (fun _ => Keeps) (fun _ _ => False) (Reg.pl [(24, [])]) (Reg.pl [])
    (by kernel_rfl) (by kernel_rfl) (by kernel_rfl) (Reg.gv_some _ (by intro p hp; cases hp)) (fun N0 hN0 => ⟨fun v => ?_, fun D v v' W hv hj => ?_, fun D v k j W W' x _ _ _ _ hk hg => gw_keeps _ (by intro p hp; cases hp) hk hg, fun _ _ _ _ h => h.elim, fun ops' Q' hops hQ => ?_⟩)
  · exact ⟨belowB, keepsB, Nat.le_of_eq hN0.out, ownK, ownK, ownK, ownK, ownK⟩
  · obtain ⟨j0, jk, jn, b_a, b_b, b_c, b_q, b_r⟩ := hj
    exact ⟨j0, jk, jn, b_a, b_b, b_c, b_q, b_r⟩
  have i_a : w.heap.size < N0 := by have e := hN0.out; (try simp only [World.size_alloc, World.size_setCell, World.size_drew, World.heap_drewN] at e); first | omega | (have h := oa.lt; omega)
  have i_b : w.heap.size + 1 < N0 := by have e := hN0.out; (try simp only [World.size_alloc, World.size_setCell, World.size_drew, World.heap_drewN] at e); first | omega | (have h := ob.lt; omega)
  have i_c : w.heap.size + 1 + 1 < N0 := by have e := hN0.out; (try simp only [World.size_alloc, World.size_setCell, World.size_drew, World.heap_drewN] at e); first | omega | (have h := oc.lt; omega)
  have i_q : w.heap.size + 1 + 1 + 1 < N0 := by have e := hN0.out; (try simp only [World.size_alloc, World.size_setCell, World.size_drew, World.heap_drewN] at e); first | omega | (have h := oq.lt; omega)
  have i_r : w.heap.size + 1 + 1 + 1 + 1 < N0 := by have e := hN0.out; (try simp only [World.size_alloc, World.size_setCell, World.size_drew, World.heap_drewN] at e); first | omega | (have h := or.lt; omega)
  have iw : w.heap.size ≤ N0 := by have e := hN0.out; (try simp only [World.size_alloc, World.size_setCell, World.size_drew, World.heap_drewN] at e); first | omega | (have h := B.size; omega)
  clear hN0
  apply Reg.RC_pure (hc := rfl) (hst := rfl) (hw := rfl) (t := 17) (hd := rfl) (ht := Nat.le_of_ble_eq_true rfl)
  · intro D v' W' hc hj hf K hK
    go_step
    exact hK.out
  · rfl
  apply Reg.RC_pure (hc := rfl) (hst := rfl) (hw := rfl) (t := 18) (hd := rfl) (ht := Nat.le_of_ble_eq_true rfl)
  · intro D v' W' hc hj hf K hK
    obtain ⟨j0, jk, jn, b_a, b_b, b_c, b_q, b_r⟩ := hj
    have c0 : W'.cell? ⟨w.heap.size + 1, 0, none⟩ = some (.int .i64 x1) := b_b.c 0 rfl
    have c1 : W'.cell? ⟨w.heap.size + 1, 1, none⟩ = some (.int .i64 y1) := b_b.c 1 rfl
    go_step
    exact hK.out
  · rfl
  apply Reg.RC_pure (hc := rfl) (hst := rfl) (hw := rfl) (t := 19) (hd := rfl) (ht := Nat.le_of_ble_eq_true rfl)
  · intro D v' W' hc hj hf K hK
    go_step
    exact hK.out
  · rfl
  apply Reg.RC_pure (hc := rfl) (hst := rfl) (hw := rfl) (t := 20) (hd := rfl) (ht := Nat.le_of_ble_eq_true rfl)
  · intro D v' W' hc hj hf K hK
    obtain ⟨j0, jk, jn, b_a, b_b, b_c, b_q, b_r⟩ := hj
    have c0 : W'.cell? ⟨w.heap.size, 0, none⟩ = some (.int .i64 x0) := b_a.c 0 rfl
    have c1 : W'.cell? ⟨w.heap.size, 1, none⟩ = some (.int .i64 y0) := b_a.c 1 rfl
    go_step
    exact hK.out
  · rfl
  apply Reg.RC_pure (hc := rfl) (hst := rfl) (hw := rfl) (t := 21) (hd := rfl) (ht := Nat.le_of_ble_eq_true rfl)
  · intro D v' W' hc hj hf K hK
    go_step
    exact hK.out
  · rfl
  apply Reg.RC_pure (hc := rfl) (hst := rfl) (hw := rfl) (t := 22) (hd := rfl) (ht := Nat.le_of_ble_eq_true rfl)
  · intro D v' W' hc hj hf K hK
    go_step
    exact hK.out
  · rfl
  apply Reg.RC_pure (hc := rfl) (hst := rfl) (hw := rfl) (t := 23) (hd := rfl) (ht := Nat.le_of_ble_eq_true rfl)
  · intro D v' W' hc hj hf K hK
    obtain ⟨j0, jk, jn, b_a, b_b, b_c, b_q, b_r⟩ := hj
    have c0 : W'.cell? ⟨w.heap.size + 1, 0, none⟩ = some (.int .i64 x1) := b_b.c 0 rfl
    have c1 : W'.cell? ⟨w.heap.size + 1, 1, none⟩ = some (.int .i64 y1) := b_b.c 1 rfl
    go_step
    exact hK.out
  · rfl
  apply Reg.RC_pure (hc := rfl) (hst := rfl) (hw := rfl) (t := 24) (hd := rfl) (ht := Nat.le_of_ble_eq_true rfl)
  · intro D v' W' hc hj hf K hK
    go_step
    exact hK.out
  · rfl
  apply Reg.RC_pure (hc := rfl) (hst := rfl) (hw := rfl) (t := 25) (hd := rfl) (ht := Nat.le_of_ble_eq_true rfl)
  · intro D v' W' hc hj hf K hK
    obtain ⟨j0, jk, jn, b_a, b_b, b_c, b_q, b_r⟩ := hj
    have c0 : W'.cell? ⟨w.heap.size, 0, none⟩ = some (.int .i64 x0) := b_a.c 0 rfl
    have c1 : W'.cell? ⟨w.heap.size, 1, none⟩ = some (.int .i64 y0) := b_a.c 1 rfl
    go_step
    exact hK.out
  · rfl
  apply Reg.RC_pure (hc := rfl) (hst := rfl) (hw := rfl) (t := 26) (hd := rfl) (ht := Nat.le_of_ble_eq_true rfl)
  · intro D v' W' hc hj hf K hK
    go_step
    exact hK.out
  · rfl
  apply Reg.RC_pure (hc := rfl) (hst := rfl) (hw := rfl) (t := 27) (hd := rfl) (ht := Nat.le_of_ble_eq_true rfl)
  · intro D v' W' hc hj hf K hK
    go_step
    exact hK.out
  · rfl
  apply Reg.RC_pure (hc := rfl) (hst := rfl) (hw := rfl) (t := 28) (hd := rfl) (ht := Nat.le_of_ble_eq_true rfl)
  · intro D v' W' hc hj hf K hK
    obtain ⟨j0, jk, jn, b_a, b_b, b_c, b_q, b_r⟩ := hj
    have c0 : W'.cell? ⟨w.heap.size + 1 + 1, 0, none⟩ = some (.int .i64 x2) := b_c.c 0 rfl
    have c1 : W'.cell? ⟨w.heap.size + 1 + 1, 1, none⟩ = some (.int .i64 y2) := b_c.c 1 rfl
    go_step
    exact hK.out
  · rfl
  apply Reg.RC_pure (hc := rfl) (hst := rfl) (hw := rfl) (t := 29) (hd := rfl) (ht := Nat.le_of_ble_eq_true rfl)
  · intro D v' W' hc hj hf K hK
    go_step
    exact hK.out
  · rfl
  apply Reg.RC_pure (hc := rfl) (hst := rfl) (hw := rfl) (t := 30) (hd := rfl) (ht := Nat.le_of_ble_eq_true rfl)
  · intro D v' W' hc hj hf K hK
    obtain ⟨j0, jk, jn, b_a, b_b, b_c, b_q, b_r⟩ := hj
    have c0 : W'.cell? ⟨w.heap.size, 0, none⟩ = some (.int .i64 x0) := b_a.c 0 rfl
    have c1 : W'.cell? ⟨w.heap.size, 1, none⟩ = some (.int .i64 y0) := b_a.c 1 rfl
    go_step
    exact hK.out
  · rfl
  apply Reg.RC_pure (hc := rfl) (hst := rfl) (hw := rfl) (t := 31) (hd := rfl) (ht := Nat.le_of_ble_eq_true rfl)
  · intro D v' W' hc hj hf K hK
    go_step
    exact hK.out
  · rfl
  apply Reg.RC_pure (hc := rfl) (hst := rfl) (hw := rfl) (t := 32) (hd := rfl) (ht := Nat.le_of_ble_eq_true rfl)
  · intro D v' W' hc hj hf K hK
    go_step
    exact hK.out
  · rfl
  apply Reg.RC_pure (hc := rfl) (hst := rfl) (hw := rfl) (t := 33) (hd := rfl) (ht := Nat.le_of_ble_eq_true rfl)
  · intro D v' W' hc hj hf K hK
    obtain ⟨j0, jk, jn, b_a, b_b, b_c, b_q, b_r⟩ := hj
    have c0 : W'.cell? ⟨w.heap.size + 1 + 1, 0, none⟩ = some (.int .i64 x2) := b_c.c 0 rfl
    have c1 : W'.cell? ⟨w.heap.size + 1 + 1, 1, none⟩ = some (.int .i64 y2) := b_c.c 1 rfl
    go_step
    exact hK.out
  · rfl
  apply Reg.RC_pure (hc := rfl) (hst := rfl) (hw := rfl) (t := 34) (hd := rfl) (ht := Nat.le_of_ble_eq_true rfl)
  · intro D v' W' hc hj hf K hK
    go_step
    exact hK.out
  · rfl
  apply Reg.RC_pure (hc := rfl) (hst := rfl) (hw := rfl) (t := 35) (hd := rfl) (ht := Nat.le_of_ble_eq_true rfl)
  · intro D v' W' hc hj hf K hK
    obtain ⟨j0, jk, jn, b_a, b_b, b_c, b_q, b_r⟩ := hj
    have c0 : W'.cell? ⟨w.heap.size, 0, none⟩ = some (.int .i64 x0) := b_a.c 0 rfl
    have c1 : W'.cell? ⟨w.heap.size, 1, none⟩ = some (.int .i64 y0) := b_a.c 1 rfl
    go_step
    exact hK.out
  · rfl
  apply Reg.RC_pure (hc := rfl) (hst := rfl) (hw := rfl) (t := 36) (hd := rfl) (ht := Nat.le_of_ble_eq_true rfl)
  · intro D v' W' hc hj hf K hK
    go_step
    exact hK.out
  · rfl
  apply Reg.RC_pure (hc := rfl) (hst := rfl) (hw := rfl) (t := 8) (hd := rfl) (ht := Nat.le_of_ble_eq_true rfl)
  · intro D v' W' hc hj hf K hK
    go_step
    exact hK.out
  · rfl
  apply Reg.RC_pure (hc := rfl) (hst := rfl) (hw := rfl) (t := 9) (hd := rfl) (ht := Nat.le_of_ble_eq_true rfl)
  · intro D v' W' hc hj hf K hK
    go_step
    exact hK.out
  · rfl
  apply Reg.RC_pure (hc := rfl) (hst := rfl) (hw := rfl) (t := 10) (hd := rfl) (ht := Nat.le_of_ble_eq_true rfl)
  · intro D v' W' hc hj hf K hK
    go_step
    exact hK.out
  · rfl
  apply Reg.RC_pure (hc := rfl) (hst := rfl) (hw := rfl) (t := 11) (hd := rfl) (ht := Nat.le_of_ble_eq_true rfl)
  · intro D v' W' hc hj hf K hK
    go_step
    exact hK.out
  · rfl
  refine Reg.RC_end (fun Dn v' w1 hd hj hf => ?_)
  obtain ⟨j0, jk, jn, b_a, b_b, b_c, b_q, b_r⟩ := hj
  have B := j0
  have oa := b_a
  clear b_a
  have ob := b_b
  clear b_b
  have oc := b_c
  clear b_c
  have oq := b_q
  clear b_q
  have or := b_r
  clear b_r
  clear hd hf jk j0
  refine hQ _ _ ?_
  clear hQ hops Q' ops'
  have ca0 := oa.q0
  have ca1 := oa.q1
  have la := oa.lt
  have cb0 := ob.q0
  have cb1 := ob.q1
  have lb := ob.lt
  have lc := oc.lt
  have lq := oq.lt
  have lr := or.lt
  go_wp2_with fail
  refine (ap _).mono ?_
  rintro e w2 ⟨rfl, hb2⟩
  have st : Steps _ w2 := hb2
  have sk : Below w1.heap.size w1 w2 := belowA st
  replace B := below_steps B (Nat.le_refl _) sk
  replace oa := oa.steps sk
  replace ob := ob.steps sk
  replace oc := oc.steps sk
  replace oq := oq.steps sk
  replace or := or.steps sk
  clear st sk ca0 ca1 la cb0 cb1 lb lc lq lr
  go_wp2_with fail
  refine (ofA _).mono ?_
  rintro e w3 ⟨vfA_, rfl, hvfA_, hb3⟩
  have st : Steps _ w3 := hb3
  have sk : Below w2.heap.size w2 w3 := belowA st
  replace B := below_steps B (Nat.le_refl _) sk
  replace oa := oa.steps sk
  replace ob := ob.steps sk
  replace oc := oc.steps sk
  replace oq := oq.steps sk
  replace or := or.steps sk
  clear st sk
  obtain ⟨fA_1, fA_2, fA_3, fA_4, fA_5, fA_6, fA_7, fA_8, rfl⟩ := hvfA_.shape
  have FfA_ := Hid.mk_ hvfA_
  clear hvfA_
  have zr_3 : w.heap.size + 1 + 1 + 1 + 1 < w3.heap.size := or.lt
  have zz3 := B.size
  go_wp2_with fail
  refine (ofB _).mono ?_
  rintro e w4 ⟨vfB_, rfl, hvfB_, hb4⟩
  have st : Steps _ w4 := hb4
  have sk : Below w3.heap.size w3 w4 := belowA st
  replace B := below_steps B (Nat.le_refl _) sk
  have of : Blk w4 (w3.heap.size) 28 #[.bool fA_1, .slice fA_2 fA_3 fA_4, .bool fA_5, .slice fA_6 fA_7 fA_8] := Blk.stepsK st
  replace oa := oa.steps sk
  replace ob := ob.steps sk
  replace oc := oc.steps sk
  replace oq := oq.steps sk
  replace or := or.steps sk
  replace FfA_ := Hid.mk_ (FfA_.out.steps sk)
  clear st sk
  have cf0 := of.q0
  have cf1 := of.q1
  have cf2 := of.q2
  have cf3 := of.q3
  have lf := of.lt
  obtain ⟨fB_1, fB_2, fB_3, fB_4, fB_5, fB_6, fB_7, fB_8, rfl⟩ := hvfB_.shape
  have FfB_ := Hid.mk_ hvfB_
  clear hvfB_
  have zf_4 : w3.heap.size < w4.heap.size := of.lt
  have zz4 := B.size
  go_wp2_with fail
  go_upto_region 5 with fail
  refine Reg.wp_chain_n (fun N0 D v W => Below w.heap.size w W ∧ Keeps w4 W ∧ N0 ≤ W.heap.size ∧ Blk W (w.heap.size) 43 #[.int .i64 x0, .int .i64 y0] ∧ Blk W (w.heap.size + 1) 43 #[.int .i64 x1, .int .i64 y1] ∧ Blk W (w.heap.size + 1 + 1) 43 #[.int .i64 x2, .int .i64 y2] ∧ ((D 2 = false → Blk W (w.heap.size + 1 + 1 + 1) 28 #[.bool false, .slice none 0 0, .bool false, .slice none 0 0]) ∧ (D 2 = true → Blk W (w.heap.size + 1 + 1 + 1) 28 #[.bool fA_1, .slice fA_2 fA_3 fA_4, .bool fA_5, .slice fA_6 fA_7 fA_8])) ∧ ((D 3 = false → Blk W (w.heap.size + 1 + 1 + 1 + 1) 28 #[.bool false, .slice none 0 0, .bool false, .slice none 0 0]) ∧ (D 3 = true → Blk W (w.heap.size + 1 + 1 + 1 + 1) 28 #[.bool fB_1, .slice fB_2 fB_3 fB_4, .bool fB_5, .slice fB_6 fB_7 fB_8])) ∧ Blk W (w3.heap.size) 28 #[.bool fA_1, .slice fA_2 fA_3 fA_4, .bool fA_5, .slice fA_6 fA_7 fA_8] ∧ Blk W (w4.heap.size) 28 #[.bool fB_1, .slice fB_2 fB_3 fB_4, .bool fB_5, .slice fB_6 fB_7 fB_8])
    (Reg.inl [2, 3]) (Reg.gv []) (gw []) (fun _ => Keeps) (fun _ _ => False) (Reg.pl [(4, [])]) (Reg.pl [])
    (by kernel_rfl) (by kernel_rfl) (by kernel_rfl) (Reg.gv_some _ (by intro p hp; cases hp)) (fun N0 hN0 => ⟨fun v => ?_, fun D v v' W hv hj => ?_, fun D v k j W W' x _ _ _ _ hk hg => gw_keeps _ (by intro p hp; cases hp) hk hg, fun _ _ _ _ h => h.elim, fun ops' Q' hops hQ => ?_⟩)
  · exact ⟨belowB, keepsB, Nat.le_of_eq hN0.out, ownK, ownK, ownK, ⟨fun _ => ownK, (fun h => Bool.noConfusion h)⟩, ⟨fun _ => ownK, (fun h => Bool.noConfusion h)⟩, ownK, ownK⟩
  · obtain ⟨j0, jk, jn, b_a, b_b, b_c, b_q, b_r, b_f, b_g⟩ := hj
    exact ⟨j0, jk, jn, b_a, b_b, b_c, b_q, b_r, b_f, b_g⟩
  have i_a : w.heap.size < N0 := by have e := hN0.out; (try simp only [World.size_alloc, World.size_setCell, World.size_drew, World.heap_drewN] at e); first | omega | (have h := oa.lt; omega)
  have i_b : w.heap.size + 1 < N0 := by have e := hN0.out; (try simp only [World.size_alloc, World.size_setCell, World.size_drew, World.heap_drewN] at e); first | omega | (have h := ob.lt; omega)
  have i_c : w.heap.size + 1 + 1 < N0 := by have e := hN0.out; (try simp only [World.size_alloc, World.size_setCell, World.size_drew, World.heap_drewN] at e); first | omega | (have h := oc.lt; omega)
  have i_q : w.heap.size + 1 + 1 + 1 < N0 := by have e := hN0.out; (try simp only [World.size_alloc, World.size_setCell, World.size_drew, World.heap_drewN] at e); first | omega | (have h := oq.lt; omega)
  have i_r : w.heap.size + 1 + 1 + 1 + 1 < N0 := by have e := hN0.out; (try simp only [World.size_alloc, World.size_setCell, World.size_drew, World.heap_drewN] at e); first | omega | (have h := or.lt; omega)
  have i_f : w3.heap.size < N0 := by have e := hN0.out; (try simp only [World.size_alloc, World.size_setCell, World.size_drew, World.heap_drewN] at e); first | omega | (have h := of.lt; omega)
  have i_g : w4.heap.size < N0 := by have e := hN0.out; (try simp only [World.size_alloc, World.size_setCell, World.size_drew, World.heap_drewN] at e); first | omega | (have h := og.lt; omega)
  have iw : w.heap.size ≤ N0 := by have e := hN0.out; (try simp only [World.size_alloc, World.size_setCell, World.size_drew, World.heap_drewN] at e); first | omega | (have h := B.size; omega)
  clear cf0 cf1 cf2 cf3 lf
  clear hN0
  apply Reg.RC_pure (hc := rfl) (hst := rfl) (hw := rfl) (t := 64) (hd := rfl) (ht := Nat.le_of_ble_eq_true rfl)
  · intro D v' W' hc hj hf K hK
    obtain ⟨j0, jk, jn, b_a, b_b, b_c, b_q, b_r, b_f, b_g⟩ := hj
    have c0 : W'.cell? ⟨w3.heap.size, 0, none⟩ = some (.bool fA_1) := b_f.c 0 rfl
    have c1 : W'.cell? ⟨w3.heap.size, 1, none⟩ = some (.slice fA_2 fA_3 fA_4) := b_f.c 1 rfl
    have c2 : W'.cell? ⟨w3.heap.size, 2, none⟩ = some (.bool fA_5) := b_f.c 2 rfl
    have c3 : W'.cell? ⟨w3.heap.size, 3, none⟩ = some (.slice fA_6 fA_7 fA_8) := b_f.c 3 rfl
    go_step
    exact hK.out
  · rfl
  apply Reg.RC_pure (hc := rfl) (hst := rfl) (hw := rfl) (t := 65) (hd := rfl) (ht := Nat.le_of_ble_eq_true rfl)
  · intro D v' W' hc hj hf K hK
    obtain ⟨j0, jk, jn, b_a, b_b, b_c, b_q, b_r, b_f, b_g⟩ := hj
    have c0 : W'.cell? ⟨w4.heap.size, 0, none⟩ = some (.bool fB_1) := b_g.c 0 rfl
    have c1 : W'.cell? ⟨w4.heap.size, 1, none⟩ = some (.slice fB_2 fB_3 fB_4) := b_g.c 1 rfl
    have c2 : W'.cell? ⟨w4.heap.size, 2, none⟩ = some (.bool fB_5) := b_g.c 2 rfl
    have c3 : W'.cell? ⟨w4.heap.size, 3, none⟩ = some (.slice fB_6 fB_7 fB_8) := b_g.c 3 rfl
    go_step
    exact hK.out
  · rfl
  refine Reg.RC_call rfl (by intro t ht; cases ht) rfl (fun D v' W' hc hj hf K hK => ?_) (fun _ _ => Reg.RC_at (b := ⟨_, _⟩) rfl ?_)
  · obtain ⟨j0, jk, jn, b_a, b_b, b_c, b_q, b_r, b_f, b_g⟩ := hj
    have hb := b_q.1 hc.1
    have e2 : w.heap.size ≤ w.heap.size + 1 + 1 + 1 := by omega
    have ff := hb.fr
    have cc0 : W'.cell? ⟨w.heap.size + 1 + 1 + 1, 0, none⟩ = some (.bool false) := hb.c 0 rfl
    have cc1 : W'.cell? ⟨w.heap.size + 1 + 1 + 1, 1, none⟩ = some (.slice none 0 0) := hb.c 1 rfl
    have cc2 : W'.cell? ⟨w.heap.size + 1 + 1 + 1, 2, none⟩ = some (.bool false) := hb.c 2 rfl
    have cc3 : W'.cell? ⟨w.heap.size + 1 + 1 + 1, 3, none⟩ = some (.slice none 0 0) := hb.c 3 rfl
    go_step
    exact hK.out undef _ (Keeps.only hb rfl ((Only.refl _ _).set.set.set.set)) ⟨(Below.setCell (p := ⟨w.heap.size + 1 + 1 + 1, 3, none⟩) (Below.setCell (p := ⟨w.heap.size + 1 + 1 + 1, 2, none⟩) (Below.setCell (p := ⟨w.heap.size + 1 + 1 + 1, 1, none⟩) (Below.setCell (p := ⟨w.heap.size + 1 + 1 + 1, 0, none⟩) j0 (by show w.heap.size ≤ w.heap.size + 1 + 1 + 1; omega) _) (by show w.heap.size ≤ w.heap.size + 1 + 1 + 1; omega) _) (by show w.heap.size ≤ w.heap.size + 1 + 1 + 1; omega) _) (by show w.heap.size ≤ w.heap.size + 1 + 1 + 1; omega) _), jk.trans (Keeps.only hb rfl ((Only.refl _ _).set.set.set.set)), by simpa using jn, ((((b_a).far' (show w.heap.size ≠ w.heap.size + 1 + 1 + 1 by omega)).far' (show w.heap.size ≠ w.heap.size + 1 + 1 + 1 by omega)).far' (show w.heap.size ≠ w.heap.size + 1 + 1 + 1 by omega)).far' (show w.heap.size ≠ w.heap.size + 1 + 1 + 1 by omega), ((((b_b).far' (show w.heap.size + 1 ≠ w.heap.size + 1 + 1 + 1 by omega)).far' (show w.heap.size + 1 ≠ w.heap.size + 1 + 1 + 1 by omega)).far' (show w.heap.size + 1 ≠ w.heap.size + 1 + 1 + 1 by omega)).far' (show w.heap.size + 1 ≠ w.heap.size + 1 + 1 + 1 by omega), ((((b_c).far' (show w.heap.size + 1 + 1 ≠ w.heap.size + 1 + 1 + 1 by omega)).far' (show w.heap.size + 1 + 1 ≠ w.heap.size + 1 + 1 + 1 by omega)).far' (show w.heap.size + 1 + 1 ≠ w.heap.size + 1 + 1 + 1 by omega)).far' (show w.heap.size + 1 + 1 ≠ w.heap.size + 1 + 1 + 1 by omega), ⟨fun h => Bool.noConfusion h, fun _ => (Blk.set2 (cs' := #[.bool fA_1, .slice fA_2 fA_3 fA_4, .bool fA_5, .slice fA_6 fA_7 fA_8]) (Blk.set2 (cs' := #[.bool fA_1, .slice fA_2 fA_3 fA_4, .bool fA_5, .slice none 0 0]) (Blk.set2 (cs' := #[.bool fA_1, .slice fA_2 fA_3 fA_4, .bool false, .slice none 0 0]) (Blk.set2 (cs' := #[.bool fA_1, .slice none 0 0, .bool false, .slice none 0 0]) hb (i := 0) rfl) (i := 1) rfl) (i := 2) rfl) (i := 3) rfl)⟩, ⟨fun h => ((((b_r.1 h).far' (show w.heap.size + 1 + 1 + 1 + 1 ≠ w.heap.size + 1 + 1 + 1 by omega)).far' (show w.heap.size + 1 + 1 + 1 + 1 ≠ w.heap.size + 1 + 1 + 1 by omega)).far' (show w.heap.size + 1 + 1 + 1 + 1 ≠ w.heap.size + 1 + 1 + 1 by omega)).far' (show w.heap.size + 1 + 1 + 1 + 1 ≠ w.heap.size + 1 + 1 + 1 by omega), fun h => ((((b_r.2 h).far' (show w.heap.size + 1 + 1 + 1 + 1 ≠ w.heap.size + 1 + 1 + 1 by omega)).far' (show w.heap.size + 1 + 1 + 1 + 1 ≠ w.heap.size + 1 + 1 + 1 by omega)).far' (show w.heap.size + 1 + 1 + 1 + 1 ≠ w.heap.size + 1 + 1 + 1 by omega)).far' (show w.heap.size + 1 + 1 + 1 + 1 ≠ w.heap.size + 1 + 1 + 1 by omega)⟩, ((((b_f).far' (show w3.heap.size ≠ w.heap.size + 1 + 1 + 1 by omega)).far' (show w3.heap.size ≠ w.heap.size + 1 + 1 + 1 by omega)).far' (show w3.heap.size ≠ w.heap.size + 1 + 1 + 1 by omega)).far' (show w3.heap.size ≠ w.heap.size + 1 + 1 + 1 by omega), ((((b_g).far' (show w4.heap.size ≠ w.heap.size + 1 + 1 + 1 by omega)).far' (show w4.heap.size ≠ w.heap.size + 1 + 1 + 1 by omega)).far' (show w4.heap.size ≠ w.heap.size + 1 + 1 + 1 by omega)).far' (show w4.heap.size ≠ w.heap.size + 1 + 1 + 1 by omega)⟩ trivial trivial
  refine Reg.RC_call rfl (by intro t ht; cases ht) rfl (fun D v' W' hc hj hf K hK => ?_) (fun _ _ => Reg.RC_at (b := ⟨_, _⟩) rfl ?_)
  · obtain ⟨j0, jk, jn, b_a, b_b, b_c, b_q, b_r, b_f, b_g⟩ := hj
    have hb := b_r.1 hc.1
    have e2 : w.heap.size ≤ w.heap.size + 1 + 1 + 1 + 1 := by omega
    have ff := hb.fr
    have cc0 : W'.cell? ⟨w.heap.size + 1 + 1 + 1 + 1, 0, none⟩ = some (.bool false) := hb.c 0 rfl
    have cc1 : W'.cell? ⟨w.heap.size + 1 + 1 + 1 + 1, 1, none⟩ = some (.slice none 0 0) := hb.c 1 rfl
    have cc2 : W'.cell? ⟨w.heap.size + 1 + 1 + 1 + 1, 2, none⟩ = some (.bool false) := hb.c 2 rfl
    have cc3 : W'.cell? ⟨w.heap.size + 1 + 1 + 1 + 1, 3, none⟩ = some (.slice none 0 0) := hb.c 3 rfl
    go_step
    exact hK.out undef _ (Keeps.only hb rfl ((Only.refl _ _).set.set.set.set)) ⟨(Below.setCell (p := ⟨w.heap.size + 1 + 1 + 1 + 1, 3, none⟩) (Below.setCell (p := ⟨w.heap.size + 1 + 1 + 1 + 1, 2, none⟩) (Below.setCell (p := ⟨w.heap.size + 1 + 1 + 1 + 1, 1, none⟩) (Below.setCell (p := ⟨w.heap.size + 1 + 1 + 1 + 1, 0, none⟩) j0 (by show w.heap.size ≤ w.heap.size + 1 + 1 + 1 + 1; omega) _) (by show w.heap.size ≤ w.heap.size + 1 + 1 + 1 + 1; omega) _) (by show w.heap.size ≤ w.heap.size + 1 + 1 + 1 + 1; omega) _) (by show w.heap.size ≤ w.heap.size + 1 + 1 + 1 + 1; omega) _), jk.trans (Keeps.only hb rfl ((Only.refl _ _).set.set.set.set)), by simpa using jn, ((((b_a).far' (show w.heap.size ≠ w.heap.size + 1 + 1 + 1 + 1 by omega)).far' (show w.heap.size ≠ w.heap.size + 1 + 1 + 1 + 1 by omega)).far' (show w.heap.size ≠ w.heap.size + 1 + 1 + 1 + 1 by omega)).far' (show w.heap.size ≠ w.heap.size + 1 + 1 + 1 + 1 by omega), ((((b_b).far' (show w.heap.size + 1 ≠ w.heap.size + 1 + 1 + 1 + 1 by omega)).far' (show w.heap.size + 1 ≠ w.heap.size + 1 + 1 + 1 + 1 by omega)).far' (show w.heap.size + 1 ≠ w.heap.size + 1 + 1 + 1 + 1 by omega)).far' (show w.heap.size + 1 ≠ w.heap.size + 1 + 1 + 1 + 1 by omega), ((((b_c).far' (show w.heap.size + 1 + 1 ≠ w.heap.size + 1 + 1 + 1 + 1 by omega)).far' (show w.heap.size + 1 + 1 ≠ w.heap.size + 1 + 1 + 1 + 1 by omega)).far' (show w.heap.size + 1 + 1 ≠ w.heap.size + 1 + 1 + 1 + 1 by omega)).far' (show w.heap.size + 1 + 1 ≠ w.heap.size + 1 + 1 + 1 + 1 by omega), ⟨fun h => ((((b_q.1 h).far' (show w.heap.size + 1 + 1 + 1 ≠ w.heap.size + 1 + 1 + 1 + 1 by omega)).far' (show w.heap.size + 1 + 1 + 1 ≠ w.heap.size + 1 + 1 + 1 + 1 by omega)).far' (show w.heap.size + 1 + 1 + 1 ≠ w.heap.size + 1 + 1 + 1 + 1 by omega)).far' (show w.heap.size + 1 + 1 + 1 ≠ w.heap.size + 1 + 1 + 1 + 1 by omega), fun h => ((((b_q.2 h).far' (show w.heap.size + 1 + 1 + 1 ≠ w.heap.size + 1 + 1 + 1 + 1 by omega)).far' (show w.heap.size + 1 + 1 + 1 ≠ w.heap.size + 1 + 1 + 1 + 1 by omega)).far' (show w.heap.size + 1 + 1 + 1 ≠ w.heap.size + 1 + 1 + 1 + 1 by omega)).far' (show w.heap.size + 1 + 1 + 1 ≠ w.heap.size + 1 + 1 + 1 + 1 by omega)⟩, ⟨fun h => Bool.noConfusion h, fun _ => (Blk.set2 (cs' := #[.bool fB_1, .slice fB_2 fB_3 fB_4, .bool fB_5, .slice fB_6 fB_7 fB_8]) (Blk.set2 (cs' := #[.bool fB_1, .slice fB_2 fB_3 fB_4, .bool fB_5, .slice none 0 0]) (Blk.set2 (cs' := #[.bool fB_1, .slice fB_2 fB_3 fB_4, .bool false, .slice none 0 0]) (Blk.set2 (cs' := #[.bool fB_1, .slice none 0 0, .bool false, .slice none 0 0]) hb (i := 0) rfl) (i := 1) rfl) (i := 2) rfl) (i := 3) rfl)⟩, ((((b_f).far' (show w3.heap.size ≠ w.heap.size + 1 + 1 + 1 + 1 by omega)).far' (show w3.heap.size ≠ w.heap.size + 1 + 1 + 1 + 1 by omega)).far' (show w3.heap.size ≠ w.heap.size + 1 + 1 + 1 + 1 by omega)).far' (show w3.heap.size ≠ w.heap.size + 1 + 1 + 1 + 1 by omega), ((((b_g).far' (show w4.heap.size ≠ w.heap.size + 1 + 1 + 1 + 1 by omega)).far' (show w4.heap.size ≠ w.heap.size + 1 + 1 + 1 + 1 by omega)).far' (show w4.heap.size ≠ w.heap.size + 1 + 1 + 1 + 1 by omega)).far' (show w4.heap.size ≠ w.heap.size + 1 + 1 + 1 + 1 by omega)⟩ trivial trivial
  refine Reg.RC_end (fun Dn v' w5 hd hj hf => ?_)
  obtain ⟨j0, jk, jn, b_a, b_b, b_c, b_q, b_r, b_f, b_g⟩ := hj
  have B := j0
  have oa := b_a
  clear b_a
  have ob := b_b
  clear b_b
  have oc := b_c
  clear b_c
  have oq := b_q.2 (hd 2 (Nat.le_of_ble_eq_true rfl))
  clear b_q
  have or := b_r.2 (hd 3 (Nat.le_of_ble_eq_true rfl))
  clear b_r
  have of := b_f
  clear b_f
  have og := b_g
  clear b_g
  replace FfA_ := Hid.mk_ (FfA_.out.keeps jk)
  replace FfB_ := Hid.mk_ (FfB_.out.keeps jk)
  clear hd hf jk j0
  refine hQ _ _ ?_
  clear hQ hops Q' ops'
  have la := oa.lt
  have lb := ob.lt
  have lc := oc.lt
  have cq0 := oq.q0
  have cq1 := oq.q1
  have cq2 := oq.q2
  have cq3 := oq.q3
  have lq := oq.lt
  have cr0 := or.q0
  have cr1 := or.q1
  have cr2 := or.q2
  have cr3 := or.q3
  have lr := or.lt
  go_wp2_with fail
  refine bodyPost_ret (by simp [results, Try.results90, go_sem, la, lb, lc, cq0, cq1, cq2, cq3, lq, cr0, cr1, cr2, cr3, lr]; rfl) rfl ?_
  exact ⟨_, _, rfl, FfA_.out.keeps keepsB, FfB_.out.keeps keepsB, belowB⟩
end Go.Proofs.Ytibdehlmflaodaa
namespace Go.Proofs.Ytibdehlmflaodaa
open Go.RowKit
theorem run_max2 {P : Program} (ts : Array TypeId) (t : TypeId) (x y : Int) (w : World) : (Builtin.max_ ts t #[.int .i64 x, .int .i64 y]).run P w = .ok (.int .i64 (max x y)) w := by
  rw [← max_step]
  by_cases h1 : x < y <;> simp [Builtin.max_, Builtin.max2, go_sem, h1]
def wrow (l : PL) (K : Nat → Nat) (i : Nat) (b : Int) : Nat → Int
  | 0 => b
  | k + 1 => max (wrow l K i b k) (dst l K i k)
def wtot (l : PL) (K : Nat → Nat) : Nat → Int
  | 0 => 0
  | i + 1 => wrow l K i (wtot l K i) i
theorem wtot_wid (l : PL) (K : Nat → Nat) : wtot l K 4 = wid l K := rfl
theorem Pts.at {w : World} {ao : Option Addr} {len cap : Nat} {l : PL} (h : Pts w (.slice ao len cap) l) {a : Nat} (ha : a < l.length) : ∃ b o, ao = some ⟨b, o, none⟩ ∧ b < w.heap.size ∧ w.cell? ⟨b, o + a * 2, none⟩ = some (.int .i64 (pt l a).1) ∧ w.cell? ⟨b, o + a * 2 + 1, none⟩ = some (.int .i64 (pt l a).2) := by
  obtain ⟨e, -, h2⟩ := h.cells
  obtain ⟨b, o, e1, hb, hc⟩ := h2 (by omega)
  exact ⟨b, o, e1, hb, (hc a ha).1, (hc a ha).2⟩
set_option maxHeartbeats 6400000 in
set_option maxRecDepth 1000000 in
theorem rwidest {v : Value} {l : PL} (k0 k1 k2 k3 : Nat) (K : Nat → Nat) (hK : at4 k0 k1 k2 k3 = K) (w : World) (h : Pts w v l) (hk : ∀ i, K i < l.length) (hp : ∀ i, okp (pt l (K i)).1 (pt l (K i)).2) :
    Calls Try.prog 32 #[v, .agg #[.int .i64 k0, .int .i64 k1, .int .i64 k2, .int .i64 k3]] w fun e w' => e = .returned (.int .i64 (wid l K)) ∧ Steps w w' := by
  have hK4 : ∀ i, i < 4 → (#[.int .i64 k0, .int .i64 k1, .int .i64 k2, .int .i64 k3] : Array Value)[i]? = some (.int .i64 (K i : Nat)) := fun i hi => by rw [← hK]; rcases (show i = 0 ∨ i = 1 ∨ i = 2 ∨ i = 3 by omega) with rfl | rfl | rfl | rfl <;> rfl
  obtain ⟨ao, cap, rfl⟩ := h.shape
  have hat : ∀ a, a < l.length → ∃ b o, ao = some ⟨b, o, none⟩ ∧ b < w.heap.size ∧ w.cell? ⟨b, o + a * 2, none⟩ = some (.int .i64 (pt l a).1) ∧ w.cell? ⟨b, o + a * 2 + 1, none⟩ = some (.int .i64 (pt l a).2) := fun a ha => h.at ha
  obtain ⟨len, hlen⟩ : ∃ n, l.length = n := ⟨_, rfl⟩
  have hlen2 : len ≤ cap := by have := h.cells; omega
  rw [hlen] at hat hk ⊢
  clear h hK hlen
  rw [← wtot_wid]
  obtain ⟨b0, o0, rfl, hb0, -, -⟩ := hat _ (hk 0)
  replace hat : ∀ a, a < len → w.cell? ⟨b0, o0 + a * 2, none⟩ = some (.int .i64 (pt l a).1) ∧ w.cell? ⟨b0, o0 + a * 2 + 1, none⟩ = some (.int .i64 (pt l a).2) := fun a ha => by
    obtain ⟨b, o, e, -, h1, h2⟩ := hat a ha
    injection e with e
    injection e with e1 e2
    subst e1 e2
    exact ⟨h1, h2⟩
  go_enter Try.func32, Try.ntmps32
  go_wp2_with fail
  go_loopw [5, 6] (fun nn kk wr => ∃ i : Nat, i ≤ 4 ∧ kk = .int .i64 i ∧ nn = .int .i64 (wtot l K i) ∧ Blk wr (w.heap.size) 23 #[.int .i64 k0, .int .i64 k1, .int .i64 k2, .int .i64 k3] ∧ Below w.heap.size w wr) (fun _ kk _ => 4 - (intOf kk).toNat)
  case atStart => exact ⟨0, by omega, rfl, rfl, ownK, belowB⟩
  case round =>
    obtain ⟨i, hi, rfl, rfl, oa, B⟩ := hrel
    rcases Nat.lt_or_ge i 4 with i4 | i4
    · have hlt : decide ((i : Int) < 4) = true := decide_eq_true (by omega)
      go_wp2_with fail
      go_loopw [5, 7] (fun nn kk wr => ∃ k : Nat, k ≤ i ∧ kk = .int .i64 k ∧ nn = .int .i64 (wrow l K i (wtot l K i) k) ∧ Blk wr (w.heap.size) 23 #[.int .i64 k0, .int .i64 k1, .int .i64 k2, .int .i64 k3] ∧ Below w.heap.size w wr) (fun _ kk _ => i - (intOf kk).toNat)
      case atStart => exact ⟨0, by omega, rfl, rfl, ownK, belowB⟩
      case round =>
        obtain ⟨k, hk2, rfl, rfl, za, zB⟩ := hrel
        clear oa B
        have oa := za
        have B := zB
        clear za zB
        rcases Nat.lt_or_ge k i with ki | ki
        · have hlk : decide ((k : Int) < (i : Int)) = true := decide_eq_true (by omega)
          have ap := fun w' => rapart (pt l (K i)).1 (pt l (K i)).2 (pt l (K k)).1 (pt l (K k)).2 w' (hp i) (hp k)
          have hd0 : sqd ((pt l (K k)).1, (pt l (K k)).2) ((pt l (K i)).1, (pt l (K i)).2) = dst l K i k := sqd_symm _ _
          rw [hd0] at ap
          have HN : Hid (wrow l K i (wtot l K i) (k + 1) = max (wrow l K i (wtot l K i) k) (dst l K i k)) := rfl
          obtain ⟨d, hd⟩ : ∃ z, dst l K i k = z := ⟨_, rfl⟩
          obtain ⟨n, hn⟩ : ∃ z, wrow l K i (wtot l K i) k = z := ⟨_, rfl⟩
          rw [hd] at ap HN
          rw [hn] at HN ⊢
          obtain ⟨M, hM⟩ : ∃ z, max n d = z := ⟨_, rfl⟩
          rw [hM] at HN
          have hmx : ∀ w' : World, (Builtin.max_ #[2, 2] 2 #[.int .i64 n, .int .i64 d]).run Try.prog w' = .ok (.int .i64 M) w' := fun w' => by rw [← hM]; exact run_max2 _ _ _ _ w'
          have hA := hK4 i i4
          have hB := hK4 k (by omega)
          have ha := hk i
          have hb := hk k
          obtain ⟨xa, ya⟩ := hat _ ha
          obtain ⟨xb, yb⟩ := hat _ hb
          generalize (pt l (K i)).1 = x1 at *
          generalize (pt l (K i)).2 = y1 at *
          generalize (pt l (K k)).1 = x2 at *
          generalize (pt l (K k)).2 = y2 at *
          generalize K i = a at *
          generalize K k = c at *
          clear hd hn hM hd0
          go_wp2_with fail
          refine Reg.wp_chain (fun D v W => Below w.heap.size w W ∧ Blk W (w.heap.size) 23 #[.int .i64 k0, .int .i64 k1, .int .i64 k2, .int .i64 k3]) (Reg.inl [13]) (Reg.gv [(13, fun z_ => z_ = .int .i64 d)]) Reg.None_ (fun _ => Reg.Any) (fun _ _ => False) (Reg.pl []) (Reg.pl [])
            (by kernel_rfl) (by kernel_rfl) (by kernel_rfl) (Reg.gv_some _ (by intro p hp; simp only [List.mem_cons, List.not_mem_nil, or_false] at hp; rcases hp with rfl <;> first | exact ⟨_, rfl⟩ | exact ⟨_, none, 0, 0, rfl⟩ | exact ⟨_, false, none, 0, 0, rfl⟩ | exact ⟨_, false, none, 0, 0, false, none, 0, 0, rfl⟩)) (fun _ => ⟨belowB, ownK⟩) (fun _ _ _ _ _ h => h) (fun _ _ _ _ _ _ _ _ _ _ _ _ _ => Reg.none_) (fun _ _ _ _ h => h.elim) (fun ops' Q' hops hQ => ?_)
          apply Reg.RC_pure (hc := rfl) (hst := rfl) (hw := rfl) (t := 17) (hd := rfl) (ht := Nat.le_of_ble_eq_true rfl)
          · intro D v W hc hj hf K' hK'
            go_step
            exact hK'.out
          · rfl
          apply Reg.RC_pure (hc := rfl) (hst := rfl) (hw := rfl) (t := 18) (hd := rfl) (ht := Nat.le_of_ble_eq_true rfl)
          · intro D v W hc hj hf K' hK'
            go_step
            exact hK'.out
          · rfl
          apply Reg.RC_pure (hc := rfl) (hst := rfl) (hw := rfl) (t := 19) (hd := rfl) (ht := Nat.le_of_ble_eq_true rfl)
          · intro D v W hc hj hf K' hK'
            go_step
            exact hK'.out
          · rfl
          apply Reg.RC_pure (hc := rfl) (hst := rfl) (hw := rfl) (t := 20) (hd := rfl) (ht := Nat.le_of_ble_eq_true rfl)
          · intro D v W hc hj hf K' hK'
            go_step
            exact hK'.out
          · rfl
          apply Reg.RC_pure (hc := rfl) (hst := rfl) (hw := rfl) (t := 21) (hd := rfl) (ht := Nat.le_of_ble_eq_true rfl)
          · intro D v W hc hj hf K' hK'
            obtain ⟨j0, oa⟩ := hj
            have c0 : World.cell? W ⟨w.heap.size, i, none⟩ = some (.int .i64 a) := oa.c _ hA
            go_step
            exact hK'.out
          · rfl
          apply Reg.RC_pure (hc := rfl) (hst := rfl) (hw := rfl) (t := 22) (hd := rfl) (ht := Nat.le_of_ble_eq_true rfl)
          · intro D v W hc hj hf K' hK'
            go_step
            exact hK'.out
          · rfl
          apply Reg.RC_pure (hc := rfl) (hst := rfl) (hw := rfl) (t := 23) (hd := rfl) (ht := Nat.le_of_ble_eq_true rfl)
          · intro D v W hc hj hf K' hK'
            obtain ⟨j0, oa⟩ := hj
            have c0 : World.cell? W ⟨b0, o0 + a * 2, none⟩ = _ := (j0.cell (p := ⟨b0, o0 + a * 2, none⟩) hb0).trans xa
            have c1 : World.cell? W ⟨b0, o0 + a * 2 + 1, none⟩ = _ := (j0.cell (p := ⟨b0, o0 + a * 2 + 1, none⟩) hb0).trans ya
            go_step
            exact hK'.out
          · rfl
          apply Reg.RC_pure (hc := rfl) (hst := rfl) (hw := rfl) (t := 24) (hd := rfl) (ht := Nat.le_of_ble_eq_true rfl)
          · intro D v W hc hj hf K' hK'
            go_step
            exact hK'.out
          · rfl
          apply Reg.RC_pure (hc := rfl) (hst := rfl) (hw := rfl) (t := 25) (hd := rfl) (ht := Nat.le_of_ble_eq_true rfl)
          · intro D v W hc hj hf K' hK'
            go_step
            exact hK'.out
          · rfl
          apply Reg.RC_pure (hc := rfl) (hst := rfl) (hw := rfl) (t := 26) (hd := rfl) (ht := Nat.le_of_ble_eq_true rfl)
          · intro D v W hc hj hf K' hK'
            go_step
            exact hK'.out
          · rfl
          apply Reg.RC_pure (hc := rfl) (hst := rfl) (hw := rfl) (t := 27) (hd := rfl) (ht := Nat.le_of_ble_eq_true rfl)
          · intro D v W hc hj hf K' hK'
            obtain ⟨j0, oa⟩ := hj
            have c0 : World.cell? W ⟨w.heap.size, k, none⟩ = some (.int .i64 c) := oa.c _ hB
            go_step
            exact hK'.out
          · rfl
          apply Reg.RC_pure (hc := rfl) (hst := rfl) (hw := rfl) (t := 28) (hd := rfl) (ht := Nat.le_of_ble_eq_true rfl)
          · intro D v W hc hj hf K' hK'
            go_step
            exact hK'.out
          · rfl
          apply Reg.RC_pure (hc := rfl) (hst := rfl) (hw := rfl) (t := 29) (hd := rfl) (ht := Nat.le_of_ble_eq_true rfl)
          · intro D v W hc hj hf K' hK'
            obtain ⟨j0, oa⟩ := hj
            have c0 : World.cell? W ⟨b0, o0 + c * 2, none⟩ = _ := (j0.cell (p := ⟨b0, o0 + c * 2, none⟩) hb0).trans xb
            have c1 : World.cell? W ⟨b0, o0 + c * 2 + 1, none⟩ = _ := (j0.cell (p := ⟨b0, o0 + c * 2 + 1, none⟩) hb0).trans yb
            go_step
            exact hK'.out
          · rfl
          refine Reg.RC_call rfl (by intro t ht; cases ht; exact Nat.le_of_ble_eq_true rfl) rfl (fun D v W hc hj hf K' hK' => ?_) ?_
          · obtain ⟨j0, oa⟩ := hj
            go_step
            refine (ap _).mono ?_
            rintro e W2 ⟨rfl, hs⟩
            exact hK'.out _ W2 Reg.any ⟨below_steps j0 (Nat.le_refl _) hs, oa.steps hs⟩ trivial rfl
          rintro _ rfl
          refine Reg.RC_at (b := ⟨#[_,_,_,_,_,_,_,_,_,_,_,_,_,_,_,_,_,_,_,_,_,_,_,_,_,_,_,_,_,_,_,_,_], _⟩) rfl ?_
          apply Reg.RC_pure (hc := rfl) (hst := rfl) (hw := rfl) (t := 31) (hd := rfl) (ht := Nat.le_of_ble_eq_true rfl)
          · intro D v W hc hj hf K' hK'
            go_step
            exact hK'.out
          · rfl
          apply Reg.RC_pure (hc := rfl) (hst := rfl) (hw := rfl) (t := 5) (hd := rfl) (ht := Nat.le_of_ble_eq_true rfl)
          · intro D v W hc hj hf K' hK'
            go_step
            exact hK'.out
          · rfl
          refine Reg.RC_end (fun D v w9 hd hj hf => ?_)
          obtain ⟨j0, oa⟩ := hj
          have B := j0
          clear hd hf j0
          refine hQ _ _ ?_
          clear hQ hops Q' ops'
          repeat' (first | go_values | go_skip | go_guarded | go_step | go_upon)
          go_roundw
          case rel => exact ⟨k + 1, by omega, by go_num, by rw [HN.out], ownK, belowB⟩
          case measure => simp [intOf]; omega
        · obtain rfl : k = i := by omega
          go_wp2
          go_roundw
          case rel => exact ⟨k + 1, by omega, by go_num, rfl, ownK, belowB⟩
          case measure => simp [intOf]; omega
    · obtain rfl : i = 4 := by omega
      go_wp2
      go_returns
      exact ⟨rfl, belowB⟩
end Go.Proofs.Ytibdehlmflaodaa
