import Derived.Test.YtalnlnpnacfdfaaCNe
import Derived.Test.YtalnlnpnacfdfaaCReg
namespace Go.Proofs.Ytalnlnpnacfdfaa
open Go.RowKit
/-- 'append' of limbs to an own row, as one operation -/
theorem wp_app {P : Program} {w : World} {o : Oper} {a : Act} {K : Act → World → Prop} {Q : Exit → Act → World → Prop} (s x : Operand) (t : TypeId)
    (ho : o.op = .call { callee := .builtin .append, args := #[s, x], argTypes := #[t, t] }) (base : Nat) (e : TypeId) (i : TypeInfo) (ht : P.underlying t = some (.slice e)) (hi : P.info? e = some i) (hz : i.zero = some (.int .u32 0))
    (hsize : i.size = 1) (hby : i.bytes = 4) (v : Value) (n : Nat) (l : List Int) (hs : a.eval s = v) (hown : w.ownsRow base e 1 v n (u32s l)) (y : Value) (m : List Int) (hx : a.eval x = y) (hy : Lim w y m) (hm : 0 < m.length)
    (hb : n + m.length ≤ 1000000000) (hbase : base ≤ w.heap.size)
    (h : ∀ v' w', w'.ownsRow base e 1 v' (n + m.length) (u32s (l ++ m)) → w.grownBy w' v.ownBlock → (∀ k, v.ownBlock = some k → base ≤ k) → K (a.put o.dst v') w') : o.wp P a w K Q := by
  obtain ⟨hok, ao, cap, rfl, h1, h3, h2⟩ := hy
  cases ao with
  | none =>
    obtain rfl := h3 rfl
    omega
  | some ad =>
    refine wp_append_own w s x t ho base e i (.int .u32 0) 1 4 ht hi hz hsize hby rfl (by decide) v n (u32s l) hs hown ad m.length cap (u32s m) hx (by simp [u32s]) ?_ ?_ (by unfold maxLen; omega) (by omega) hbase ?_
    · intro j u hj
      have hlt : j < m.length := by
        have := (List.getElem?_eq_some_iff.1 hj).1
        simpa [u32s] using this
      obtain ⟨b, o', e1, hbb, hc⟩ := h2 (by rintro rfl; cases hlt)
      cases e1
      rw [u32s_getD m j hlt] at hj
      cases hj
      rw [Addr.add_lit]; exact hc j hlt
    · intro u hu
      obtain ⟨z, _, rfl⟩ := List.mem_map.1 hu
      rfl
    · intro v' w' h4 h5 _
      exact h v' w' (by simpa [u32s] using h4) h5 (own_ge hown)
def SlcLen (n : Nat) (x : Value) : Prop := ∃ a c, x = .slice a n c
def Mad (x : Value) : Prop := ∃ b a n c, x = .tuple #[.agg #[.bool b, .slice a n c], .int .i64 0]
theorem zv_shift (x : Int) : zv (decide (x < 0)) (absN x * 1099511627776) = x * 1099511627776 := by
  unfold zv absN
  by_cases h : x < 0
  · rw [decide_eq_true h]; simp; omega
  · rw [decide_eq_false h]; simp; omega
/-- a row of one zero in a block of its own -/
def Row0 (W : World) (base : Nat) (v : Value) : Prop := ∃ g, v = .slice (some ⟨g, 0, none⟩) 1 1 ∧ base ≤ g ∧ Blk W g 117 #[.int .u32 0]
theorem Row0.owns {W : World} {base : Nat} {v : Value} (h : Row0 W base v) : W.ownsRow base 117 1 v 1 (u32s [0]) := by
  obtain ⟨g, rfl, hg, hb⟩ := h
  exact ⟨rfl, .inr ⟨g, 1, #[.int .u32 0], rfl, hg, hb, Nat.le_refl _, by unfold maxLen; omega, rfl, rfl⟩⟩
theorem Row0.steps {W W' : World} {base : Nat} {v : Value} (h : Row0 W base v) (hs : Steps W W') : Row0 W' base v := by
  obtain ⟨g, e, hg, hb⟩ := h
  exact ⟨g, e, hg, hb.steps hs⟩
set_option maxHeartbeats 3200000 in
set_option maxRecDepth 1000000 in
theorem rshift40 {va : Value} {x : Int} (w : World) (ha : Num w va x) (fx : (limbs (absN x)).length ≤ 300) :
    Calls Try.prog 74 #[va, .int .i64 40] w fun e w' => ∃ v, e = .returned (.tuple #[v, .int .i64 0]) ∧ Num w' v (x * 1099511627776) ∧ Steps w w' := by
  obtain ⟨i0, hi, hz0, hz1, hz2⟩ := info_parts infoU
  have fx' : fits x := Nat.le_trans fx (by omega)
  have f2 : fits (x * 1099511627776) := by
    have h1 := (limbs_length (absN_nonneg x) 300).1 fx
    have h2 : absN (x * 1099511627776) = absN x * 1099511627776 := by unfold absN; omega
    have h3 : (limbs (absN (x * 1099511627776))).length ≤ 302 := by
      refine (limbs_length (absN_nonneg _) 302).2 ?_
      rw [h2, show 302 = 300 + 2 from rfl, bp_add, bp_two]
      have := bp_pos 300
      omega
    exact Nat.le_trans h3 (by omega)
  have zx : ∀ l : Int, l = absN x * 1099511627776 → zv (decide (x < 0)) l = x * 1099511627776 := fun l h => by
    subst h
    have := zv_shift x
    exact this
  obtain ⟨aa, ca, rfl, pa⟩ := ha.parts
  have ck : ∀ w', Steps w w' → Calls Try.prog 95 #[.agg #[.bool (decide (x < 0)), .slice aa (limbs (absN x)).length ca]] w' fun e w2 => e = .returned (.int .i64 0) ∧ Steps w' w2 := fun w' h => by
    have := rcheckN (decide (x < 0)) w' (pa.steps h)
    rw [show errC (valid (decide (x < 0)) (limbs (absN x))) = 0 from if_pos (valid_of fx')] at this
    exact this
  have lf : ∀ w', Steps w w' → Calls Try.prog 100 #[.slice aa (limbs (absN x)).length ca, .int .u64 8] w' fun e w2 => ∃ v l, e = .returned v ∧ Lim w2 v l ∧ lval l = absN x * 256 ∧ l.length = (limbs (absN x)).length + 1 ∧ Steps w' w2 := fun w' h => by
    refine (rleft (s := 8) w' (pa.steps h) (by unfold few; omega) (by omega)).mono ?_
    rintro e w2 ⟨v, l, rfl, h1, h2, h3, h4, h5⟩
    rw [lval_limbs (absN_nonneg x)] at h2
    exact ⟨v, l, rfl, h1, h2, h3, h5⟩
  have mk : ∀ w' v l, Lim w' v l → lval l = absN x * 1099511627776 → l.length ≤ few → Calls Try.prog 99 #[.bool (decide (x < 0)), v] w' fun e w2 => ∃ v', e = .returned (.tuple #[v', .int .i64 0]) ∧ Num w2 v' (x * 1099511627776) ∧ Steps w' w2 := fun w' v l h h1 h2 => by
    have := rmadeN (decide (x < 0)) w' h h2
    rw [zx _ h1, errN_fits f2, clipN_fits f2] at this
    exact this
  obtain ⟨n, hn⟩ : ∃ n, (limbs (absN x)).length = n := ⟨_, rfl⟩
  obtain ⟨gx, hgx⟩ : ∃ b, decide (x < 0) = b := ⟨_, rfl⟩
  rw [hn] at ck lf fx ⊢
  rw [hgx] at ck mk ⊢
  have HG := Hid.mk_ hgx
  have hN : Hid (n ≤ 300) := fx
  clear ha pa hn hgx fx fx' f2 zx
  go_enter Try.func74, Try.ntmps74
  go_wp2_with fail
  refine (ck _ belowB).mono ?_
  rintro e w1 ⟨rfl, hb1⟩
  have st : Steps _ w1 := hb1
  have Bn : Below w.heap.size w w1 := belowA st
  have na : Blk w1 (w.heap.size) 51 #[.bool gx, .slice aa n ca] := Blk.stepsA st
  have nr : Blk w1 (w.heap.size + 1) 51 #[.bool false, .slice none 0 0] := Blk.stepsA st
  clear st
  have B := Bn
  clear Bn
  have oa := na
  clear na
  have ca0 : World.cell? w1 ⟨w.heap.size, 0, none⟩ = some (.bool gx) := oa.c 0 rfl
  have ca1 : World.cell? w1 ⟨w.heap.size, 1, none⟩ = some (.slice aa n ca) := oa.c 1 rfl
  have fa := oa.fr
  have la := oa.lt
  have or := nr
  clear nr
  have cr0 : World.cell? w1 ⟨w.heap.size + 1, 0, none⟩ = some (.bool false) := or.c 0 rfl
  have cr1 : World.cell? w1 ⟨w.heap.size + 1, 1, none⟩ = some (.slice none 0 0) := or.c 1 rfl
  have fr := or.fr
  have lr := or.lt
  clear ck
  go_wp2_with fail
  have lf1 := fun w' h => lf w' (show Below w.heap.size w w' from h)
  clear lf
  have z1 : w.heap.size + 1 < w1.heap.size := or.lt
  refine Reg.wp_chain (fun D v W => Below w.heap.size w W ∧ w1.heap.size ≤ W.heap.size ∧ Blk W (w.heap.size) 51 #[.bool gx, .slice aa n ca] ∧ (D 15 = false → Blk W (w.heap.size + 1) 51 #[.bool false, .slice none 0 0]) ∧ (D 4 = true → D 11 = false → Row0 W w1.heap.size (v 4)) ∧ (D 10 = true → D 11 = false → ∃ l, Lim W (v 10) l ∧ lval l = absN x * 256 ∧ l.length = n + 1) ∧
      (D 11 = true → ∃ l, Lim W (v 11) l ∧ lval l = absN x * 1099511627776 ∧ l.length = n + 2) ∧ (D 12 = true → D 15 = false → ∃ v2, v 12 = .tuple #[v2, .int .i64 0] ∧ Num W v2 (x * 1099511627776)) ∧ (D 12 = true → D 15 = true → ∃ b a n c, v 12 = .tuple #[.agg #[.bool b, .slice a n c], .int .i64 0] ∧ Blk W (w.heap.size + 1) 51 #[.bool b, .slice a n c] ∧ Num W (.agg #[.bool b, .slice a n c]) (x * 1099511627776)))
    (Reg.inl [4, 10, 11, 12, 15]) (Reg.gv [(4, SlcLen 1), (10, SlcLen (n + 1)), (11, SlcLen (n + 2)), (12, Mad)]) Reg.None_ (fun _ => Reg.Any) (fun _ _ => False) (Reg.pl [(11, [(4, some 28), (10, some 34)]), (12, [(11, some 35)]), (15, [(12, some 36), (11, some 35)]), (17, [(12, some 36)])]) (Reg.pl [(4, [11, 12, 15]), (10, [11, 12, 15]), (11, [12, 15]), (12, [15])])
    (by kernel_rfl) (by kernel_rfl) (by kernel_rfl) (Reg.gv_some _ (by intro p hp; simp only [List.mem_cons, List.not_mem_nil, or_false] at hp; rcases hp with rfl | rfl | rfl | rfl <;> first | exact ⟨_, none, 0, rfl⟩ | exact ⟨_, false, none, 0, 0, rfl⟩)) (fun v => ?_) (fun D v v' W hv hj => ?_) (fun _ _ _ _ _ _ _ _ _ _ _ _ _ => Reg.none_) (fun _ _ _ _ h => h.elim) (fun ops' Q' hops hQ => ?_)
  · exact ⟨belowB, Nat.le_refl _, oa.drew, fun _ => or.drew, fun h => Bool.noConfusion h, fun h => Bool.noConfusion h, fun h => Bool.noConfusion h, fun h => Bool.noConfusion h, fun h => Bool.noConfusion h⟩
  · obtain ⟨j1, j2, j3, j4, j5, j6, j7, j8, j9⟩ := hj
    refine ⟨j1, j2, j3, j4, fun h h' => ?_, fun h h' => ?_, fun h => ?_, fun h h' => ?_, fun h h' => ?_⟩
    · rw [← hv 4 h]; exact j5 h h'
    · rw [← hv 10 h]; exact j6 h h'
    · rw [← hv 11 h]; exact j7 h
    · rw [← hv 12 h]; exact j8 h h'
    · rw [← hv 12 h]; exact j9 h h'
  apply Reg.RC_pure (hc := rfl) (hst := rfl) (hw := rfl) (t := 24) (hd := rfl) (ht := Nat.le_of_ble_eq_true rfl)
  · intro D v' W' hc hj hf K hK
    go_step
    exact hK.out
  · rfl
  apply Reg.RC_pure (hc := rfl) (hst := rfl) (hw := rfl) (t := 25) (hd := rfl) (ht := Nat.le_of_ble_eq_true rfl)
  · intro D v' W' hc hj hf K hK
    have c0 : W'.cell? ⟨w.heap.size, 0, none⟩ = some (.bool gx) := hj.2.2.1.c 0 rfl
    go_step
    exact hK.out
  · rfl
  apply Reg.RC_pure (hc := rfl) (hst := rfl) (hw := rfl) (t := 26) (hd := rfl) (ht := Nat.le_of_ble_eq_true rfl)
  · intro D v' W' hc hj hf K hK
    go_step
    exact hK.out
  · rfl
  apply Reg.RC_pure (hc := rfl) (hst := rfl) (hw := rfl) (t := 27) (hd := rfl) (ht := Nat.le_of_ble_eq_true rfl)
  · intro D v' W' hc hj hf K hK
    go_step
    exact hK.out
  · rfl
  refine Reg.RC_call rfl (by intro t ht; cases ht; exact Nat.le_of_ble_eq_true rfl) rfl (fun D v' W' hc hj hf K hK => ?_) ?_
  · obtain ⟨j1, j2, j3, j4, j5, j6, j7, j8, j9⟩ := hj
    have hm : (Instr.makeSlice 49 (.int .i64 1) (.int .i64 1)).run Try.prog W' = .ok (.slice (some ⟨W'.heap.size, 0, none⟩) 1 1) (W'.alloc (.cells (madeCells #[.int .u32 0] 1) 117)) := make_row 1 (by omega) W'
    have s4 : D 4 = false := hc.1
    have s11 : D 11 = false := hc.2 11 (by decide)
    have s12 : D 12 = false := hc.2 12 (by decide)
    have s15 : D 15 = false := hc.2 15 (by decide)
    go_step
    have SA : Steps W' (W'.alloc (.cells (madeCells #[.int .u32 0] 1) 117)) := (Below.refl _ _).alloc (Nat.le_refl _) _
    refine hK.out _ _ Reg.any ⟨j1.alloc j1.size _, Nat.le_trans j2 SA.size, j3.alloc _, fun h => (j4 h).alloc _, fun _ _ => ⟨W'.heap.size, rfl, j2, ?_⟩, fun h h' => ?_, (fun h => Bool.noConfusion (s11.symm.trans h)), (fun h _ => Bool.noConfusion (s12.symm.trans h)), (fun _ h => Bool.noConfusion (s15.symm.trans h))⟩ Reg.none_ ⟨_, _, rfl⟩
    · show Blk _ _ _ (u32s (List.replicate 1 0)).toArray; rw [← made_zeros]; exact Blk.new _ _ _
    · obtain ⟨l, l1, l2, l3⟩ := j6 h h'; exact ⟨l, l1.steps SA, l2, l3⟩
  rintro _ ⟨a28, c28, rfl⟩
  refine Reg.RC_at (b := ⟨#[_, _, _, _, _, _, _, _, _, _, _, _, _, _, _, _, _, _, _, _, _, _, _, _, _, _, _, _, _, _, _, _, _, _, _, _, _, _, _, _, _, _, _, _, _, _, _, _, _, _, _, _, _, _, _, _, _, _, _, _, _, _, _, _, _, _, _, _, _, _, _, _, _], []⟩) rfl ?_
  apply Reg.RC_pure (hc := rfl) (hst := rfl) (hw := rfl) (t := 29) (hd := rfl) (ht := Nat.le_of_ble_eq_true rfl)
  · intro D v' W' hc hj hf K hK
    go_step
    exact hK.out
  · rfl
  apply Reg.RC_pure (hc := rfl) (hst := rfl) (hw := rfl) (t := 30) (hd := rfl) (ht := Nat.le_of_ble_eq_true rfl)
  · intro D v' W' hc hj hf K hK
    have c1 : W'.cell? ⟨w.heap.size, 1, none⟩ = some (.slice aa n ca) := hj.2.2.1.c 1 rfl
    go_step
    exact hK.out
  · rfl
  apply Reg.RC_pure (hc := rfl) (hst := rfl) (hw := rfl) (t := 31) (hd := rfl) (ht := Nat.le_of_ble_eq_true rfl)
  · intro D v' W' hc hj hf K hK
    go_step
    exact hK.out
  · rfl
  apply Reg.RC_pure (hc := rfl) (hst := rfl) (hw := rfl) (t := 32) (hd := rfl) (ht := Nat.le_of_ble_eq_true rfl)
  · intro D v' W' hc hj hf K hK
    go_step
    exact hK.out
  · rfl
  apply Reg.RC_pure (hc := rfl) (hst := rfl) (hw := rfl) (t := 33) (hd := rfl) (ht := Nat.le_of_ble_eq_true rfl)
  · intro D v' W' hc hj hf K hK
    go_step
    exact hK.out
  · rfl
  refine Reg.RC_call rfl (by intro t ht; cases ht; exact Nat.le_of_ble_eq_true rfl) rfl (fun D v' W' hc hj hf K hK => ?_) ?_
  · obtain ⟨j1, j2, j3, j4, j5, j6, j7, j8, j9⟩ := hj
    have s11 : D 11 = false := hc.2 11 (by decide)
    have s12 : D 12 = false := hc.2 12 (by decide)
    have s15 : D 15 = false := hc.2 15 (by decide)
    go_step
    refine (lf1 W' j1).mono ?_
    rintro e W2 ⟨v, l, rfl, h1, h2, h3, h5⟩
    refine hK.out v W2 Reg.any ⟨below_steps j1 (Nat.le_refl _) h5, Nat.le_trans j2 h5.size, j3.steps h5, fun h => (j4 h).steps h5, fun h h' => (j5 h h').steps h5, fun _ _ => ⟨l, h1, h2, h3⟩, (fun h => Bool.noConfusion (s11.symm.trans h)), (fun h _ => Bool.noConfusion (s12.symm.trans h)), (fun _ h => Bool.noConfusion (s15.symm.trans h))⟩ Reg.none_ ?_
    obtain ⟨ao, cp, e⟩ := h1.shape
    exact ⟨ao, cp, by show v = _; rw [e, h3]⟩
  rintro _ ⟨a34, c34, rfl⟩
  refine Reg.RC_at (b := ⟨#[_, _, _, _, _, _, _, _, _, _, _, _, _, _, _, _, _, _, _, _, _, _, _, _, _, _, _, _, _, _, _, _, _, _, _, _, _, _, _, _, _, _, _, _, _, _, _, _, _, _, _, _, _, _, _, _, _, _, _, _, _, _, _, _, _, _, _, _, _, _, _, _, _], []⟩) rfl ?_
  refine Reg.RC_call rfl (by intro t ht; cases ht; exact Nat.le_of_ble_eq_true rfl) rfl (fun D v' W' hc hj hf K hK => ?_) ?_
  · obtain ⟨j1, j2, j3, j4, j5, j6, j7, j8, j9⟩ := hj
    have s11 : D 11 = false := hc.1
    have s12 : D 12 = false := hc.2 12 (by decide)
    have s15 : D 15 = false := hc.2 15 (by decide)
    have f4 := hf (4, some 28) (by show (4, some 28) ∈ [(4, some 28), (10, some 34)]; simp) rfl
    have f10 := hf (10, some 34) (by show (10, some 34) ∈ [(4, some 28), (10, some 34)]; simp) rfl
    have e4 : v' 4 = .slice a28 1 c28 := f4.2.1
    have e10 : v' 10 = .slice a34 (n + 1) c34 := f10.2.1
    have r4 := j5 f4.1 s11
    obtain ⟨l, l1, l2, l3⟩ := j6 f10.1 s11
    rw [e4] at r4; rw [e10] at l1
    have hn3 := hN.out
    refine wp_app (.tmp 28) (.tmp 34) 49 rfl w1.heap.size 117 i0 Try.underlying49 hi hz0 hz1 hz2 _ 1 [0] rfl r4.owns _ l rfl l1 (by omega) (by omega) j2 ?_
    intro v2 W2 ho hg hge
    have ok2 : lok ([0] ++ l) := lok_append.2 ⟨lok_cons.2 ⟨⟨by omega, by omega⟩, lok_nil⟩, l1.ok⟩
    have hl2 := Lim.own ho ok2
    have kp : ∀ g, g < w1.heap.size → W2.heap[g]? = W'.heap[g]? := fun g hlt => hg.block g (Nat.lt_of_lt_of_le hlt j2) (fun e => by have := hge g e.symm; omega)
    refine hK.out v2 W2 Reg.any ⟨j1.grown hg j1.size (fun k hk => by have := hge k hk; omega), Nat.le_trans j2 hg.size, (kp _ (by omega)).trans j3, fun h => (kp _ (by omega)).trans (j4 s15), fun _ h => Bool.noConfusion (show true = false from h), fun _ h => Bool.noConfusion (show true = false from h), fun _ => ⟨[0] ++ l, hl2, ?_, by first | (simp [l3]; done) | (simp [l3]; omega)⟩, (fun h _ => Bool.noConfusion (s12.symm.trans h)), (fun _ h => Bool.noConfusion (s15.symm.trans h))⟩ Reg.none_ ?_
    · show lval (0 :: l) = _; simp only [lval]; omega
    · obtain ⟨ao, cp, e⟩ := hl2.shape
      exact ⟨ao, cp, by show v2 = _; rw [e]; first | (simp [l3]; done) | (simp [l3]; omega)⟩
  rintro _ ⟨a35, c35, rfl⟩
  refine Reg.RC_at (b := ⟨#[_, _, _, _, _, _, _, _, _, _, _, _, _, _, _, _, _, _, _, _, _, _, _, _, _, _, _, _, _, _, _, _, _, _, _, _, _, _, _, _, _, _, _, _, _, _, _, _, _, _, _, _, _, _, _, _, _, _, _, _, _, _, _, _, _, _, _, _, _, _, _, _, _], []⟩) rfl ?_
  refine Reg.RC_call rfl (by intro t ht; cases ht; exact Nat.le_of_ble_eq_true rfl) rfl (fun D v' W' hc hj hf K hK => ?_) ?_
  · obtain ⟨j1, j2, j3, j4, j5, j6, j7, j8, j9⟩ := hj
    have s12 : D 12 = false := hc.1
    have s15 : D 15 = false := hc.2 15 (by decide)
    have f11 := hf (11, some 35) (by show (11, some 35) ∈ [(11, some 35)]; simp) rfl
    have e11 : v' 11 = .slice a35 (n + 2) c35 := f11.2.1
    obtain ⟨l, l1, l2, l3⟩ := j7 f11.1
    rw [e11] at l1
    have lb : l.length ≤ few := by have := hN.out; unfold few; omega
    have s11 : D 11 = true := f11.1
    clear f11 e11 j5 j6
    go_step
    refine (mk W' _ l l1 l2 lb).mono ?_
    rintro e W2 ⟨v2, rfl, hn2, h5⟩
    obtain ⟨b, a, n', c, rfl⟩ := hn2.shape
    refine hK.out _ W2 Reg.any ⟨below_steps j1 (Nat.le_refl _) h5, Nat.le_trans j2 h5.size, j3.steps h5, fun h => (j4 h).steps h5, fun _ h => ?_, fun _ h => ?_, fun h => ?_, fun _ _ => ⟨_, rfl, hn2⟩, (fun _ h => Bool.noConfusion (s15.symm.trans h))⟩ Reg.none_ ⟨b, a, n', c, rfl⟩
    · have g : D 11 = false := h; rw [s11] at g; cases g
    · have g : D 11 = false := h; rw [s11] at g; cases g
    · obtain ⟨l, l1, l2, l3⟩ := j7 s11; exact ⟨l, l1.steps h5, l2, l3⟩
  rintro _ ⟨b, a, n', c, rfl⟩
  refine Reg.RC_at (b := ⟨#[_, _, _, _, _, _, _, _, _, _, _, _, _, _, _, _, _, _, _, _, _, _, _, _, _, _, _, _, _, _, _, _, _, _, _, _, _, _, _, _, _, _, _, _, _, _, _, _, _, _, _, _, _, _, _, _, _, _, _, _, _, _, _, _, _, _, _, _, _, _, _, _, _], []⟩) rfl ?_
  apply Reg.RC_pure (hc := rfl) (hst := rfl) (hw := rfl) (t := 37) (hd := rfl) (ht := Nat.le_of_ble_eq_true rfl)
  · intro D v' W' hc hj hf K hK
    go_step
    exact hK.out
  · rfl
  apply Reg.RC_pure (hc := rfl) (hst := rfl) (hw := rfl) (t := 38) (hd := rfl) (ht := Nat.le_of_ble_eq_true rfl)
  · intro D v' W' hc hj hf K hK
    go_step
    exact hK.out
  · rfl
  refine Reg.RC_call rfl (by intro t ht; cases ht) rfl (fun D v' W' hc hj hf K hK => ?_) (fun _ _ => Reg.RC_at (b := ⟨_, []⟩) rfl ?_)
  · obtain ⟨j1, j2, j3, j4, j5, j6, j7, j8, j9⟩ := hj
    have s15 : D 15 = false := hc.1
    have f12 := hf (12, some 36) (by show (12, some 36) ∈ [(12, some 36), (11, some 35)]; simp) rfl
    have s11 : D 11 = true := (hf (11, some 35) (by show (11, some 35) ∈ [(12, some 36), (11, some 35)]; simp) rfl).1
    have e12 : v' 12 = .tuple #[.agg #[.bool b, .slice a n' c], .int .i64 0] := f12.2.1
    obtain ⟨v2, e2, nm⟩ := j8 f12.1 s15
    have e3 : v2 = .agg #[.bool b, .slice a n' c] := by rw [e12] at e2; simp only [Value.tuple.injEq, Array.mk.injEq, List.cons.injEq, and_true] at e2; exact e2.symm
    subst e3
    have br := j4 s15
    have c0 : W'.cell? ⟨w.heap.size + 1, 0, none⟩ = some (.bool false) := br.c 0 rfl
    have c1 : W'.cell? ⟨w.heap.size + 1, 1, none⟩ = some (.slice none 0 0) := br.c 1 rfl
    have ff := br.fr
    have s11' := j7
    clear j5 j6 j8 j9 e2 f12
    go_step
    refine hK.out undef _ Reg.any ⟨Below.setCell (p := ⟨w.heap.size + 1, 1, none⟩) (Below.setCell (p := ⟨w.heap.size + 1, 0, none⟩) j1 (show w.heap.size ≤ w.heap.size + 1 by omega) _) (show w.heap.size ≤ w.heap.size + 1 by omega) _, by first | (simp; done) | (simp; exact j2), (j3.far' (by omega)).far' (by omega), fun h => Bool.noConfusion (show true = false from h), fun h h' => ?_, fun h h' => ?_, fun h => ?_, fun _ h => Bool.noConfusion (show true = false from h), fun _ _ => ⟨b, a, n', c, e12, br.both, nm.put2 br⟩⟩ Reg.none_ trivial
    · have g : D 11 = false := h'; rw [s11] at g; cases g
    · have g : D 11 = false := h'; rw [s11] at g; cases g
    · obtain ⟨l, l1, l2, l3⟩ := j7 h; exact ⟨l, l1.put2 br, l2, l3⟩
  apply Reg.RC_pure (hc := rfl) (hst := rfl) (hw := rfl) (t := 5) (hd := rfl) (ht := Nat.le_of_ble_eq_true rfl)
  · intro D v' W' hc hj hf K hK
    go_step
    exact hK.out
  · rfl
  refine Reg.RC_end (fun Dn v' W' hd hj hf => ?_)
  obtain ⟨j1, j2, j3, j4, j5, j6, j7, j8, j9⟩ := hj
  have f12 := hf (12, some 36) (by show (12, some 36) ∈ [(12, some 36)]; simp) rfl
  have e12 : v' 12 = .tuple #[.agg #[.bool b, .slice a n' c], .int .i64 0] := f12.2.1
  obtain ⟨b2, a2, n2, c2, e2, br, nm⟩ := j9 f12.1 (hd 15 (by decide))
  rw [e12] at e2
  obtain ⟨rfl, rfl, rfl, rfl⟩ : b = b2 ∧ a = a2 ∧ n' = n2 ∧ c = c2 := by simp only [Value.tuple.injEq, Value.agg.injEq, Array.mk.injEq, List.cons.injEq, and_true, Value.bool.injEq, Value.slice.injEq] at e2; exact ⟨e2.1, e2.2.1, e2.2.2.1, e2.2.2.2⟩
  clear hd hf j3 j4 j5 j6 j7 j8 j9 f12 e12 e2
  refine hQ _ _ ?_
  clear hQ hops Q' ops'
  have cr0 : W'.cell? ⟨w.heap.size + 1, 0, none⟩ = some (.bool b) := br.c 0 rfl
  have cr1 : W'.cell? ⟨w.heap.size + 1, 1, none⟩ = some (.slice a n' c) := br.c 1 rfl
  have fr := br.fr
  have lr := br.lt
  have NM := Hid.mk_ nm
  clear nm
  go_wp2
  refine bodyPost_ret (by simp [results, Try.results74, go_sem, cr0, cr1, fr, lr]; rfl) rfl ?_
  exact ⟨_, rfl, NM.out, j1⟩
end Go.Proofs.Ytalnlnpnacfdfaa
