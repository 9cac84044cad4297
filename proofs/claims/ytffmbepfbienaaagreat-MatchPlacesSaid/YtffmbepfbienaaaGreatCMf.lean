import Derived.Test.YtffmbepfbienaaaGreatCMg
import Derived.Test.YtffmbepfbienaaaGreatCVk
namespace Go.Proofs.YtffmbepfbienaaaGreat
open Go.RowKit
theorem eq_ptG (x y x' y' : Int) (w : World) : (Op.equalIn 10000 23 (.agg #[.int .i64 x, .int .i64 y]) (.agg #[.int .i64 x', .int .i64 y'])).run Tryz.prog w = .ok (x == x' && y == y') w := by
  have one : ∀ k k' : Int, (Op.equalIn 9999 2 (.int .i64 k) (.int .i64 k')).run Tryz.prog w = .ok (k == k') w := fun k k' => by kernel_rfl
  have p0 : ∀ x y, (part 2 #[.int .i64 x, .int .i64 y] 0).run Tryz.prog w = .ok (.int .i64 x) w := fun x y => by kernel_rfl
  have p1 : ∀ x y, (part 2 #[.int .i64 x, .int .i64 y] 1).run Tryz.prog w = .ok (.int .i64 y) w := fun x y => by kernel_rfl
  have hm : (Tryz.prog.fieldsOf 23).toList.map (fun f => (decide (f.name = "_"), f.type, f.offset)) = [(false, 2, 0), (false, 2, 1)] := by kernel_rfl
  rw [show (10000 : Nat) = 9999 + 1 from rfl, run_equalIn_struct w 9999 _ _ _ (by kernel_rfl) (by kernel_rfl)]
  generalize (Tryz.prog.fieldsOf 23).toList = fs at hm
  rcases fs with _ | ⟨f0, _ | ⟨f1, _ | ⟨f2, r⟩⟩⟩
  · exact absurd (congrArg List.length hm) (by simp)
  · exact absurd (congrArg List.length hm) (by simp)
  · simp only [List.map_cons, List.map_nil, List.cons.injEq, Prod.mk.injEq, decide_eq_false_iff_not, and_true] at hm
    obtain ⟨⟨n0, t0, o0⟩, n1, t1, o1⟩ := hm
    cases h1 : (x == x') <;> cases h2 : (y == y') <;> simp only [Op.eqFields, t0, t1, o0, o1, ne_eq, n0, n1, not_false_eq_true, if_true, Sem.run_bind, p0, p1, one, h1, h2, Result.andThen_ok, Bool.not_true, Bool.not_false, Bool.false_eq_true, if_false, Sem.run_pure, Bool.and_true, Bool.and_false, Bool.true_and, Bool.false_and]
  · exact absurd (congrArg List.length hm) (by simp)
theorem pts_four {w : World} {g : Nat} {t : TypeId} {ax ay bx b_y px py qx qy : Int} (h : Blk w g t #[.int .i64 ax, .int .i64 ay, .int .i64 bx, .int .i64 b_y, .int .i64 px, .int .i64 py, .int .i64 qx, .int .i64 qy])
    (h1 : (-9223372036854775808 ≤ ax ∧ ax ≤ 9223372036854775807) ∧ (-9223372036854775808 ≤ ay ∧ ay ≤ 9223372036854775807)) (h2 : (-9223372036854775808 ≤ bx ∧ bx ≤ 9223372036854775807) ∧ (-9223372036854775808 ≤ b_y ∧ b_y ≤ 9223372036854775807)) (h3 : (-9223372036854775808 ≤ px ∧ px ≤ 9223372036854775807) ∧ (-9223372036854775808 ≤ py ∧ py ≤ 9223372036854775807)) (h4 : (-9223372036854775808 ≤ qx ∧ qx ≤ 9223372036854775807) ∧ (-9223372036854775808 ≤ qy ∧ qy ≤ 9223372036854775807)) : Pts w (.slice (some ⟨g, 0, none⟩) 4 4) [(ax, ay), (bx, b_y), (px, py), (qx, qy)] := by
  refine ⟨fun k => ?_, some ⟨g, 0, none⟩, 4, rfl, Nat.le_refl _, fun _ => ⟨g, 0, rfl, h.lt, fun t ht => ?_⟩⟩
  · match k with
    | 0 => exact ⟨h1.1.1, h1.1.2, h1.2.1, h1.2.2⟩
    | 1 => exact ⟨h2.1.1, h2.1.2, h2.2.1, h2.2.2⟩
    | 2 => exact ⟨h3.1.1, h3.1.2, h3.2.1, h3.2.2⟩
    | 3 => exact ⟨h4.1.1, h4.1.2, h4.2.1, h4.2.2⟩
    | k + 4 => rw [show ([(ax, ay), (bx, b_y), (px, py), (qx, qy)] : List (Int × Int)).getD (k + 4) (0, 0) = (0, 0) by simp [List.getD]]; decide
  · have : t = 0 ∨ t = 1 ∨ t = 2 ∨ t = 3 := by simp at ht; omega
    rcases this with rfl | rfl | rfl | rfl
    · exact ⟨h.c 0 rfl, h.c 1 rfl⟩
    · exact ⟨h.c 2 rfl, h.c 3 rfl⟩
    · exact ⟨h.c 4 rfl, h.c 5 rfl⟩
    · exact ⟨h.c 6 rfl, h.c 7 rfl⟩
theorem chk_four (a b p q : Int × Int) : chkP [a, b, p, q] = if okP a ∧ okP b ∧ okP p ∧ okP q then 0 else 8 := by unfold chkP; simp
def ofS (a b p q : Int × Int) : Int × Option (Nat → Rat) := if okP a ∧ okP b ∧ okP p ∧ okP q then (if a = b then (18, none) else (0, some (simT a b p q))) else (8, none)
def SimO (w : World) (v : Value) : Option (Nat → Rat) → Prop
  | some t => SimR w v t
  | none => v = .agg #[.bool false, .slice none 0 0, .bool false, .slice none 0 0, .bool false, .slice none 0 0, .bool false, .slice none 0 0, .bool false, .slice none 0 0, .bool false, .slice none 0 0, .bool false, .slice none 0 0, .bool false, .slice none 0 0]
theorem csq_pt {a b : Int × Int} (h : a ≠ b) : csq (b.1 - a.1) (b.2 - a.2) ≠ 0 := by
  have := csq_pos (re := b.1 - a.1) (im := b.2 - a.2) (fun ⟨h1, h2⟩ => h (by obtain ⟨a1, a2⟩ := a; obtain ⟨b1, b2⟩ := b; dsimp only at h1 h2; congr 1 <;> omega))
  omega
set_option maxHeartbeats 6400000 in
set_option maxRecDepth 1000000 in
theorem mOf (ax ay bx b_y px py qx qy : Int) (w : World) (ra : (-9223372036854775808 ≤ ax ∧ ax ≤ 9223372036854775807) ∧ (-9223372036854775808 ≤ ay ∧ ay ≤ 9223372036854775807)) (rb : (-9223372036854775808 ≤ bx ∧ bx ≤ 9223372036854775807) ∧ (-9223372036854775808 ≤ b_y ∧ b_y ≤ 9223372036854775807)) (ri : (-9223372036854775808 ≤ px ∧ px ≤ 9223372036854775807) ∧ (-9223372036854775808 ≤ py ∧ py ≤ 9223372036854775807)) (rj : (-9223372036854775808 ≤ qx ∧ qx ≤ 9223372036854775807) ∧ (-9223372036854775808 ≤ qy ∧ qy ≤ 9223372036854775807)) :
    Calls Tryz.prog 11 #[.agg #[.int .i64 ax, .int .i64 ay], .agg #[.int .i64 bx, .int .i64 b_y], .agg #[.int .i64 px, .int .i64 py], .agg #[.int .i64 qx, .int .i64 qy]] w fun e w' => ∃ v, e = .returned (.tuple #[v, .int .i64 (ofS (ax, ay) (bx, b_y) (px, py) (qx, qy)).1]) ∧ SimO w' v (ofS (ax, ay) (bx, b_y) (px, py) (qx, qy)).2 ∧ Steps w w' := by
  have ck : ∀ w' g t, Blk w' g t #[.int .i64 ax, .int .i64 ay, .int .i64 bx, .int .i64 b_y, .int .i64 px, .int .i64 py, .int .i64 qx, .int .i64 qy] → Calls Tryz.prog 37 #[.slice (some ⟨g, 0, none⟩) 4 4] w' fun e w2 => e = .returned (.int .i64 (if okP (ax, ay) ∧ okP (bx, b_y) ∧ okP (px, py) ∧ okP (qx, qy) then 0 else 8)) ∧ Steps w' w2 := fun w' g t hb => by
    have := qcheckP w' (pts_four hb ra rb ri rj) (by simp)
    rw [chk_four] at this
    exact this
  have qe : ∀ W, (Op.equalIn 10000 23 (.agg #[.int .i64 ax, .int .i64 ay]) (.agg #[.int .i64 bx, .int .i64 b_y])).run Tryz.prog W = .ok (ax == bx && ay == b_y) W := fun W => eq_ptG ax ay bx b_y W
  unfold ofS
  clear ra rb ri rj
  by_cases hok : okP (ax, ay) ∧ okP (bx, b_y) ∧ okP (px, py) ∧ okP (qx, qy)
  · rw [if_pos hok] at ck
    rw [if_pos hok]
    by_cases he : ((ax, ay) : Int × Int) = (bx, b_y)
    · rw [if_pos he]
      have hE : (ax == bx && ay == b_y) = true := by simp only [Prod.mk.injEq] at he; simp [he]
      rw [hE] at qe
      clear hok he hE
      go_enter Tryz.func11, Tryz.ntmps11
      go_wp2_with fail
      refine (ck _ (w.heap.size + 1 + 1 + 1 + 1 + 1) 23 ownK).mono ?_
      rintro e w1 ⟨rfl, hb1⟩
      have st : Steps _ w1 := hb1
      have B : Below w.heap.size w w1 := belowA st
      have na : Blk w1 (w.heap.size) 23 #[.int .i64 ax, .int .i64 ay] := Blk.stepsK st
      have nb : Blk w1 (w.heap.size + 1) 23 #[.int .i64 bx, .int .i64 b_y] := Blk.stepsK st
      have ni : Blk w1 (w.heap.size + 1 + 1) 23 #[.int .i64 px, .int .i64 py] := Blk.stepsK st
      have nj : Blk w1 (w.heap.size + 1 + 1 + 1) 23 #[.int .i64 qx, .int .i64 qy] := Blk.stepsK st
      have nr : Blk w1 (w.heap.size + 1 + 1 + 1 + 1) 30 #[.bool false, .slice none 0 0, .bool false, .slice none 0 0, .bool false, .slice none 0 0, .bool false, .slice none 0 0, .bool false, .slice none 0 0, .bool false, .slice none 0 0, .bool false, .slice none 0 0, .bool false, .slice none 0 0] := Blk.stepsK st
      have oa := na
      clear na
      have ob := nb
      clear nb
      have oi := ni
      clear ni
      have oj := nj
      clear nj
      have or := nr
      clear nr
      clear st
      have ca0 := oa.q0
      have ca1 := oa.q1
      have la := oa.lt
      have cb0 := ob.q0
      have cb1 := ob.q1
      have lb := ob.lt
      have li := oi.lt
      have lj := oj.lt
      have lr := or.lt
      go_wp2_with (first
        | ((with_reducible show wpList _ _ _ (⟨some 26, _, _, _, _, _⟩ :: _) _ _)
           refine build_big rfl 30 #[] rfl #[.bool false, .slice none 0 0, .bool false, .slice none 0 0, .bool false, .slice none 0 0, .bool false, .slice none 0 0, .bool false, .slice none 0 0, .bool false, .slice none 0 0, .bool false, .slice none 0 0, .bool false, .slice none 0 0] (by kernel_rfl) ?_
           skip)
        | ((with_reducible show wpList _ _ _ (⟨none, .store _ _ _, _, _, _, _⟩ :: _) _ _)
           refine store_big rfl 30 (.tmp 8) (.tmp 26) rfl (w.heap.size + 1 + 1 + 1 + 1) #[.bool false, .slice none 0 0, .bool false, .slice none 0 0, .bool false, .slice none 0 0, .bool false, .slice none 0 0, .bool false, .slice none 0 0, .bool false, .slice none 0 0, .bool false, .slice none 0 0, .bool false, .slice none 0 0] rfl rfl 30 #[.bool false, .slice none 0 0, .bool false, .slice none 0 0, .bool false, .slice none 0 0, .bool false, .slice none 0 0, .bool false, .slice none 0 0, .bool false, .slice none 0 0, .bool false, .slice none 0 0, .bool false, .slice none 0 0] ownK (by kernel_rfl) rfl (by simp [Value.oneCell']) (fun w2 hrow => ?_)
           have Bn : Below w.heap.size w w2 := hrow.below belowB (by omega)
           have na : Blk w2 (w.heap.size) 23 #[.int .i64 ax, .int .i64 ay] := hrow.far ownK (show w.heap.size ≠ w.heap.size + 1 + 1 + 1 + 1 by omega)
           have nb : Blk w2 (w.heap.size + 1) 23 #[.int .i64 bx, .int .i64 b_y] := hrow.far ownK (show w.heap.size + 1 ≠ w.heap.size + 1 + 1 + 1 + 1 by omega)
           have ni : Blk w2 (w.heap.size + 1 + 1) 23 #[.int .i64 px, .int .i64 py] := hrow.far ownK (show w.heap.size + 1 + 1 ≠ w.heap.size + 1 + 1 + 1 + 1 by omega)
           have nj : Blk w2 (w.heap.size + 1 + 1 + 1) 23 #[.int .i64 qx, .int .i64 qy] := hrow.far ownK (show w.heap.size + 1 + 1 + 1 ≠ w.heap.size + 1 + 1 + 1 + 1 by omega)
           have nr : Blk w2 (w.heap.size + 1 + 1 + 1 + 1) 30 #[.bool false, .slice none 0 0, .bool false, .slice none 0 0, .bool false, .slice none 0 0, .bool false, .slice none 0 0, .bool false, .slice none 0 0, .bool false, .slice none 0 0, .bool false, .slice none 0 0, .bool false, .slice none 0 0] := hrow.blk
           clear ca0 ca1 la cb0 cb1 lb li lj lr
           replace B := Bn
           clear Bn hrow
           replace oa := na
           clear na
           replace ob := nb
           clear nb
           replace oi := ni
           clear ni
           replace oj := nj
           clear nj
           replace or := nr
           clear nr
           skip)
        )
      skip
      refine bodyPost_ret (results_row2 rfl _ _ (w.heap.size + 1 + 1 + 1 + 1) rfl (cs := #[.bool false, .slice none 0 0, .bool false, .slice none 0 0, .bool false, .slice none 0 0, .bool false, .slice none 0 0, .bool false, .slice none 0 0, .bool false, .slice none 0 0, .bool false, .slice none 0 0, .bool false, .slice none 0 0]) ownK Tryz.underlying30 rfl (by kernel_rfl)) rfl ?_
      exact ⟨_, rfl, rfl, belowB⟩
    · rw [if_neg he]
      have hE : (ax == bx && ay == b_y) = false := by cases h : (ax == bx && ay == b_y) with | false => rfl | true => exact absurd (by simp only [Bool.and_eq_true, beq_iff_eq] at h; rw [h.1, h.2]) he
      rw [hE] at qe
      have hn : csq (bx - ax) (b_y - ay) ≠ 0 := csq_pt he
      have SM := fun (w' : World) (g : Nat) (t : TypeId) (hc : Blk w' g t #[.int .i64 0]) => msimilar w' hc hok.1 hok.2.1 hok.2.2.1 hok.2.2.2 hn
      clear hok he hE hn
      generalize simT (ax, ay) (bx, b_y) (px, py) (qx, qy) = T at *
      go_enter Tryz.func11, Tryz.ntmps11
      go_wp2_with fail
      refine (ck _ (w.heap.size + 1 + 1 + 1 + 1 + 1) 23 ownK).mono ?_
      rintro e w1 ⟨rfl, hb1⟩
      have st : Steps _ w1 := hb1
      have B : Below w.heap.size w w1 := belowA st
      have na : Blk w1 (w.heap.size) 23 #[.int .i64 ax, .int .i64 ay] := Blk.stepsK st
      have nb : Blk w1 (w.heap.size + 1) 23 #[.int .i64 bx, .int .i64 b_y] := Blk.stepsK st
      have ni : Blk w1 (w.heap.size + 1 + 1) 23 #[.int .i64 px, .int .i64 py] := Blk.stepsK st
      have nj : Blk w1 (w.heap.size + 1 + 1 + 1) 23 #[.int .i64 qx, .int .i64 qy] := Blk.stepsK st
      have nr : Blk w1 (w.heap.size + 1 + 1 + 1 + 1) 30 #[.bool false, .slice none 0 0, .bool false, .slice none 0 0, .bool false, .slice none 0 0, .bool false, .slice none 0 0, .bool false, .slice none 0 0, .bool false, .slice none 0 0, .bool false, .slice none 0 0, .bool false, .slice none 0 0] := Blk.stepsK st
      have oa := na
      clear na
      have ob := nb
      clear nb
      have oi := ni
      clear ni
      have oj := nj
      clear nj
      have or := nr
      clear nr
      clear st
      have ca0 := oa.q0
      have ca1 := oa.q1
      have la := oa.lt
      have cb0 := ob.q0
      have cb1 := ob.q1
      have lb := ob.lt
      have ci0 := oi.q0
      have ci1 := oi.q1
      have li := oi.lt
      have cj0 := oj.q0
      have cj1 := oj.q1
      have lj := oj.lt
      have lr := or.lt
      have zr_1 : w.heap.size + 1 + 1 + 1 + 1 < w1.heap.size := or.lt
      have zz1 := B.size
      go_wp2_with fail
      refine (SM _ (w1.heap.size) 89 ownK).mono ?_
      rintro e w2 ⟨vs, rfl, hvs, hb2⟩
      have st : Steps _ w2 := hb2
      have sk : Below w1.heap.size w1 w2 := belowA st
      replace B := below_steps B (Nat.le_refl _) sk
      have ov11 : Blk w2 (w1.heap.size) 89 #[.int .i64 0] := Blk.stepsK st
      replace oa := oa.steps sk
      replace ob := ob.steps sk
      replace oi := oi.steps sk
      replace oj := oj.steps sk
      replace or := or.steps sk
      clear st sk ca0 ca1 la cb0 cb1 lb ci0 ci1 li cj0 cj1 lj lr
      obtain ⟨ska1, ska2, ska3, ska4, ska5, ska6, ska7, ska8, skb1, skb2, skb3, skb4, skb5, skb6, skb7, skb8, skc1, skc2, skc3, skc4, skc5, skc6, skc7, skc8, skd1, skd2, skd3, skd4, skd5, skd6, skd7, skd8, rfl, h0s, h1s, h2s, h3s⟩ := hvs
      have Fs0 := Hid.mk_ h0s
      have Fs1 := Hid.mk_ h1s
      have Fs2 := Hid.mk_ h2s
      have Fs3 := Hid.mk_ h3s
      clear h0s h1s h2s h3s
      have zv11_2 : w1.heap.size < w2.heap.size := ov11.lt
      have zz2 := B.size
      go_wp2_with (first
        | ((with_reducible show wpList _ _ _ (⟨none, .store _ _ _, _, _, _, _⟩ :: _) _ _)
           refine store_big rfl 30 (.tmp 12) (.tmp 31) rfl (w2.heap.size) #[.bool ska1, .slice ska2 ska3 ska4, .bool ska5, .slice ska6 ska7 ska8, .bool skb1, .slice skb2 skb3 skb4, .bool skb5, .slice skb6 skb7 skb8, .bool skc1, .slice skc2 skc3 skc4, .bool skc5, .slice skc6 skc7 skc8, .bool skd1, .slice skd2 skd3 skd4, .bool skd5, .slice skd6 skd7 skd8] rfl rfl 30 #[.bool false, .slice none 0 0, .bool false, .slice none 0 0, .bool false, .slice none 0 0, .bool false, .slice none 0 0, .bool false, .slice none 0 0, .bool false, .slice none 0 0, .bool false, .slice none 0 0, .bool false, .slice none 0 0] ownK (by kernel_rfl) rfl (by simp [Value.oneCell']) (fun w3 hrow => ?_)
           have Bn : Below w.heap.size w w3 := hrow.below belowB (by omega)
           have kp : Keeps w2 w3 := Keeps.trans keepsB (hrow.keeps rfl)
           have na : Blk w3 (w.heap.size) 23 #[.int .i64 ax, .int .i64 ay] := hrow.far ownK (show w.heap.size ≠ w2.heap.size by omega)
           have nb : Blk w3 (w.heap.size + 1) 23 #[.int .i64 bx, .int .i64 b_y] := hrow.far ownK (show w.heap.size + 1 ≠ w2.heap.size by omega)
           have ni : Blk w3 (w.heap.size + 1 + 1) 23 #[.int .i64 px, .int .i64 py] := hrow.far ownK (show w.heap.size + 1 + 1 ≠ w2.heap.size by omega)
           have nj : Blk w3 (w.heap.size + 1 + 1 + 1) 23 #[.int .i64 qx, .int .i64 qy] := hrow.far ownK (show w.heap.size + 1 + 1 + 1 ≠ w2.heap.size by omega)
           have nr : Blk w3 (w.heap.size + 1 + 1 + 1 + 1) 30 #[.bool false, .slice none 0 0, .bool false, .slice none 0 0, .bool false, .slice none 0 0, .bool false, .slice none 0 0, .bool false, .slice none 0 0, .bool false, .slice none 0 0, .bool false, .slice none 0 0, .bool false, .slice none 0 0] := hrow.far ownK (show w.heap.size + 1 + 1 + 1 + 1 ≠ w2.heap.size by omega)
           have nv11 : Blk w3 (w1.heap.size) 89 #[.int .i64 0] := hrow.far ownK (show w1.heap.size ≠ w2.heap.size by omega)
           have nv12 : Blk w3 (w2.heap.size) 30 #[.bool ska1, .slice ska2 ska3 ska4, .bool ska5, .slice ska6 ska7 ska8, .bool skb1, .slice skb2 skb3 skb4, .bool skb5, .slice skb6 skb7 skb8, .bool skc1, .slice skc2 skc3 skc4, .bool skc5, .slice skc6 skc7 skc8, .bool skd1, .slice skd2 skd3 skd4, .bool skd5, .slice skd6 skd7 skd8] := hrow.blk
           replace B := Bn
           clear Bn hrow
           replace oa := na
           clear na
           replace ob := nb
           clear nb
           replace oi := ni
           clear ni
           replace oj := nj
           clear nj
           replace or := nr
           clear nr
           replace ov11 := nv11
           clear nv11
           have ov12 := nv12
           clear nv12
           replace Fs0 := Hid.mk_ (Fs0.out.keeps kp)
           replace Fs1 := Hid.mk_ (Fs1.out.keeps kp)
           replace Fs2 := Hid.mk_ (Fs2.out.keeps kp)
           replace Fs3 := Hid.mk_ (Fs3.out.keeps kp)
           clear kp
           have cv110 := ov11.q0
           have lv11 := ov11.lt
           skip)
        | ((with_reducible show wpList _ _ _ (⟨some 38, _, _, _, _, _⟩ :: _) _ _)
           refine load_big rfl 30 (.tmp 12) rfl (w2.heap.size) rfl 30 #[.bool ska1, .slice ska2 ska3 ska4, .bool ska5, .slice ska6 ska7 ska8, .bool skb1, .slice skb2 skb3 skb4, .bool skb5, .slice skb6 skb7 skb8, .bool skc1, .slice skc2 skc3 skc4, .bool skc5, .slice skc6 skc7 skc8, .bool skd1, .slice skd2 skd3 skd4, .bool skd5, .slice skd6 skd7 skd8] _ ownK Tryz.underlying30 rfl (by kernel_rfl) ?_
           skip)
        | ((with_reducible show wpList _ _ _ (⟨none, .store _ _ _, _, _, _, _⟩ :: _) _ _)
           refine store_big rfl 30 (.tmp 8) (.tmp 38) rfl (w.heap.size + 1 + 1 + 1 + 1) #[.bool ska1, .slice ska2 ska3 ska4, .bool ska5, .slice ska6 ska7 ska8, .bool skb1, .slice skb2 skb3 skb4, .bool skb5, .slice skb6 skb7 skb8, .bool skc1, .slice skc2 skc3 skc4, .bool skc5, .slice skc6 skc7 skc8, .bool skd1, .slice skd2 skd3 skd4, .bool skd5, .slice skd6 skd7 skd8] rfl rfl 30 #[.bool false, .slice none 0 0, .bool false, .slice none 0 0, .bool false, .slice none 0 0, .bool false, .slice none 0 0, .bool false, .slice none 0 0, .bool false, .slice none 0 0, .bool false, .slice none 0 0, .bool false, .slice none 0 0] ownK (by kernel_rfl) rfl (by simp [Value.oneCell']) (fun w4 hrow => ?_)
           have Bn : Below w.heap.size w w4 := hrow.below belowB (by omega)
           have kp : Keeps w3 w4 := Keeps.trans keepsB (hrow.keeps rfl)
           have na : Blk w4 (w.heap.size) 23 #[.int .i64 ax, .int .i64 ay] := hrow.far ownK (show w.heap.size ≠ w.heap.size + 1 + 1 + 1 + 1 by omega)
           have nb : Blk w4 (w.heap.size + 1) 23 #[.int .i64 bx, .int .i64 b_y] := hrow.far ownK (show w.heap.size + 1 ≠ w.heap.size + 1 + 1 + 1 + 1 by omega)
           have ni : Blk w4 (w.heap.size + 1 + 1) 23 #[.int .i64 px, .int .i64 py] := hrow.far ownK (show w.heap.size + 1 + 1 ≠ w.heap.size + 1 + 1 + 1 + 1 by omega)
           have nj : Blk w4 (w.heap.size + 1 + 1 + 1) 23 #[.int .i64 qx, .int .i64 qy] := hrow.far ownK (show w.heap.size + 1 + 1 + 1 ≠ w.heap.size + 1 + 1 + 1 + 1 by omega)
           have nr : Blk w4 (w.heap.size + 1 + 1 + 1 + 1) 30 #[.bool ska1, .slice ska2 ska3 ska4, .bool ska5, .slice ska6 ska7 ska8, .bool skb1, .slice skb2 skb3 skb4, .bool skb5, .slice skb6 skb7 skb8, .bool skc1, .slice skc2 skc3 skc4, .bool skc5, .slice skc6 skc7 skc8, .bool skd1, .slice skd2 skd3 skd4, .bool skd5, .slice skd6 skd7 skd8] := hrow.blk
           have nv11 : Blk w4 (w1.heap.size) 89 #[.int .i64 0] := hrow.far ownK (show w1.heap.size ≠ w.heap.size + 1 + 1 + 1 + 1 by omega)
           have nv12 : Blk w4 (w2.heap.size) 30 #[.bool ska1, .slice ska2 ska3 ska4, .bool ska5, .slice ska6 ska7 ska8, .bool skb1, .slice skb2 skb3 skb4, .bool skb5, .slice skb6 skb7 skb8, .bool skc1, .slice skc2 skc3 skc4, .bool skc5, .slice skc6 skc7 skc8, .bool skd1, .slice skd2 skd3 skd4, .bool skd5, .slice skd6 skd7 skd8] := hrow.far ownK (show w2.heap.size ≠ w.heap.size + 1 + 1 + 1 + 1 by omega)
           clear cv110 lv11
           replace B := Bn
           clear Bn hrow
           replace oa := na
           clear na
           replace ob := nb
           clear nb
           replace oi := ni
           clear ni
           replace oj := nj
           clear nj
           replace or := nr
           clear nr
           replace ov11 := nv11
           clear nv11
           replace ov12 := nv12
           clear nv12
           replace Fs0 := Hid.mk_ (Fs0.out.keeps kp)
           replace Fs1 := Hid.mk_ (Fs1.out.keeps kp)
           replace Fs2 := Hid.mk_ (Fs2.out.keeps kp)
           replace Fs3 := Hid.mk_ (Fs3.out.keeps kp)
           clear kp
           skip)
        )
      skip
      refine bodyPost_ret (results_row2 rfl _ _ (w.heap.size + 1 + 1 + 1 + 1) rfl (cs := #[.bool ska1, .slice ska2 ska3 ska4, .bool ska5, .slice ska6 ska7 ska8, .bool skb1, .slice skb2 skb3 skb4, .bool skb5, .slice skb6 skb7 skb8, .bool skc1, .slice skc2 skc3 skc4, .bool skc5, .slice skc6 skc7 skc8, .bool skd1, .slice skd2 skd3 skd4, .bool skd5, .slice skd6 skd7 skd8]) ownK Tryz.underlying30 rfl (by kernel_rfl)) rfl ?_
      exact ⟨_, rfl, ⟨_, _, _, _, _, _, _, _, _, _, _, _, _, _, _, _, _, _, _, _, _, _, _, _, _, _, _, _, _, _, _, _, rfl, Fs0.out.keeps keepsB, Fs1.out.keeps keepsB, Fs2.out.keeps keepsB, Fs3.out.keeps keepsB⟩, belowB⟩
  · rw [if_neg hok] at ck
    rw [if_neg hok]
    clear hok qe
    go_enter Tryz.func11, Tryz.ntmps11
    go_wp2_with fail
    refine (ck _ (w.heap.size + 1 + 1 + 1 + 1 + 1) 23 ownK).mono ?_
    rintro e w1 ⟨rfl, hb1⟩
    have st : Steps _ w1 := hb1
    have B : Below w.heap.size w w1 := belowA st
    have na : Blk w1 (w.heap.size) 23 #[.int .i64 ax, .int .i64 ay] := Blk.stepsK st
    have nb : Blk w1 (w.heap.size + 1) 23 #[.int .i64 bx, .int .i64 b_y] := Blk.stepsK st
    have ni : Blk w1 (w.heap.size + 1 + 1) 23 #[.int .i64 px, .int .i64 py] := Blk.stepsK st
    have nj : Blk w1 (w.heap.size + 1 + 1 + 1) 23 #[.int .i64 qx, .int .i64 qy] := Blk.stepsK st
    have nr : Blk w1 (w.heap.size + 1 + 1 + 1 + 1) 30 #[.bool false, .slice none 0 0, .bool false, .slice none 0 0, .bool false, .slice none 0 0, .bool false, .slice none 0 0, .bool false, .slice none 0 0, .bool false, .slice none 0 0, .bool false, .slice none 0 0, .bool false, .slice none 0 0] := Blk.stepsK st
    have oa := na
    clear na
    have ob := nb
    clear nb
    have oi := ni
    clear ni
    have oj := nj
    clear nj
    have or := nr
    clear nr
    clear st
    go_wp2_with (first
      | ((with_reducible show wpList _ _ _ (⟨some 21, _, _, _, _, _⟩ :: _) _ _)
         refine build_big rfl 30 #[] rfl #[.bool false, .slice none 0 0, .bool false, .slice none 0 0, .bool false, .slice none 0 0, .bool false, .slice none 0 0, .bool false, .slice none 0 0, .bool false, .slice none 0 0, .bool false, .slice none 0 0, .bool false, .slice none 0 0] (by kernel_rfl) ?_
         skip)
      | ((with_reducible show wpList _ _ _ (⟨none, .store _ _ _, _, _, _, _⟩ :: _) _ _)
         refine store_big rfl 30 (.tmp 8) (.tmp 21) rfl (w.heap.size + 1 + 1 + 1 + 1) #[.bool false, .slice none 0 0, .bool false, .slice none 0 0, .bool false, .slice none 0 0, .bool false, .slice none 0 0, .bool false, .slice none 0 0, .bool false, .slice none 0 0, .bool false, .slice none 0 0, .bool false, .slice none 0 0] rfl rfl 30 #[.bool false, .slice none 0 0, .bool false, .slice none 0 0, .bool false, .slice none 0 0, .bool false, .slice none 0 0, .bool false, .slice none 0 0, .bool false, .slice none 0 0, .bool false, .slice none 0 0, .bool false, .slice none 0 0] ownK (by kernel_rfl) rfl (by simp [Value.oneCell']) (fun w2 hrow => ?_)
         have Bn : Below w.heap.size w w2 := hrow.below belowB (by omega)
         have na : Blk w2 (w.heap.size) 23 #[.int .i64 ax, .int .i64 ay] := hrow.far ownK (show w.heap.size ≠ w.heap.size + 1 + 1 + 1 + 1 by omega)
         have nb : Blk w2 (w.heap.size + 1) 23 #[.int .i64 bx, .int .i64 b_y] := hrow.far ownK (show w.heap.size + 1 ≠ w.heap.size + 1 + 1 + 1 + 1 by omega)
         have ni : Blk w2 (w.heap.size + 1 + 1) 23 #[.int .i64 px, .int .i64 py] := hrow.far ownK (show w.heap.size + 1 + 1 ≠ w.heap.size + 1 + 1 + 1 + 1 by omega)
         have nj : Blk w2 (w.heap.size + 1 + 1 + 1) 23 #[.int .i64 qx, .int .i64 qy] := hrow.far ownK (show w.heap.size + 1 + 1 + 1 ≠ w.heap.size + 1 + 1 + 1 + 1 by omega)
         have nr : Blk w2 (w.heap.size + 1 + 1 + 1 + 1) 30 #[.bool false, .slice none 0 0, .bool false, .slice none 0 0, .bool false, .slice none 0 0, .bool false, .slice none 0 0, .bool false, .slice none 0 0, .bool false, .slice none 0 0, .bool false, .slice none 0 0, .bool false, .slice none 0 0] := hrow.blk
         replace B := Bn
         clear Bn hrow
         replace oa := na
         clear na
         replace ob := nb
         clear nb
         replace oi := ni
         clear ni
         replace oj := nj
         clear nj
         replace or := nr
         clear nr
         skip)
      )
    skip
    refine bodyPost_ret (results_row2 rfl _ _ (w.heap.size + 1 + 1 + 1 + 1) rfl (cs := #[.bool false, .slice none 0 0, .bool false, .slice none 0 0, .bool false, .slice none 0 0, .bool false, .slice none 0 0, .bool false, .slice none 0 0, .bool false, .slice none 0 0, .bool false, .slice none 0 0, .bool false, .slice none 0 0]) ownK Tryz.underlying30 rfl (by kernel_rfl)) rfl ?_
    exact ⟨_, rfl, rfl, belowB⟩
end Go.Proofs.YtffmbepfbienaaaGreat
namespace Go.Proofs.YtffmbepfbienaaaGreat
open Go.RowKit
def f4v {α : Type} (a b c d : α) (i : Nat) : α := match i with | 0 => a | 1 => b | 2 => c | _ => d
def FewL (O : Nat → Option Rat) (LA LB : Nat → Nat) (n : Nat) : Prop := ∀ i, i < n → ∀ q, O i = some q → absN q.num ≤ bp (LA i) ∧ (q.den : Int) ≤ bp (LB i)
def FO (w : World) (v : Value) : Option Rat → Prop
  | some r => FR w v r
  | none => v = .agg #[.bool false, .slice none 0 0, .bool false, .slice none 0 0]
theorem FO.keeps {w w' : World} {v : Value} {o : Option Rat} (h : FO w v o) (k : Keeps w w') : FO w' v o := by
  cases o with
  | none => exact h
  | some r => exact FR.keeps h k
theorem limF_get {most : Nat} {o : Option Rat} {p q : Nat} (h : limF most o p q = true) : p ≤ most ∧ q ≤ most ∧ ∃ r, o = some r := by
  unfold limF at h
  simp only [Bool.and_eq_true, decide_eq_true_eq] at h
  exact ⟨h.1.1, h.1.2, Option.isSome_iff_exists.1 h.2⟩
theorem limL_get {most : Nat} {O : Nat → Option Rat} {LA LB : Nat → Nat} : ∀ {n : Nat}, limL most O LA LB n = true → ∀ i, i < n → limF most (O i) (LA i) (LB i) = true
  | n + 1, h, i, hi => by
    unfold limL at h
    simp only [Bool.and_eq_true] at h
    rcases Nat.lt_or_ge i n with g | g
    · exact limL_get h.1 i g
    · obtain rfl : i = n := by omega
      exact h.2
theorem bp_mono' {i j : Nat} (h : i ≤ j) : bp i ≤ bp j := by
  unfold bp
  exact Int.ofNat_le.2 (Nat.pow_le_pow_right (by decide) h)
theorem limL_sz {most : Nat} {O : Nat → Option Rat} {LA LB : Nat → Nat} {n : Nat} (h : limL most O LA LB n = true) (f : FewL O LA LB n) (i : Nat) (hi : i < n) : ∃ r, O i = some r ∧ sz r most := by
  obtain ⟨h1, h2, r, e⟩ := limF_get (limL_get h i hi)
  obtain ⟨f1, f2⟩ := f i hi r e
  have p1 := bp_mono' h1
  have p2 := bp_mono' h2
  exact ⟨r, e, by omega, by omega⟩
theorem fls4 {ka1 ka5 kb1 kb5 kc1 kc5 kd1 kd5 : Bool} {ka2 ka6 kb2 kb6 kc2 kc6 kd2 kd6 : Option Addr} {ka3 ka4 ka7 ka8 kb3 kb4 kb7 kb8 kc3 kc4 kc7 kc8 kd3 kd4 kd7 kd8 : Nat} {w : World} {g : Nat} {t : TypeId} {O : Nat → Option Rat} (h : Blk w g t #[.bool ka1, .slice ka2 ka3 ka4, .bool ka5, .slice ka6 ka7 ka8, .bool kb1, .slice kb2 kb3 kb4, .bool kb5, .slice kb6 kb7 kb8, .bool kc1, .slice kc2 kc3 kc4, .bool kc5, .slice kc6 kc7 kc8, .bool kd1, .slice kd2 kd3 kd4, .bool kd5, .slice kd6 kd7 kd8]) (b0 : FB w (.agg #[.bool ka1, .slice ka2 ka3 ka4, .bool ka5, .slice ka6 ka7 ka8]) (O 0)) (b1 : FB w (.agg #[.bool kb1, .slice kb2 kb3 kb4, .bool kb5, .slice kb6 kb7 kb8]) (O 1)) (b2 : FB w (.agg #[.bool kc1, .slice kc2 kc3 kc4, .bool kc5, .slice kc6 kc7 kc8]) (O 2)) (b3 : FB w (.agg #[.bool kd1, .slice kd2 kd3 kd4, .bool kd5, .slice kd6 kd7 kd8]) (O 3)) : FLs w (.slice (some ⟨g, 0, none⟩) 4 4) 4 O (f4v ka3 kb3 kc3 kd3) (f4v ka7 kb7 kc7 kd7) := by
  refine ⟨g, 0, 4, rfl, Nat.le_refl _, h.lt, fun i hi => ?_⟩
  have : i = 0 ∨ i = 1 ∨ i = 2 ∨ i = 3 := by omega
  rcases this with rfl | rfl | rfl | rfl
  · exact ⟨_, _, _, _, _, _, h.c 0 rfl, h.c 1 rfl, h.c 2 rfl, h.c 3 rfl, b0⟩
  · exact ⟨_, _, _, _, _, _, h.c 4 rfl, h.c 5 rfl, h.c 6 rfl, h.c 7 rfl, b1⟩
  · exact ⟨_, _, _, _, _, _, h.c 8 rfl, h.c 9 rfl, h.c 10 rfl, h.c 11 rfl, b2⟩
  · exact ⟨_, _, _, _, _, _, h.c 12 rfl, h.c 13 rfl, h.c 14 rfl, h.c 15 rfl, b3⟩
def apOk (O : Nat → Option Rat) (LA LB : Nat → Nat) (p : Int × Int) : Bool := limL 16 O LA LB 4 && decide (okP p)
def apErr (b : Bool) : Int := if b then 0 else 8
def apRes (b : Bool) (r : Rat) : Option Rat := if b then some r else none
set_option maxHeartbeats 6400000 in
set_option maxRecDepth 1000000 in
theorem mApply {ka1 ka5 kb1 kb5 kc1 kc5 kd1 kd5 : Bool} {ka2 ka6 kb2 kb6 kc2 kc6 kd2 kd6 : Option Addr} {ka3 ka4 ka7 ka8 kb3 kb4 kb7 kb8 kc3 kc4 kc7 kc8 kd3 kd4 kd7 kd8 : Nat} {O : Nat → Option Rat} (px py : Int) (w : World) (b0 : FB w (.agg #[.bool ka1, .slice ka2 ka3 ka4, .bool ka5, .slice ka6 ka7 ka8]) (O 0)) (b1 : FB w (.agg #[.bool kb1, .slice kb2 kb3 kb4, .bool kb5, .slice kb6 kb7 kb8]) (O 1)) (b2 : FB w (.agg #[.bool kc1, .slice kc2 kc3 kc4, .bool kc5, .slice kc6 kc7 kc8]) (O 2)) (b3 : FB w (.agg #[.bool kd1, .slice kd2 kd3 kd4, .bool kd5, .slice kd6 kd7 kd8]) (O 3)) (fw : FewL O (f4v ka3 kb3 kc3 kd3) (f4v ka7 kb7 kc7 kd7) 4) (rx : (-9223372036854775808 ≤ px ∧ px ≤ 9223372036854775807)) (ry : (-9223372036854775808 ≤ py ∧ py ≤ 9223372036854775807)) :
    Calls Tryz.prog 13 #[.agg #[.bool ka1, .slice ka2 ka3 ka4, .bool ka5, .slice ka6 ka7 ka8, .bool kb1, .slice kb2 kb3 kb4, .bool kb5, .slice kb6 kb7 kb8, .bool kc1, .slice kc2 kc3 kc4, .bool kc5, .slice kc6 kc7 kc8, .bool kd1, .slice kd2 kd3 kd4, .bool kd5, .slice kd6 kd7 kd8], .agg #[.int .i64 px, .int .i64 py]] w fun e w' => ∃ u v, e = .returned (.tuple #[u, v, .int .i64 (apErr (apOk O (f4v ka3 kb3 kc3 kd3) (f4v ka7 kb7 kc7 kd7) (px, py)))]) ∧ FO w' u (apRes (apOk O (f4v ka3 kb3 kc3 kd3) (f4v ka7 kb7 kc7 kd7) (px, py)) (apX (fun i => (O i).getD 0) (px, py))) ∧ FO w' v (apRes (apOk O (f4v ka3 kb3 kc3 kd3) (f4v ka7 kb7 kc7 kd7) (px, py)) (apY (fun i => (O i).getD 0) (px, py))) ∧ Steps w w' := by
  have LM : ∀ w' g t, Keeps w w' → Blk w' g t #[.bool ka1, .slice ka2 ka3 ka4, .bool ka5, .slice ka6 ka7 ka8, .bool kb1, .slice kb2 kb3 kb4, .bool kb5, .slice kb6 kb7 kb8, .bool kc1, .slice kc2 kc3 kc4, .bool kc5, .slice kc6 kc7 kc8, .bool kd1, .slice kd2 kd3 kd4, .bool kd5, .slice kd6 kd7 kd8] → Calls Tryz.prog 41 #[.int .i64 16, .slice (some ⟨g, 0, none⟩) 4 4] w' fun e w2 => e = .returned (.bool (limL 16 O (f4v ka3 kb3 kc3 kd3) (f4v ka7 kb7 kc7 kd7) 4)) ∧ Steps w' w2 := fun w' g t k hb => mlimited 16 w' (fls4 hb (b0.keeps k) (b1.keeps k) (b2.keeps k) (b3.keeps k)) (by omega)
  have PC : ∀ w' g t, Blk w' g t #[.int .i64 px, .int .i64 py] → Calls Tryz.prog 37 #[.slice (some ⟨g, 0, none⟩) 1 1] w' fun e w2 => e = .returned (.int .i64 (if okP (px, py) then 0 else 8)) ∧ Steps w' w2 := fun w' g t hb => by
    have := qcheckP w' (pts_one hb rx ry) (by simp)
    rw [chk_one] at this
    exact this
  have AP : limL 16 O (f4v ka3 kb3 kc3 kd3) (f4v ka7 kb7 kc7 kd7) 4 = true → okP (px, py) → ∀ w' g t, Steps w w' → Blk w' g t #[.int .i64 0] → Calls Tryz.prog 42 #[.pointer (some ⟨g, 0, none⟩), .agg #[.bool ka1, .slice ka2 ka3 ka4, .bool ka5, .slice ka6 ka7 ka8, .bool kb1, .slice kb2 kb3 kb4, .bool kb5, .slice kb6 kb7 kb8, .bool kc1, .slice kc2 kc3 kc4, .bool kc5, .slice kc6 kc7 kc8, .bool kd1, .slice kd2 kd3 kd4, .bool kd5, .slice kd6 kd7 kd8], .agg #[.int .i64 px, .int .i64 py]] w' fun e w2 => ∃ u v, e = .returned (.tuple #[u, v]) ∧ FR w2 u (apX (fun i => (O i).getD 0) (px, py)) ∧ FR w2 v (apY (fun i => (O i).getD 0) (px, py)) ∧ Steps w' w2 := fun hL hp w' g t s hb => by
    obtain ⟨r0, e0, z0⟩ := limL_sz hL fw 0 (by omega)
    obtain ⟨r1, e1, z1⟩ := limL_sz hL fw 1 (by omega)
    obtain ⟨r2, e2, z2⟩ := limL_sz hL fw 2 (by omega)
    obtain ⟨r3, e3, z3⟩ := limL_sz hL fw 3 (by omega)
    have k := Keeps.steps s
    rw [e0] at b0
    rw [e1] at b1
    rw [e2] at b2
    rw [e3] at b3
    have g0 : (O 0).getD 0 = r0 := by rw [e0]; rfl
    have g1 : (O 1).getD 0 = r1 := by rw [e1]; rfl
    have g2 : (O 2).getD 0 = r2 := by rw [e2]; rfl
    have g3 : (O 3).getD 0 = r3 := by rw [e3]; rfl
    exact mapply px py w' hb (g0.symm ▸ FR.keeps b0 k) (g1.symm ▸ FR.keeps b1 k) (g2.symm ▸ FR.keeps b2 k) (g3.symm ▸ FR.keeps b3 k) (g0.symm ▸ z0.mono (by omega)) (g1.symm ▸ z1.mono (by omega)) (g2.symm ▸ z2.mono (by omega)) (g3.symm ▸ z3.mono (by omega)) ⟨hp.1, hp.2.1⟩ ⟨hp.2.2.1, hp.2.2.2⟩
  generalize apX (fun i => (O i).getD 0) (px, py) = X at *
  generalize apY (fun i => (O i).getD 0) (px, py) = Y at *
  unfold apOk
  generalize limL 16 O (f4v ka3 kb3 kc3 kd3) (f4v ka7 kb7 kc7 kd7) 4 = L at *
  clear b0 b1 b2 b3 fw rx ry
  cases L with
  | false =>
    rw [Bool.false_and]
    clear AP PC
    go_enter Tryz.func13, Tryz.ntmps13
    go_wp2_with fail
    refine (LM _ (w.heap.size + 1 + 1 + 1 + 1) 28 keepsB ownK).mono ?_
    rintro e w1 ⟨rfl, hb1⟩
    have st : Steps _ w1 := hb1
    have B : Below w.heap.size w w1 := belowA st
    have nt : Blk w1 (w.heap.size) 30 #[.bool ka1, .slice ka2 ka3 ka4, .bool ka5, .slice ka6 ka7 ka8, .bool kb1, .slice kb2 kb3 kb4, .bool kb5, .slice kb6 kb7 kb8, .bool kc1, .slice kc2 kc3 kc4, .bool kc5, .slice kc6 kc7 kc8, .bool kd1, .slice kd2 kd3 kd4, .bool kd5, .slice kd6 kd7 kd8] := Blk.stepsK st
    have ni : Blk w1 (w.heap.size + 1) 23 #[.int .i64 px, .int .i64 py] := Blk.stepsK st
    have nr : Blk w1 (w.heap.size + 1 + 1) 28 #[.bool false, .slice none 0 0, .bool false, .slice none 0 0] := Blk.stepsK st
    have nq : Blk w1 (w.heap.size + 1 + 1 + 1) 28 #[.bool false, .slice none 0 0, .bool false, .slice none 0 0] := Blk.stepsK st
    have ot := nt
    clear nt
    have oi := ni
    clear ni
    have or := nr
    clear nr
    have oq := nq
    clear nq
    clear st
    have lt := ot.lt
    have li := oi.lt
    have cr0 := or.q0
    have cr1 := or.q1
    have cr2 := or.q2
    have cr3 := or.q3
    have fr := or.fr
    have lr := or.lt
    have cq0 := oq.q0
    have cq1 := oq.q1
    have cq2 := oq.q2
    have cq3 := oq.q3
    have fq := oq.fr
    have lq := oq.lt
    go_wp2_with fail
    refine bodyPost_ret (by simp [results, Tryz.results13, go_sem, lt, li, cr0, cr1, cr2, cr3, fr, lr, cq0, cq1, cq2, cq3, fq, lq]; rfl) rfl ?_
    exact ⟨_, _, rfl, rfl, rfl, belowB⟩
  | true =>
    rw [Bool.true_and]
    by_cases hp : okP (px, py)
    · rw [if_pos hp] at PC
      rw [decide_eq_true hp]
      have AQ := AP rfl hp
      clear AP hp
      go_enter Tryz.func13, Tryz.ntmps13
      go_wp2_with fail
      refine (LM _ (w.heap.size + 1 + 1 + 1 + 1) 28 keepsB ownK).mono ?_
      rintro e w1 ⟨rfl, hb1⟩
      have st : Steps _ w1 := hb1
      have B : Below w.heap.size w w1 := belowA st
      have nt : Blk w1 (w.heap.size) 30 #[.bool ka1, .slice ka2 ka3 ka4, .bool ka5, .slice ka6 ka7 ka8, .bool kb1, .slice kb2 kb3 kb4, .bool kb5, .slice kb6 kb7 kb8, .bool kc1, .slice kc2 kc3 kc4, .bool kc5, .slice kc6 kc7 kc8, .bool kd1, .slice kd2 kd3 kd4, .bool kd5, .slice kd6 kd7 kd8] := Blk.stepsK st
      have ni : Blk w1 (w.heap.size + 1) 23 #[.int .i64 px, .int .i64 py] := Blk.stepsK st
      have nr : Blk w1 (w.heap.size + 1 + 1) 28 #[.bool false, .slice none 0 0, .bool false, .slice none 0 0] := Blk.stepsK st
      have nq : Blk w1 (w.heap.size + 1 + 1 + 1) 28 #[.bool false, .slice none 0 0, .bool false, .slice none 0 0] := Blk.stepsK st
      have ot := nt
      clear nt
      have oi := ni
      clear ni
      have or := nr
      clear nr
      have oq := nq
      clear nq
      clear st
      have lt := ot.lt
      have ci0 := oi.q0
      have ci1 := oi.q1
      have li := oi.lt
      have lr := or.lt
      have lq := oq.lt
      have zq_1 : w.heap.size + 1 + 1 + 1 < w1.heap.size := oq.lt
      have zz1 := B.size
      go_wp2_with fail
      refine (PC _ (w1.heap.size) 23 ownK).mono ?_
      rintro e w2 ⟨rfl, hb2⟩
      have st : Steps _ w2 := hb2
      have sk : Below w1.heap.size w1 w2 := belowA st
      replace B := below_steps B (Nat.le_refl _) sk
      replace ot := ot.steps sk
      replace oi := oi.steps sk
      replace or := or.steps sk
      replace oq := oq.steps sk
      clear st sk lt ci0 ci1 li lr lq
      have lt := ot.lt
      have ci0 := oi.q0
      have ci1 := oi.q1
      have li := oi.lt
      have lr := or.lt
      have lq := oq.lt
      have zq_2 : w.heap.size + 1 + 1 + 1 < w2.heap.size := oq.lt
      have zz2 := B.size
      go_wp2_with (first
        | ((with_reducible show wpList _ _ _ (⟨some 28, _, _, _, _, _⟩ :: _) _ _)
           refine load_big rfl 30 (.tmp 2) rfl (w.heap.size) rfl 30 #[.bool ka1, .slice ka2 ka3 ka4, .bool ka5, .slice ka6 ka7 ka8, .bool kb1, .slice kb2 kb3 kb4, .bool kb5, .slice kb6 kb7 kb8, .bool kc1, .slice kc2 kc3 kc4, .bool kc5, .slice kc6 kc7 kc8, .bool kd1, .slice kd2 kd3 kd4, .bool kd5, .slice kd6 kd7 kd8] _ ownK Tryz.underlying30 rfl (by kernel_rfl) ?_
           skip)
        )
      refine (AQ _ (w2.heap.size) 89 belowB ownK).mono ?_
      rintro e w3 ⟨vx, vy, rfl, hvx, hvy, hb3⟩
      have st : Steps _ w3 := hb3
      have sk : Below w2.heap.size w2 w3 := belowA st
      replace B := below_steps B (Nat.le_refl _) sk
      have ov7 : Blk w3 (w2.heap.size) 89 #[.int .i64 0] := Blk.stepsK st
      replace ot := ot.steps sk
      replace oi := oi.steps sk
      replace or := or.steps sk
      replace oq := oq.steps sk
      clear st sk lt ci0 ci1 li lr lq
      have lt := ot.lt
      have li := oi.lt
      have cr0 := or.q0
      have cr1 := or.q1
      have cr2 := or.q2
      have cr3 := or.q3
      have fr := or.fr
      have lr := or.lt
      have cq0 := oq.q0
      have cq1 := oq.q1
      have cq2 := oq.q2
      have cq3 := oq.q3
      have fq := oq.fr
      have lq := oq.lt
      have cv70 := ov7.q0
      have lv7 := ov7.lt
      obtain ⟨x1, x2, x3, x4, x5, x6, x7, x8, rfl⟩ := hvx.shape
      obtain ⟨y1, y2, y3, y4, y5, y6, y7, y8, rfl⟩ := hvy.shape
      have Fx := Hid.mk_ hvx
      clear hvx
      have Fy := Hid.mk_ hvy
      clear hvy
      go_wp2_with fail
      have zv7_3 : w2.heap.size < w3.heap.size := ov7.lt
      have zz3 := B.size
      go_upto_region 7 with fail
      refine Reg.wp_chain_n (fun N0 D v W => Below w.heap.size w W ∧ Keeps w3 W ∧ N0 ≤ W.heap.size ∧ Blk W (w.heap.size) 30 #[.bool ka1, .slice ka2 ka3 ka4, .bool ka5, .slice ka6 ka7 ka8, .bool kb1, .slice kb2 kb3 kb4, .bool kb5, .slice kb6 kb7 kb8, .bool kc1, .slice kc2 kc3 kc4, .bool kc5, .slice kc6 kc7 kc8, .bool kd1, .slice kd2 kd3 kd4, .bool kd5, .slice kd6 kd7 kd8] ∧ Blk W (w.heap.size + 1) 23 #[.int .i64 px, .int .i64 py] ∧ ((D 2 = false → Blk W (w.heap.size + 1 + 1) 28 #[.bool x1, .slice x2 x3 x4, .bool x5, .slice x6 x7 x8]) ∧ (D 2 = true → Blk W (w.heap.size + 1 + 1) 28 #[.bool x1, .slice x2 x3 x4, .bool x5, .slice x6 x7 x8])) ∧ ((D 3 = false → Blk W (w.heap.size + 1 + 1 + 1) 28 #[.bool y1, .slice y2 y3 y4, .bool y5, .slice y6 y7 y8]) ∧ (D 3 = true → Blk W (w.heap.size + 1 + 1 + 1) 28 #[.bool y1, .slice y2 y3 y4, .bool y5, .slice y6 y7 y8])) ∧ Blk W (w2.heap.size) 89 #[.int .i64 0])
        (Reg.inl [2, 3]) (Reg.gv []) (gw []) (fun _ => Keeps) (fun _ _ => False) (Reg.pl [(5, [])]) (Reg.pl [(0, [2]), (1, [3])])
        (by kernel_rfl) (by kernel_rfl) (by kernel_rfl) (Reg.gv_some _ (by intro p hp; cases hp)) (fun N0 hN0 => ⟨fun v => ?_, fun D v v' W hv hj => ?_, fun D v k j W W' x _ _ _ _ hk hg => gw_keeps _ (by intro p hp; cases hp) hk hg, fun _ _ _ _ h => h.elim, fun ops' Q' hops hQ => ?_⟩)
      · exact ⟨belowB, keepsB, by first | with_reducible exact Nat.le_of_eq hN0.out | (simp only [World.size_drew]; with_reducible exact Nat.le_of_eq hN0.out), ownK, ownK, ⟨fun _ => ownK, (fun h => Bool.noConfusion h)⟩, ⟨fun _ => ownK, (fun h => Bool.noConfusion h)⟩, ownK⟩
      · obtain ⟨j0, jk, jn, b_t, b_i, b_r, b_q, b_v7⟩ := hj
        exact ⟨j0, jk, jn, b_t, b_i, b_r, b_q, b_v7⟩
      have i_t : w.heap.size < N0 := by have e := hN0.out; (try simp only [World.size_alloc, World.size_setCell, World.size_drew, World.heap_drewN] at e); first | omega | (have h := ot.lt; omega)
      have i_i : w.heap.size + 1 < N0 := by have e := hN0.out; (try simp only [World.size_alloc, World.size_setCell, World.size_drew, World.heap_drewN] at e); first | omega | (have h := oi.lt; omega)
      have i_r : w.heap.size + 1 + 1 < N0 := by have e := hN0.out; (try simp only [World.size_alloc, World.size_setCell, World.size_drew, World.heap_drewN] at e); first | omega | (have h := or.lt; omega)
      have i_q : w.heap.size + 1 + 1 + 1 < N0 := by have e := hN0.out; (try simp only [World.size_alloc, World.size_setCell, World.size_drew, World.heap_drewN] at e); first | omega | (have h := oq.lt; omega)
      have i_v7 : w2.heap.size < N0 := by have e := hN0.out; (try simp only [World.size_alloc, World.size_setCell, World.size_drew, World.heap_drewN] at e); first | omega | (have h := ov7.lt; omega)
      have iw : w.heap.size ≤ N0 := by have e := hN0.out; (try simp only [World.size_alloc, World.size_setCell, World.size_drew, World.heap_drewN] at e); first | omega | (have h := B.size; omega)
      clear lt li cr0 cr1 cr2 cr3 fr lr cq0 cq1 cq2 cq3 fq lq cv70 lv7
      clear hN0
      apply Reg.RC_pure (hc := rfl) (hst := rfl) (hw := rfl) (t := 40) (hd := rfl) (ht := Nat.le_of_ble_eq_true rfl)
      · intro D v' W' hc hj hf K hK
        obtain ⟨j0, jk, jn, b_t, b_i, b_r, b_q, b_v7⟩ := hj
        have b_r := b_r.1 (hc.2 2 (by decide))
        have c0 : W'.cell? ⟨w.heap.size + 1 + 1, 0, none⟩ = some (.bool x1) := b_r.c 0 rfl
        have c1 : W'.cell? ⟨w.heap.size + 1 + 1, 1, none⟩ = some (.slice x2 x3 x4) := b_r.c 1 rfl
        have c2 : W'.cell? ⟨w.heap.size + 1 + 1, 2, none⟩ = some (.bool x5) := b_r.c 2 rfl
        have c3 : W'.cell? ⟨w.heap.size + 1 + 1, 3, none⟩ = some (.slice x6 x7 x8) := b_r.c 3 rfl
        go_step
        exact hK.out
      · rfl
      apply Reg.RC_pure (hc := rfl) (hst := rfl) (hw := rfl) (t := 41) (hd := rfl) (ht := Nat.le_of_ble_eq_true rfl)
      · intro D v' W' hc hj hf K hK
        obtain ⟨j0, jk, jn, b_t, b_i, b_r, b_q, b_v7⟩ := hj
        have b_q := b_q.1 (hc.2 3 (by decide))
        have c0 : W'.cell? ⟨w.heap.size + 1 + 1 + 1, 0, none⟩ = some (.bool y1) := b_q.c 0 rfl
        have c1 : W'.cell? ⟨w.heap.size + 1 + 1 + 1, 1, none⟩ = some (.slice y2 y3 y4) := b_q.c 1 rfl
        have c2 : W'.cell? ⟨w.heap.size + 1 + 1 + 1, 2, none⟩ = some (.bool y5) := b_q.c 2 rfl
        have c3 : W'.cell? ⟨w.heap.size + 1 + 1 + 1, 3, none⟩ = some (.slice y6 y7 y8) := b_q.c 3 rfl
        go_step
        exact hK.out
      · rfl
      refine Reg.RC_call rfl (by intro t ht; cases ht) rfl (fun D v' W' hc hj hf K hK => ?_) (fun _ _ => Reg.RC_at (b := ⟨_, _⟩) rfl ?_)
      · obtain ⟨j0, jk, jn, b_t, b_i, b_r, b_q, b_v7⟩ := hj
        have hb := b_r.1 hc.1
        have e2 : w.heap.size ≤ w.heap.size + 1 + 1 := by omega
        have ff := hb.fr
        have cc0 : W'.cell? ⟨w.heap.size + 1 + 1, 0, none⟩ = some (.bool x1) := hb.c 0 rfl
        have cc1 : W'.cell? ⟨w.heap.size + 1 + 1, 1, none⟩ = some (.slice x2 x3 x4) := hb.c 1 rfl
        have cc2 : W'.cell? ⟨w.heap.size + 1 + 1, 2, none⟩ = some (.bool x5) := hb.c 2 rfl
        have cc3 : W'.cell? ⟨w.heap.size + 1 + 1, 3, none⟩ = some (.slice x6 x7 x8) := hb.c 3 rfl
        go_step
        exact hK.out undef _ (keeps4 hb rfl) ⟨(below4 j0 (by show w.heap.size ≤ w.heap.size + 1 + 1; omega)), jk.trans (keeps4 hb rfl), by simpa using jn, (b_t).far4 (show w.heap.size ≠ w.heap.size + 1 + 1 by omega), (b_i).far4 (show w.heap.size + 1 ≠ w.heap.size + 1 + 1 by omega), ⟨fun h => Bool.noConfusion h, fun _ => (Blk.set2 (cs' := #[.bool x1, .slice x2 x3 x4, .bool x5, .slice x6 x7 x8]) (Blk.set2 (cs' := #[.bool x1, .slice x2 x3 x4, .bool x5, .slice x6 x7 x8]) (Blk.set2 (cs' := #[.bool x1, .slice x2 x3 x4, .bool x5, .slice x6 x7 x8]) (Blk.set2 (cs' := #[.bool x1, .slice x2 x3 x4, .bool x5, .slice x6 x7 x8]) hb (i := 0) rfl) (i := 1) rfl) (i := 2) rfl) (i := 3) rfl)⟩, ⟨fun h => (b_q.1 h).far4 (show w.heap.size + 1 + 1 + 1 ≠ w.heap.size + 1 + 1 by omega), fun h => (b_q.2 h).far4 (show w.heap.size + 1 + 1 + 1 ≠ w.heap.size + 1 + 1 by omega)⟩, (b_v7).far4 (show w2.heap.size ≠ w.heap.size + 1 + 1 by omega)⟩ trivial trivial
      refine Reg.RC_call rfl (by intro t ht; cases ht) rfl (fun D v' W' hc hj hf K hK => ?_) (fun _ _ => Reg.RC_at (b := ⟨_, _⟩) rfl ?_)
      · obtain ⟨j0, jk, jn, b_t, b_i, b_r, b_q, b_v7⟩ := hj
        have hb := b_q.1 hc.1
        have e2 : w.heap.size ≤ w.heap.size + 1 + 1 + 1 := by omega
        have ff := hb.fr
        have cc0 : W'.cell? ⟨w.heap.size + 1 + 1 + 1, 0, none⟩ = some (.bool y1) := hb.c 0 rfl
        have cc1 : W'.cell? ⟨w.heap.size + 1 + 1 + 1, 1, none⟩ = some (.slice y2 y3 y4) := hb.c 1 rfl
        have cc2 : W'.cell? ⟨w.heap.size + 1 + 1 + 1, 2, none⟩ = some (.bool y5) := hb.c 2 rfl
        have cc3 : W'.cell? ⟨w.heap.size + 1 + 1 + 1, 3, none⟩ = some (.slice y6 y7 y8) := hb.c 3 rfl
        go_step
        exact hK.out undef _ (keeps4 hb rfl) ⟨(below4 j0 (by show w.heap.size ≤ w.heap.size + 1 + 1 + 1; omega)), jk.trans (keeps4 hb rfl), by simpa using jn, (b_t).far4 (show w.heap.size ≠ w.heap.size + 1 + 1 + 1 by omega), (b_i).far4 (show w.heap.size + 1 ≠ w.heap.size + 1 + 1 + 1 by omega), ⟨fun h => (b_r.1 h).far4 (show w.heap.size + 1 + 1 ≠ w.heap.size + 1 + 1 + 1 by omega), fun h => (b_r.2 h).far4 (show w.heap.size + 1 + 1 ≠ w.heap.size + 1 + 1 + 1 by omega)⟩, ⟨fun h => Bool.noConfusion h, fun _ => (Blk.set2 (cs' := #[.bool y1, .slice y2 y3 y4, .bool y5, .slice y6 y7 y8]) (Blk.set2 (cs' := #[.bool y1, .slice y2 y3 y4, .bool y5, .slice y6 y7 y8]) (Blk.set2 (cs' := #[.bool y1, .slice y2 y3 y4, .bool y5, .slice y6 y7 y8]) (Blk.set2 (cs' := #[.bool y1, .slice y2 y3 y4, .bool y5, .slice y6 y7 y8]) hb (i := 0) rfl) (i := 1) rfl) (i := 2) rfl) (i := 3) rfl)⟩, (b_v7).far4 (show w2.heap.size ≠ w.heap.size + 1 + 1 + 1 by omega)⟩ trivial trivial
      apply Reg.RC_pure (hc := rfl) (hst := rfl) (hw := rfl) (t := 6) (hd := rfl) (ht := Nat.le_of_ble_eq_true rfl)
      · intro D v' W' hc hj hf K hK
        go_step
        exact hK.out
      · rfl
      refine Reg.RC_end (fun Dn v' w4 hd hj hf => ?_)
      obtain ⟨j0, jk, jn, b_t, b_i, b_r, b_q, b_v7⟩ := hj
      have B := j0
      have ot := b_t
      clear b_t
      have oi := b_i
      clear b_i
      have or := b_r.2 (hd 2 (Nat.le_of_ble_eq_true rfl))
      clear b_r
      have oq := b_q.2 (hd 3 (Nat.le_of_ble_eq_true rfl))
      clear b_q
      have ov7 := b_v7
      clear b_v7
      replace Fx := Hid.mk_ (Fx.out.keeps jk)
      replace Fy := Hid.mk_ (Fy.out.keeps jk)
      clear hd hf jk j0
      refine hQ _ _ ?_
      clear hQ hops Q' ops'
      have lt := ot.lt
      have li := oi.lt
      have cr0 := or.q0
      have cr1 := or.q1
      have cr2 := or.q2
      have cr3 := or.q3
      have lr := or.lt
      have cq0 := oq.q0
      have cq1 := oq.q1
      have cq2 := oq.q2
      have cq3 := oq.q3
      have lq := oq.lt
      go_wp2_with fail
      refine bodyPost_ret (by simp [results, Tryz.results13, go_sem, lt, li, cr0, cr1, cr2, cr3, lr, cq0, cq1, cq2, cq3, lq]; rfl) rfl ?_
      exact ⟨_, _, rfl, Fx.out.keeps keepsB, Fy.out.keeps keepsB, belowB⟩
    · rw [if_neg hp] at PC
      rw [decide_eq_false hp]
      clear AP hp
      go_enter Tryz.func13, Tryz.ntmps13
      go_wp2_with fail
      refine (LM _ (w.heap.size + 1 + 1 + 1 + 1) 28 keepsB ownK).mono ?_
      rintro e w1 ⟨rfl, hb1⟩
      have st : Steps _ w1 := hb1
      have B : Below w.heap.size w w1 := belowA st
      have nt : Blk w1 (w.heap.size) 30 #[.bool ka1, .slice ka2 ka3 ka4, .bool ka5, .slice ka6 ka7 ka8, .bool kb1, .slice kb2 kb3 kb4, .bool kb5, .slice kb6 kb7 kb8, .bool kc1, .slice kc2 kc3 kc4, .bool kc5, .slice kc6 kc7 kc8, .bool kd1, .slice kd2 kd3 kd4, .bool kd5, .slice kd6 kd7 kd8] := Blk.stepsK st
      have ni : Blk w1 (w.heap.size + 1) 23 #[.int .i64 px, .int .i64 py] := Blk.stepsK st
      have nr : Blk w1 (w.heap.size + 1 + 1) 28 #[.bool false, .slice none 0 0, .bool false, .slice none 0 0] := Blk.stepsK st
      have nq : Blk w1 (w.heap.size + 1 + 1 + 1) 28 #[.bool false, .slice none 0 0, .bool false, .slice none 0 0] := Blk.stepsK st
      have ot := nt
      clear nt
      have oi := ni
      clear ni
      have or := nr
      clear nr
      have oq := nq
      clear nq
      clear st
      have lt := ot.lt
      have ci0 := oi.q0
      have ci1 := oi.q1
      have li := oi.lt
      have lr := or.lt
      have lq := oq.lt
      have zq_1 : w.heap.size + 1 + 1 + 1 < w1.heap.size := oq.lt
      have zz1 := B.size
      go_wp2_with fail
      refine (PC _ (w1.heap.size) 23 ownK).mono ?_
      rintro e w2 ⟨rfl, hb2⟩
      have st : Steps _ w2 := hb2
      have sk : Below w1.heap.size w1 w2 := belowA st
      replace B := below_steps B (Nat.le_refl _) sk
      replace ot := ot.steps sk
      replace oi := oi.steps sk
      replace or := or.steps sk
      replace oq := oq.steps sk
      clear st sk lt ci0 ci1 li lr lq
      have lt := ot.lt
      have li := oi.lt
      have cr0 := or.q0
      have cr1 := or.q1
      have cr2 := or.q2
      have cr3 := or.q3
      have fr := or.fr
      have lr := or.lt
      have cq0 := oq.q0
      have cq1 := oq.q1
      have cq2 := oq.q2
      have cq3 := oq.q3
      have fq := oq.fr
      have lq := oq.lt
      go_wp2_with fail
      refine bodyPost_ret (by simp [results, Tryz.results13, go_sem, lt, li, cr0, cr1, cr2, cr3, fr, lr, cq0, cq1, cq2, cq3, fq, lq]; rfl) rfl ?_
      exact ⟨_, _, rfl, rfl, rfl, belowB⟩
set_option maxHeartbeats 6400000 in
set_option maxRecDepth 1000000 in
theorem rValid21 {ka1 ka5 kb1 kb5 kc1 kc5 kd1 kd5 : Bool} {ka2 ka6 kb2 kb6 kc2 kc6 kd2 kd6 : Option Addr} {ka3 ka4 ka7 ka8 kb3 kb4 kb7 kb8 kc3 kc4 kc7 kc8 kd3 kd4 kd7 kd8 : Nat} {O : Nat → Option Rat} (w : World) (b0 : FB w (.agg #[.bool ka1, .slice ka2 ka3 ka4, .bool ka5, .slice ka6 ka7 ka8]) (O 0)) (b1 : FB w (.agg #[.bool kb1, .slice kb2 kb3 kb4, .bool kb5, .slice kb6 kb7 kb8]) (O 1)) (b2 : FB w (.agg #[.bool kc1, .slice kc2 kc3 kc4, .bool kc5, .slice kc6 kc7 kc8]) (O 2)) (b3 : FB w (.agg #[.bool kd1, .slice kd2 kd3 kd4, .bool kd5, .slice kd6 kd7 kd8]) (O 3)) :
    Calls Tryz.prog 28 #[.agg #[.bool ka1, .slice ka2 ka3 ka4, .bool ka5, .slice ka6 ka7 ka8, .bool kb1, .slice kb2 kb3 kb4, .bool kb5, .slice kb6 kb7 kb8, .bool kc1, .slice kc2 kc3 kc4, .bool kc5, .slice kc6 kc7 kc8, .bool kd1, .slice kd2 kd3 kd4, .bool kd5, .slice kd6 kd7 kd8]] w fun e w' => e = .returned (.bool (limL 16 O (f4v ka3 kb3 kc3 kd3) (f4v ka7 kb7 kc7 kd7) 4)) ∧ Steps w w' := by
  have S0 : ∀ w', Keeps w w' → Calls Tryz.prog 68 #[.agg #[.bool ka1, .slice ka2 ka3 ka4, .bool ka5, .slice ka6 ka7 ka8]] w' fun e w2 => e = .returned (.bool (limF 16 (O 0) ka3 ka7)) ∧ Steps w' w2 := fun w' k => psmall w' (b0.keeps k)
  have S1 : ∀ w', Keeps w w' → Calls Tryz.prog 68 #[.agg #[.bool kb1, .slice kb2 kb3 kb4, .bool kb5, .slice kb6 kb7 kb8]] w' fun e w2 => e = .returned (.bool (limF 16 (O 1) kb3 kb7)) ∧ Steps w' w2 := fun w' k => psmall w' (b1.keeps k)
  have S2 : ∀ w', Keeps w w' → Calls Tryz.prog 68 #[.agg #[.bool kc1, .slice kc2 kc3 kc4, .bool kc5, .slice kc6 kc7 kc8]] w' fun e w2 => e = .returned (.bool (limF 16 (O 2) kc3 kc7)) ∧ Steps w' w2 := fun w' k => psmall w' (b2.keeps k)
  have S3 : ∀ w', Keeps w w' → Calls Tryz.prog 68 #[.agg #[.bool kd1, .slice kd2 kd3 kd4, .bool kd5, .slice kd6 kd7 kd8]] w' fun e w2 => e = .returned (.bool (limF 16 (O 3) kd3 kd7)) ∧ Steps w' w2 := fun w' k => psmall w' (b3.keeps k)
  have E : limL 16 O (f4v ka3 kb3 kc3 kd3) (f4v ka7 kb7 kc7 kd7) 4 = (limF 16 (O 0) ka3 ka7 && limF 16 (O 1) kb3 kb7 && limF 16 (O 2) kc3 kc7 && limF 16 (O 3) kd3 kd7) := by show ((((true && _) && _) && _) && _) = _; rw [Bool.true_and]; rfl
  rw [E]
  generalize limF 16 (O 0) ka3 ka7 = s0 at *
  generalize limF 16 (O 1) kb3 kb7 = s1 at *
  generalize limF 16 (O 2) kc3 kc7 = s2 at *
  generalize limF 16 (O 3) kd3 kd7 = s3 at *
  clear b0 b1 b2 b3 E
  go_enter Tryz.func28, Tryz.ntmps28
  have kk := Keeps.refl w
  go_wp2_with fail
  refine (S0 _ (kk.trans keepsB)).mono ?_
  rintro e w1 ⟨rfl, hb1⟩
  have st : Steps _ w1 := hb1
  have B : Below w.heap.size w w1 := belowA st
  have kp : Keeps w w1 := Keeps.then_ keepsB st
  replace kk := kk.trans kp
  have nt : Blk w1 (w.heap.size) 30 #[.bool ka1, .slice ka2 ka3 ka4, .bool ka5, .slice ka6 ka7 ka8, .bool kb1, .slice kb2 kb3 kb4, .bool kb5, .slice kb6 kb7 kb8, .bool kc1, .slice kc2 kc3 kc4, .bool kc5, .slice kc6 kc7 kc8, .bool kd1, .slice kd2 kd3 kd4, .bool kd5, .slice kd6 kd7 kd8] := Blk.stepsK st
  have ot := nt
  clear nt
  clear kp
  clear st
  have ct0 := ot.q0
  have ct1 := ot.q1
  have ct2 := ot.q2
  have ct3 := ot.q3
  have ct4 := ot.q4
  have ct5 := ot.q5
  have ct6 := ot.q6
  have ct7 := ot.q7
  have ct8 := ot.q8
  have ct9 := ot.q9
  have ct10 := ot.q10
  have ct11 := ot.q11
  have ct12 := ot.q12
  have ct13 := ot.q13
  have ct14 := ot.q14
  have ct15 := ot.q15
  have lt := ot.lt
  cases s0 with
  | false =>
    go_wp2
    go_returns
    exact ⟨rfl, belowB⟩
  | true =>
    go_wp2_with fail
    refine (S1 _ (kk.trans keepsB)).mono ?_
    rintro e w2 ⟨rfl, hb2⟩
    have st : Steps _ w2 := hb2
    have sk : Below w1.heap.size w1 w2 := belowA st
    replace B := below_steps B (Nat.le_refl _) sk
    replace ot := ot.steps sk
    replace kk := kk.then_ sk
    clear st sk ct0 ct1 ct2 ct3 ct4 ct5 ct6 ct7 ct8 ct9 ct10 ct11 ct12 ct13 ct14 ct15 lt
    have ct0 := ot.q0
    have ct1 := ot.q1
    have ct2 := ot.q2
    have ct3 := ot.q3
    have ct4 := ot.q4
    have ct5 := ot.q5
    have ct6 := ot.q6
    have ct7 := ot.q7
    have ct8 := ot.q8
    have ct9 := ot.q9
    have ct10 := ot.q10
    have ct11 := ot.q11
    have ct12 := ot.q12
    have ct13 := ot.q13
    have ct14 := ot.q14
    have ct15 := ot.q15
    have lt := ot.lt
    cases s1 with
    | false =>
      go_wp2
      go_returns
      exact ⟨rfl, belowB⟩
    | true =>
      go_wp2_with fail
      refine (S2 _ (kk.trans keepsB)).mono ?_
      rintro e w3 ⟨rfl, hb3⟩
      have st : Steps _ w3 := hb3
      have sk : Below w2.heap.size w2 w3 := belowA st
      replace B := below_steps B (Nat.le_refl _) sk
      replace ot := ot.steps sk
      replace kk := kk.then_ sk
      clear st sk ct0 ct1 ct2 ct3 ct4 ct5 ct6 ct7 ct8 ct9 ct10 ct11 ct12 ct13 ct14 ct15 lt
      have ct0 := ot.q0
      have ct1 := ot.q1
      have ct2 := ot.q2
      have ct3 := ot.q3
      have ct4 := ot.q4
      have ct5 := ot.q5
      have ct6 := ot.q6
      have ct7 := ot.q7
      have ct8 := ot.q8
      have ct9 := ot.q9
      have ct10 := ot.q10
      have ct11 := ot.q11
      have ct12 := ot.q12
      have ct13 := ot.q13
      have ct14 := ot.q14
      have ct15 := ot.q15
      have lt := ot.lt
      cases s2 with
      | false =>
        go_wp2
        go_returns
        exact ⟨rfl, belowB⟩
      | true =>
        go_wp2_with fail
        refine (S3 _ (kk.trans keepsB)).mono ?_
        rintro e w4 ⟨rfl, hb4⟩
        have st : Steps _ w4 := hb4
        have sk : Below w3.heap.size w3 w4 := belowA st
        replace B := below_steps B (Nat.le_refl _) sk
        replace ot := ot.steps sk
        replace kk := kk.then_ sk
        clear st sk ct0 ct1 ct2 ct3 ct4 ct5 ct6 ct7 ct8 ct9 ct10 ct11 ct12 ct13 ct14 ct15 lt
        cases s3 with
        | false =>
          go_wp2
          go_returns
          exact ⟨rfl, belowB⟩
        | true =>
          go_wp2_with fail
          refine bodyPost_ret (by simp [results, Tryz.results28, go_sem, ]; rfl) rfl ?_
          exact ⟨rfl, belowB⟩
set_option maxHeartbeats 6400000 in
set_option maxRecDepth 1000000 in
theorem rApply {ka1 ka5 kb1 kb5 kc1 kc5 kd1 kd5 : Bool} {ka2 ka6 kb2 kb6 kc2 kc6 kd2 kd6 : Option Addr} {ka3 ka4 ka7 ka8 kb3 kb4 kb7 kb8 kc3 kc4 kc7 kc8 kd3 kd4 kd7 kd8 : Nat} {O : Nat → Option Rat} (px py : Int) (w : World) (b0 : FB w (.agg #[.bool ka1, .slice ka2 ka3 ka4, .bool ka5, .slice ka6 ka7 ka8]) (O 0)) (b1 : FB w (.agg #[.bool kb1, .slice kb2 kb3 kb4, .bool kb5, .slice kb6 kb7 kb8]) (O 1)) (b2 : FB w (.agg #[.bool kc1, .slice kc2 kc3 kc4, .bool kc5, .slice kc6 kc7 kc8]) (O 2)) (b3 : FB w (.agg #[.bool kd1, .slice kd2 kd3 kd4, .bool kd5, .slice kd6 kd7 kd8]) (O 3)) (fw : FewL O (f4v ka3 kb3 kc3 kd3) (f4v ka7 kb7 kc7 kd7) 4) (rx : (-9223372036854775808 ≤ px ∧ px ≤ 9223372036854775807)) (ry : (-9223372036854775808 ≤ py ∧ py ≤ 9223372036854775807)) :
    Calls Tryz.prog 14 #[.agg #[.bool ka1, .slice ka2 ka3 ka4, .bool ka5, .slice ka6 ka7 ka8, .bool kb1, .slice kb2 kb3 kb4, .bool kb5, .slice kb6 kb7 kb8, .bool kc1, .slice kc2 kc3 kc4, .bool kc5, .slice kc6 kc7 kc8, .bool kd1, .slice kd2 kd3 kd4, .bool kd5, .slice kd6 kd7 kd8], .agg #[.int .i64 px, .int .i64 py]] w fun e w' => ∃ u v, e = .returned (.tuple #[u, v, .int .i64 (apErr (apOk O (f4v ka3 kb3 kc3 kd3) (f4v ka7 kb7 kc7 kd7) (px, py)))]) ∧ FO w' u (apRes (apOk O (f4v ka3 kb3 kc3 kd3) (f4v ka7 kb7 kc7 kd7) (px, py)) (apX (fun i => (O i).getD 0) (px, py))) ∧ FO w' v (apRes (apOk O (f4v ka3 kb3 kc3 kd3) (f4v ka7 kb7 kc7 kd7) (px, py)) (apY (fun i => (O i).getD 0) (px, py))) ∧ Steps w w' := by
  have VA : ∀ w', Keeps w w' → Calls Tryz.prog 28 #[.agg #[.bool ka1, .slice ka2 ka3 ka4, .bool ka5, .slice ka6 ka7 ka8, .bool kb1, .slice kb2 kb3 kb4, .bool kb5, .slice kb6 kb7 kb8, .bool kc1, .slice kc2 kc3 kc4, .bool kc5, .slice kc6 kc7 kc8, .bool kd1, .slice kd2 kd3 kd4, .bool kd5, .slice kd6 kd7 kd8]] w' fun e w2 => e = .returned (.bool (limL 16 O (f4v ka3 kb3 kc3 kd3) (f4v ka7 kb7 kc7 kd7) 4)) ∧ Steps w' w2 := fun w' k => rValid21 w' (b0.keeps k) (b1.keeps k) (b2.keeps k) (b3.keeps k)
  have ON : ∀ w', Calls Tryz.prog 39 #[.agg #[.int .i64 px, .int .i64 py]] w' fun e w2 => e = .returned (.bool (decide (okP (px, py)))) ∧ Steps w' w2 := fun w' => rone px py w' rx ry
  have AP : limL 16 O (f4v ka3 kb3 kc3 kd3) (f4v ka7 kb7 kc7 kd7) 4 = true → okP (px, py) → ∀ w', Steps w w' → Calls Tryz.prog 43 #[.agg #[.bool ka1, .slice ka2 ka3 ka4, .bool ka5, .slice ka6 ka7 ka8, .bool kb1, .slice kb2 kb3 kb4, .bool kb5, .slice kb6 kb7 kb8, .bool kc1, .slice kc2 kc3 kc4, .bool kc5, .slice kc6 kc7 kc8, .bool kd1, .slice kd2 kd3 kd4, .bool kd5, .slice kd6 kd7 kd8], .agg #[.int .i64 px, .int .i64 py]] w' fun e w2 => ∃ u v, e = .returned (.tuple #[u, v]) ∧ FR w2 u (apX (fun i => (O i).getD 0) (px, py)) ∧ FR w2 v (apY (fun i => (O i).getD 0) (px, py)) ∧ Steps w' w2 := fun hL hp w' s => by
    obtain ⟨r0, e0, z0⟩ := limL_sz hL fw 0 (by omega)
    obtain ⟨r1, e1, z1⟩ := limL_sz hL fw 1 (by omega)
    obtain ⟨r2, e2, z2⟩ := limL_sz hL fw 2 (by omega)
    obtain ⟨r3, e3, z3⟩ := limL_sz hL fw 3 (by omega)
    have k := Keeps.steps s
    rw [e0] at b0
    rw [e1] at b1
    rw [e2] at b2
    rw [e3] at b3
    have g0 : (O 0).getD 0 = r0 := by rw [e0]; rfl
    have g1 : (O 1).getD 0 = r1 := by rw [e1]; rfl
    have g2 : (O 2).getD 0 = r2 := by rw [e2]; rfl
    have g3 : (O 3).getD 0 = r3 := by rw [e3]; rfl
    exact rapply px py w' (g0.symm ▸ FR.keeps b0 k) (g1.symm ▸ FR.keeps b1 k) (g2.symm ▸ FR.keeps b2 k) (g3.symm ▸ FR.keeps b3 k) (g0.symm ▸ z0.mono (by omega)) (g1.symm ▸ z1.mono (by omega)) (g2.symm ▸ z2.mono (by omega)) (g3.symm ▸ z3.mono (by omega)) ⟨hp.1, hp.2.1⟩ ⟨hp.2.2.1, hp.2.2.2⟩
  generalize apX (fun i => (O i).getD 0) (px, py) = X at *
  generalize apY (fun i => (O i).getD 0) (px, py) = Y at *
  unfold apOk
  generalize limL 16 O (f4v ka3 kb3 kc3 kd3) (f4v ka7 kb7 kc7 kd7) 4 = L at *
  clear b0 b1 b2 b3 fw rx ry
  cases L with
  | false =>
    rw [Bool.false_and]
    clear AP ON
    go_enter Tryz.func14, Tryz.ntmps14
    have kk := Keeps.refl w
    go_wp2_with (first
      | ((with_reducible show wpList _ _ _ (⟨some 9, _, _, _, _, _⟩ :: _) _ _)
         refine load_big rfl 30 (.tmp 2) rfl (w.heap.size) rfl 30 #[.bool ka1, .slice ka2 ka3 ka4, .bool ka5, .slice ka6 ka7 ka8, .bool kb1, .slice kb2 kb3 kb4, .bool kb5, .slice kb6 kb7 kb8, .bool kc1, .slice kc2 kc3 kc4, .bool kc5, .slice kc6 kc7 kc8, .bool kd1, .slice kd2 kd3 kd4, .bool kd5, .slice kd6 kd7 kd8] _ ownK Tryz.underlying30 rfl (by kernel_rfl) ?_
         skip)
      )
    refine (VA _ (kk.trans keepsB)).mono ?_
    rintro e w1 ⟨rfl, hb1⟩
    have st : Steps _ w1 := hb1
    have B : Below w.heap.size w w1 := belowA st
    have kp : Keeps w w1 := Keeps.then_ keepsB st
    replace kk := kk.trans kp
    have nt : Blk w1 (w.heap.size) 30 #[.bool ka1, .slice ka2 ka3 ka4, .bool ka5, .slice ka6 ka7 ka8, .bool kb1, .slice kb2 kb3 kb4, .bool kb5, .slice kb6 kb7 kb8, .bool kc1, .slice kc2 kc3 kc4, .bool kc5, .slice kc6 kc7 kc8, .bool kd1, .slice kd2 kd3 kd4, .bool kd5, .slice kd6 kd7 kd8] := Blk.stepsK st
    have ni : Blk w1 (w.heap.size + 1) 23 #[.int .i64 px, .int .i64 py] := Blk.stepsK st
    have nr : Blk w1 (w.heap.size + 1 + 1) 28 #[.bool false, .slice none 0 0, .bool false, .slice none 0 0] := Blk.stepsK st
    have nq : Blk w1 (w.heap.size + 1 + 1 + 1) 28 #[.bool false, .slice none 0 0, .bool false, .slice none 0 0] := Blk.stepsK st
    have ot := nt
    clear nt
    have oi := ni
    clear ni
    have or := nr
    clear nr
    have oq := nq
    clear nq
    clear kp
    clear st
    have lt := ot.lt
    have li := oi.lt
    have cr0 := or.q0
    have cr1 := or.q1
    have cr2 := or.q2
    have cr3 := or.q3
    have fr := or.fr
    have lr := or.lt
    have cq0 := oq.q0
    have cq1 := oq.q1
    have cq2 := oq.q2
    have cq3 := oq.q3
    have fq := oq.fr
    have lq := oq.lt
    dsimp only; repeat' (first | go_values | go_skip | go_guarded | go_step | go_upon)
    refine bodyPost_ret (by simp [results, Tryz.results14, go_sem, lt, li, cr0, cr1, cr2, cr3, fr, lr, cq0, cq1, cq2, cq3, fq, lq]; rfl) rfl ?_
    exact ⟨_, _, rfl, rfl, rfl, belowB⟩
  | true =>
    rw [Bool.true_and]
    by_cases hp : okP (px, py)
    · rw [decide_eq_true hp] at ON
      rw [decide_eq_true hp]
      have AQ := AP rfl hp
      clear AP hp
      go_enter Tryz.func14, Tryz.ntmps14
      have kk := Keeps.refl w
      go_wp2_with (first
        | ((with_reducible show wpList _ _ _ (⟨some 9, _, _, _, _, _⟩ :: _) _ _)
           refine load_big rfl 30 (.tmp 2) rfl (w.heap.size) rfl 30 #[.bool ka1, .slice ka2 ka3 ka4, .bool ka5, .slice ka6 ka7 ka8, .bool kb1, .slice kb2 kb3 kb4, .bool kb5, .slice kb6 kb7 kb8, .bool kc1, .slice kc2 kc3 kc4, .bool kc5, .slice kc6 kc7 kc8, .bool kd1, .slice kd2 kd3 kd4, .bool kd5, .slice kd6 kd7 kd8] _ ownK Tryz.underlying30 rfl (by kernel_rfl) ?_
           skip)
        )
      refine (VA _ (kk.trans keepsB)).mono ?_
      rintro e w1 ⟨rfl, hb1⟩
      have st : Steps _ w1 := hb1
      have B : Below w.heap.size w w1 := belowA st
      have kp : Keeps w w1 := Keeps.then_ keepsB st
      replace kk := kk.trans kp
      have nt : Blk w1 (w.heap.size) 30 #[.bool ka1, .slice ka2 ka3 ka4, .bool ka5, .slice ka6 ka7 ka8, .bool kb1, .slice kb2 kb3 kb4, .bool kb5, .slice kb6 kb7 kb8, .bool kc1, .slice kc2 kc3 kc4, .bool kc5, .slice kc6 kc7 kc8, .bool kd1, .slice kd2 kd3 kd4, .bool kd5, .slice kd6 kd7 kd8] := Blk.stepsK st
      have ni : Blk w1 (w.heap.size + 1) 23 #[.int .i64 px, .int .i64 py] := Blk.stepsK st
      have nr : Blk w1 (w.heap.size + 1 + 1) 28 #[.bool false, .slice none 0 0, .bool false, .slice none 0 0] := Blk.stepsK st
      have nq : Blk w1 (w.heap.size + 1 + 1 + 1) 28 #[.bool false, .slice none 0 0, .bool false, .slice none 0 0] := Blk.stepsK st
      have ot := nt
      clear nt
      have oi := ni
      clear ni
      have or := nr
      clear nr
      have oq := nq
      clear nq
      clear kp
      clear st
      have lt := ot.lt
      have ci0 := oi.q0
      have ci1 := oi.q1
      have li := oi.lt
      have lr := or.lt
      have lq := oq.lt
      go_wp2_with fail
      refine (ON _).mono ?_
      rintro e w2 ⟨rfl, hb2⟩
      have st : Steps _ w2 := hb2
      have sk : Below w1.heap.size w1 w2 := belowA st
      replace B := below_steps B (Nat.le_refl _) sk
      replace ot := ot.steps sk
      replace oi := oi.steps sk
      replace or := or.steps sk
      replace oq := oq.steps sk
      replace kk := kk.then_ sk
      clear st sk lt ci0 ci1 li lr lq
      have lt := ot.lt
      have ci0 := oi.q0
      have ci1 := oi.q1
      have li := oi.lt
      have lr := or.lt
      have lq := oq.lt
      go_wp2_with (first
        | ((with_reducible show wpList _ _ _ (⟨some 20, _, _, _, _, _⟩ :: _) _ _)
           refine load_big rfl 30 (.tmp 2) rfl (w.heap.size) rfl 30 #[.bool ka1, .slice ka2 ka3 ka4, .bool ka5, .slice ka6 ka7 ka8, .bool kb1, .slice kb2 kb3 kb4, .bool kb5, .slice kb6 kb7 kb8, .bool kc1, .slice kc2 kc3 kc4, .bool kc5, .slice kc6 kc7 kc8, .bool kd1, .slice kd2 kd3 kd4, .bool kd5, .slice kd6 kd7 kd8] _ ownK Tryz.underlying30 rfl (by kernel_rfl) ?_
           skip)
        )
      refine (AQ _ belowB).mono ?_
      rintro e w3 ⟨vx, vy, rfl, hvx, hvy, hb3⟩
      have st : Steps _ w3 := hb3
      have sk : Below w2.heap.size w2 w3 := belowA st
      replace B := below_steps B (Nat.le_refl _) sk
      replace ot := ot.steps sk
      replace oi := oi.steps sk
      replace or := or.steps sk
      replace oq := oq.steps sk
      replace kk := kk.then_ sk
      clear st sk lt ci0 ci1 li lr lq
      obtain ⟨x1, x2, x3, x4, x5, x6, x7, x8, rfl⟩ := hvx.shape
      obtain ⟨y1, y2, y3, y4, y5, y6, y7, y8, rfl⟩ := hvy.shape
      have Fx := Hid.mk_ hvx
      clear hvx
      have Fy := Hid.mk_ hvy
      clear hvy
      have zq_3 : w.heap.size + 1 + 1 + 1 < w3.heap.size := oq.lt
      have zz3 := B.size
      go_wp2_with fail
      go_upto_region 4 with fail
      refine Reg.wp_chain_n (fun N0 D v W => Below w.heap.size w W ∧ Keeps w3 W ∧ N0 ≤ W.heap.size ∧ Blk W (w.heap.size) 30 #[.bool ka1, .slice ka2 ka3 ka4, .bool ka5, .slice ka6 ka7 ka8, .bool kb1, .slice kb2 kb3 kb4, .bool kb5, .slice kb6 kb7 kb8, .bool kc1, .slice kc2 kc3 kc4, .bool kc5, .slice kc6 kc7 kc8, .bool kd1, .slice kd2 kd3 kd4, .bool kd5, .slice kd6 kd7 kd8] ∧ Blk W (w.heap.size + 1) 23 #[.int .i64 px, .int .i64 py] ∧ ((D 2 = false → Blk W (w.heap.size + 1 + 1) 28 #[.bool false, .slice none 0 0, .bool false, .slice none 0 0]) ∧ (D 2 = true → Blk W (w.heap.size + 1 + 1) 28 #[.bool x1, .slice x2 x3 x4, .bool x5, .slice x6 x7 x8])) ∧ ((D 3 = false → Blk W (w.heap.size + 1 + 1 + 1) 28 #[.bool false, .slice none 0 0, .bool false, .slice none 0 0]) ∧ (D 3 = true → Blk W (w.heap.size + 1 + 1 + 1) 28 #[.bool y1, .slice y2 y3 y4, .bool y5, .slice y6 y7 y8])) ∧ Blk W (w3.heap.size) 28 #[.bool x1, .slice x2 x3 x4, .bool x5, .slice x6 x7 x8] ∧ Blk W (w3.heap.size + 1) 28 #[.bool y1, .slice y2 y3 y4, .bool y5, .slice y6 y7 y8])
        (Reg.inl [2, 3]) (Reg.gv []) (gw []) (fun _ => Keeps) (fun _ _ => False) (Reg.pl [(5, [])]) (Reg.pl [])
        (by kernel_rfl) (by kernel_rfl) (by kernel_rfl) (Reg.gv_some _ (by intro p hp; cases hp)) (fun N0 hN0 => ⟨fun v => ?_, fun D v v' W hv hj => ?_, fun D v k j W W' x _ _ _ _ hk hg => gw_keeps _ (by intro p hp; cases hp) hk hg, fun _ _ _ _ h => h.elim, fun ops' Q' hops hQ => ?_⟩)
      · exact ⟨belowB, keepsB, by first | with_reducible exact Nat.le_of_eq hN0.out | (simp only [World.size_drew]; with_reducible exact Nat.le_of_eq hN0.out), ownK, ownK, ⟨fun _ => ownK, (fun h => Bool.noConfusion h)⟩, ⟨fun _ => ownK, (fun h => Bool.noConfusion h)⟩, ownK, ownK⟩
      · obtain ⟨j0, jk, jn, b_t, b_i, b_r, b_q, b_v7, b_v8⟩ := hj
        exact ⟨j0, jk, jn, b_t, b_i, b_r, b_q, b_v7, b_v8⟩
      have i_t : w.heap.size < N0 := by have e := hN0.out; (try simp only [World.size_alloc, World.size_setCell, World.size_drew, World.heap_drewN] at e); first | omega | (have h := ot.lt; omega)
      have i_i : w.heap.size + 1 < N0 := by have e := hN0.out; (try simp only [World.size_alloc, World.size_setCell, World.size_drew, World.heap_drewN] at e); first | omega | (have h := oi.lt; omega)
      have i_r : w.heap.size + 1 + 1 < N0 := by have e := hN0.out; (try simp only [World.size_alloc, World.size_setCell, World.size_drew, World.heap_drewN] at e); first | omega | (have h := or.lt; omega)
      have i_q : w.heap.size + 1 + 1 + 1 < N0 := by have e := hN0.out; (try simp only [World.size_alloc, World.size_setCell, World.size_drew, World.heap_drewN] at e); first | omega | (have h := oq.lt; omega)
      have i_v7 : w3.heap.size < N0 := by have e := hN0.out; (try simp only [World.size_alloc, World.size_setCell, World.size_drew, World.heap_drewN] at e); first | omega | (have h := ov7.lt; omega)
      have i_v8 : w3.heap.size + 1 < N0 := by have e := hN0.out; (try simp only [World.size_alloc, World.size_setCell, World.size_drew, World.heap_drewN] at e); first | omega | (have h := ov8.lt; omega)
      have iw : w.heap.size ≤ N0 := by have e := hN0.out; (try simp only [World.size_alloc, World.size_setCell, World.size_drew, World.heap_drewN] at e); first | omega | (have h := B.size; omega)
      clear hN0
      apply Reg.RC_pure (hc := rfl) (hst := rfl) (hw := rfl) (t := 25) (hd := rfl) (ht := Nat.le_of_ble_eq_true rfl)
      · intro D v' W' hc hj hf K hK
        obtain ⟨j0, jk, jn, b_t, b_i, b_r, b_q, b_v7, b_v8⟩ := hj
        have c0 : W'.cell? ⟨w3.heap.size, 0, none⟩ = some (.bool x1) := b_v7.c 0 rfl
        have c1 : W'.cell? ⟨w3.heap.size, 1, none⟩ = some (.slice x2 x3 x4) := b_v7.c 1 rfl
        have c2 : W'.cell? ⟨w3.heap.size, 2, none⟩ = some (.bool x5) := b_v7.c 2 rfl
        have c3 : W'.cell? ⟨w3.heap.size, 3, none⟩ = some (.slice x6 x7 x8) := b_v7.c 3 rfl
        go_step
        exact hK.out
      · rfl
      apply Reg.RC_pure (hc := rfl) (hst := rfl) (hw := rfl) (t := 26) (hd := rfl) (ht := Nat.le_of_ble_eq_true rfl)
      · intro D v' W' hc hj hf K hK
        obtain ⟨j0, jk, jn, b_t, b_i, b_r, b_q, b_v7, b_v8⟩ := hj
        have c0 : W'.cell? ⟨w3.heap.size + 1, 0, none⟩ = some (.bool y1) := b_v8.c 0 rfl
        have c1 : W'.cell? ⟨w3.heap.size + 1, 1, none⟩ = some (.slice y2 y3 y4) := b_v8.c 1 rfl
        have c2 : W'.cell? ⟨w3.heap.size + 1, 2, none⟩ = some (.bool y5) := b_v8.c 2 rfl
        have c3 : W'.cell? ⟨w3.heap.size + 1, 3, none⟩ = some (.slice y6 y7 y8) := b_v8.c 3 rfl
        go_step
        exact hK.out
      · rfl
      refine Reg.RC_call rfl (by intro t ht; cases ht) rfl (fun D v' W' hc hj hf K hK => ?_) (fun _ _ => Reg.RC_at (b := ⟨_, _⟩) rfl ?_)
      · obtain ⟨j0, jk, jn, b_t, b_i, b_r, b_q, b_v7, b_v8⟩ := hj
        have hb := b_r.1 hc.1
        have e2 : w.heap.size ≤ w.heap.size + 1 + 1 := by omega
        have ff := hb.fr
        have cc0 : W'.cell? ⟨w.heap.size + 1 + 1, 0, none⟩ = some (.bool false) := hb.c 0 rfl
        have cc1 : W'.cell? ⟨w.heap.size + 1 + 1, 1, none⟩ = some (.slice none 0 0) := hb.c 1 rfl
        have cc2 : W'.cell? ⟨w.heap.size + 1 + 1, 2, none⟩ = some (.bool false) := hb.c 2 rfl
        have cc3 : W'.cell? ⟨w.heap.size + 1 + 1, 3, none⟩ = some (.slice none 0 0) := hb.c 3 rfl
        go_step
        exact hK.out undef _ (keeps4 hb rfl) ⟨(below4 j0 (by show w.heap.size ≤ w.heap.size + 1 + 1; omega)), jk.trans (keeps4 hb rfl), by simpa using jn, (b_t).far4 (show w.heap.size ≠ w.heap.size + 1 + 1 by omega), (b_i).far4 (show w.heap.size + 1 ≠ w.heap.size + 1 + 1 by omega), ⟨fun h => Bool.noConfusion h, fun _ => (Blk.set2 (cs' := #[.bool x1, .slice x2 x3 x4, .bool x5, .slice x6 x7 x8]) (Blk.set2 (cs' := #[.bool x1, .slice x2 x3 x4, .bool x5, .slice none 0 0]) (Blk.set2 (cs' := #[.bool x1, .slice x2 x3 x4, .bool false, .slice none 0 0]) (Blk.set2 (cs' := #[.bool x1, .slice none 0 0, .bool false, .slice none 0 0]) hb (i := 0) rfl) (i := 1) rfl) (i := 2) rfl) (i := 3) rfl)⟩, ⟨fun h => (b_q.1 h).far4 (show w.heap.size + 1 + 1 + 1 ≠ w.heap.size + 1 + 1 by omega), fun h => (b_q.2 h).far4 (show w.heap.size + 1 + 1 + 1 ≠ w.heap.size + 1 + 1 by omega)⟩, (b_v7).far4 (show w3.heap.size ≠ w.heap.size + 1 + 1 by omega), (b_v8).far4 (show w3.heap.size + 1 ≠ w.heap.size + 1 + 1 by omega)⟩ trivial trivial
      refine Reg.RC_call rfl (by intro t ht; cases ht) rfl (fun D v' W' hc hj hf K hK => ?_) (fun _ _ => Reg.RC_at (b := ⟨_, _⟩) rfl ?_)
      · obtain ⟨j0, jk, jn, b_t, b_i, b_r, b_q, b_v7, b_v8⟩ := hj
        have hb := b_q.1 hc.1
        have e2 : w.heap.size ≤ w.heap.size + 1 + 1 + 1 := by omega
        have ff := hb.fr
        have cc0 : W'.cell? ⟨w.heap.size + 1 + 1 + 1, 0, none⟩ = some (.bool false) := hb.c 0 rfl
        have cc1 : W'.cell? ⟨w.heap.size + 1 + 1 + 1, 1, none⟩ = some (.slice none 0 0) := hb.c 1 rfl
        have cc2 : W'.cell? ⟨w.heap.size + 1 + 1 + 1, 2, none⟩ = some (.bool false) := hb.c 2 rfl
        have cc3 : W'.cell? ⟨w.heap.size + 1 + 1 + 1, 3, none⟩ = some (.slice none 0 0) := hb.c 3 rfl
        go_step
        exact hK.out undef _ (keeps4 hb rfl) ⟨(below4 j0 (by show w.heap.size ≤ w.heap.size + 1 + 1 + 1; omega)), jk.trans (keeps4 hb rfl), by simpa using jn, (b_t).far4 (show w.heap.size ≠ w.heap.size + 1 + 1 + 1 by omega), (b_i).far4 (show w.heap.size + 1 ≠ w.heap.size + 1 + 1 + 1 by omega), ⟨fun h => (b_r.1 h).far4 (show w.heap.size + 1 + 1 ≠ w.heap.size + 1 + 1 + 1 by omega), fun h => (b_r.2 h).far4 (show w.heap.size + 1 + 1 ≠ w.heap.size + 1 + 1 + 1 by omega)⟩, ⟨fun h => Bool.noConfusion h, fun _ => (Blk.set2 (cs' := #[.bool y1, .slice y2 y3 y4, .bool y5, .slice y6 y7 y8]) (Blk.set2 (cs' := #[.bool y1, .slice y2 y3 y4, .bool y5, .slice none 0 0]) (Blk.set2 (cs' := #[.bool y1, .slice y2 y3 y4, .bool false, .slice none 0 0]) (Blk.set2 (cs' := #[.bool y1, .slice none 0 0, .bool false, .slice none 0 0]) hb (i := 0) rfl) (i := 1) rfl) (i := 2) rfl) (i := 3) rfl)⟩, (b_v7).far4 (show w3.heap.size ≠ w.heap.size + 1 + 1 + 1 by omega), (b_v8).far4 (show w3.heap.size + 1 ≠ w.heap.size + 1 + 1 + 1 by omega)⟩ trivial trivial
      apply Reg.RC_pure (hc := rfl) (hst := rfl) (hw := rfl) (t := 6) (hd := rfl) (ht := Nat.le_of_ble_eq_true rfl)
      · intro D v' W' hc hj hf K hK
        go_step
        exact hK.out
      · rfl
      refine Reg.RC_end (fun Dn v' w4 hd hj hf => ?_)
      obtain ⟨j0, jk, jn, b_t, b_i, b_r, b_q, b_v7, b_v8⟩ := hj
      have B := j0
      have ot := b_t
      clear b_t
      have oi := b_i
      clear b_i
      have or := b_r.2 (hd 2 (Nat.le_of_ble_eq_true rfl))
      clear b_r
      have oq := b_q.2 (hd 3 (Nat.le_of_ble_eq_true rfl))
      clear b_q
      have ov7 := b_v7
      clear b_v7
      have ov8 := b_v8
      clear b_v8
      replace Fx := Hid.mk_ (Fx.out.keeps jk)
      replace Fy := Hid.mk_ (Fy.out.keeps jk)
      replace kk := kk.trans jk
      clear hd hf jk j0
      refine hQ _ _ ?_
      clear hQ hops Q' ops'
      have lt := ot.lt
      have li := oi.lt
      have cr0 := or.q0
      have cr1 := or.q1
      have cr2 := or.q2
      have cr3 := or.q3
      have lr := or.lt
      have cq0 := oq.q0
      have cq1 := oq.q1
      have cq2 := oq.q2
      have cq3 := oq.q3
      have lq := oq.lt
      go_wp2_with fail
      refine bodyPost_ret (by simp [results, Tryz.results14, go_sem, lt, li, cr0, cr1, cr2, cr3, lr, cq0, cq1, cq2, cq3, lq]; rfl) rfl ?_
      exact ⟨_, _, rfl, Fx.out.keeps keepsB, Fy.out.keeps keepsB, belowB⟩
    · rw [decide_eq_false hp] at ON
      rw [decide_eq_false hp]
      clear AP hp
      go_enter Tryz.func14, Tryz.ntmps14
      have kk := Keeps.refl w
      go_wp2_with (first
        | ((with_reducible show wpList _ _ _ (⟨some 9, _, _, _, _, _⟩ :: _) _ _)
           refine load_big rfl 30 (.tmp 2) rfl (w.heap.size) rfl 30 #[.bool ka1, .slice ka2 ka3 ka4, .bool ka5, .slice ka6 ka7 ka8, .bool kb1, .slice kb2 kb3 kb4, .bool kb5, .slice kb6 kb7 kb8, .bool kc1, .slice kc2 kc3 kc4, .bool kc5, .slice kc6 kc7 kc8, .bool kd1, .slice kd2 kd3 kd4, .bool kd5, .slice kd6 kd7 kd8] _ ownK Tryz.underlying30 rfl (by kernel_rfl) ?_
           skip)
        )
      refine (VA _ (kk.trans keepsB)).mono ?_
      rintro e w1 ⟨rfl, hb1⟩
      have st : Steps _ w1 := hb1
      have B : Below w.heap.size w w1 := belowA st
      have kp : Keeps w w1 := Keeps.then_ keepsB st
      replace kk := kk.trans kp
      have nt : Blk w1 (w.heap.size) 30 #[.bool ka1, .slice ka2 ka3 ka4, .bool ka5, .slice ka6 ka7 ka8, .bool kb1, .slice kb2 kb3 kb4, .bool kb5, .slice kb6 kb7 kb8, .bool kc1, .slice kc2 kc3 kc4, .bool kc5, .slice kc6 kc7 kc8, .bool kd1, .slice kd2 kd3 kd4, .bool kd5, .slice kd6 kd7 kd8] := Blk.stepsK st
      have ni : Blk w1 (w.heap.size + 1) 23 #[.int .i64 px, .int .i64 py] := Blk.stepsK st
      have nr : Blk w1 (w.heap.size + 1 + 1) 28 #[.bool false, .slice none 0 0, .bool false, .slice none 0 0] := Blk.stepsK st
      have nq : Blk w1 (w.heap.size + 1 + 1 + 1) 28 #[.bool false, .slice none 0 0, .bool false, .slice none 0 0] := Blk.stepsK st
      have ot := nt
      clear nt
      have oi := ni
      clear ni
      have or := nr
      clear nr
      have oq := nq
      clear nq
      clear kp
      clear st
      have lt := ot.lt
      have ci0 := oi.q0
      have ci1 := oi.q1
      have li := oi.lt
      have lr := or.lt
      have lq := oq.lt
      go_wp2_with fail
      refine (ON _).mono ?_
      rintro e w2 ⟨rfl, hb2⟩
      have st : Steps _ w2 := hb2
      have sk : Below w1.heap.size w1 w2 := belowA st
      replace B := below_steps B (Nat.le_refl _) sk
      replace ot := ot.steps sk
      replace oi := oi.steps sk
      replace or := or.steps sk
      replace oq := oq.steps sk
      replace kk := kk.then_ sk
      clear st sk lt ci0 ci1 li lr lq
      have lt := ot.lt
      have li := oi.lt
      have cr0 := or.q0
      have cr1 := or.q1
      have cr2 := or.q2
      have cr3 := or.q3
      have fr := or.fr
      have lr := or.lt
      have cq0 := oq.q0
      have cq1 := oq.q1
      have cq2 := oq.q2
      have cq3 := oq.q3
      have fq := oq.fr
      have lq := oq.lt
      dsimp only; repeat' (first | go_values | go_skip | go_guarded | go_step | go_upon)
      refine bodyPost_ret (by simp [results, Tryz.results14, go_sem, lt, li, cr0, cr1, cr2, cr3, fr, lr, cq0, cq1, cq2, cq3, fq, lq]; rfl) rfl ?_
      exact ⟨_, _, rfl, rfl, rfl, belowB⟩
end Go.Proofs.YtffmbepfbienaaaGreat
namespace Go.Proofs.YtffmbepfbienaaaGreat
open Go.RowKit
set_option maxHeartbeats 6400000 in
set_option maxRecDepth 1000000 in
theorem rOf21 (ax ay bx b_y px py qx qy : Int) (w : World) (ra : (-9223372036854775808 ≤ ax ∧ ax ≤ 9223372036854775807) ∧ (-9223372036854775808 ≤ ay ∧ ay ≤ 9223372036854775807)) (rb : (-9223372036854775808 ≤ bx ∧ bx ≤ 9223372036854775807) ∧ (-9223372036854775808 ≤ b_y ∧ b_y ≤ 9223372036854775807)) (ri : (-9223372036854775808 ≤ px ∧ px ≤ 9223372036854775807) ∧ (-9223372036854775808 ≤ py ∧ py ≤ 9223372036854775807)) (rj : (-9223372036854775808 ≤ qx ∧ qx ≤ 9223372036854775807) ∧ (-9223372036854775808 ≤ qy ∧ qy ≤ 9223372036854775807)) :
    Calls Tryz.prog 12 #[.agg #[.int .i64 ax, .int .i64 ay], .agg #[.int .i64 bx, .int .i64 b_y], .agg #[.int .i64 px, .int .i64 py], .agg #[.int .i64 qx, .int .i64 qy]] w fun e w' => ∃ v, e = .returned (.tuple #[v, .int .i64 (ofS (ax, ay) (bx, b_y) (px, py) (qx, qy)).1]) ∧ SimO w' v (ofS (ax, ay) (bx, b_y) (px, py) (qx, qy)).2 ∧ Steps w w' := by
  have O0 : ∀ w', Calls Tryz.prog 39 #[.agg #[.int .i64 ax, .int .i64 ay]] w' fun e w2 => e = .returned (.bool (decide (okP (ax, ay)))) ∧ Steps w' w2 := fun w' => rone ax ay w' ra.1 ra.2
  have O1 : ∀ w', Calls Tryz.prog 39 #[.agg #[.int .i64 bx, .int .i64 b_y]] w' fun e w2 => e = .returned (.bool (decide (okP (bx, b_y)))) ∧ Steps w' w2 := fun w' => rone bx b_y w' rb.1 rb.2
  have O2 : ∀ w', Calls Tryz.prog 39 #[.agg #[.int .i64 px, .int .i64 py]] w' fun e w2 => e = .returned (.bool (decide (okP (px, py)))) ∧ Steps w' w2 := fun w' => rone px py w' ri.1 ri.2
  have O3 : ∀ w', Calls Tryz.prog 39 #[.agg #[.int .i64 qx, .int .i64 qy]] w' fun e w2 => e = .returned (.bool (decide (okP (qx, qy)))) ∧ Steps w' w2 := fun w' => rone qx qy w' rj.1 rj.2
  have qe : ∀ W, (Op.equalIn 10000 23 (.agg #[.int .i64 ax, .int .i64 ay]) (.agg #[.int .i64 bx, .int .i64 b_y])).run Tryz.prog W = .ok (ax == bx && ay == b_y) W := fun W => eq_ptG ax ay bx b_y W
  have AL : okP (ax, ay) → okP (bx, b_y) → okP (px, py) → okP (qx, qy) → (ax == bx && ay == b_y) = true → ofS (ax, ay) (bx, b_y) (px, py) (qx, qy) = (18, none) := fun h1 h2 h3 h4 h5 => by
    simp only [Bool.and_eq_true, beq_iff_eq] at h5
    unfold ofS; rw [if_pos ⟨h1, h2, h3, h4⟩, if_pos (by rw [h5.1, h5.2])]
  have AN : okP (ax, ay) → okP (bx, b_y) → okP (px, py) → okP (qx, qy) → (ax == bx && ay == b_y) = false → ofS (ax, ay) (bx, b_y) (px, py) (qx, qy) = (0, some (simT (ax, ay) (bx, b_y) (px, py) (qx, qy))) ∧ ∀ w', Calls Tryz.prog 40 #[.agg #[.int .i64 ax, .int .i64 ay], .agg #[.int .i64 bx, .int .i64 b_y], .agg #[.int .i64 px, .int .i64 py], .agg #[.int .i64 qx, .int .i64 qy]] w' fun e w2 => ∃ v, e = .returned v ∧ SimR w2 v (simT (ax, ay) (bx, b_y) (px, py) (qx, qy)) ∧ Steps w' w2 := fun h1 h2 h3 h4 h5 => by
    have hne : ¬ ((ax, ay) : Int × Int) = (bx, b_y) := fun e => by simp only [Prod.mk.injEq] at e; simp [e.1, e.2] at h5
    refine ⟨by unfold ofS; rw [if_pos ⟨h1, h2, h3, h4⟩, if_neg hne], fun w' => prof w' h1 h2 h3 h4 (csq_pt hne)⟩
  have N0 : ¬ okP (ax, ay) → ofS (ax, ay) (bx, b_y) (px, py) (qx, qy) = (8, none) := fun h => by unfold ofS; rw [if_neg (fun g => h g.1)]
  have N1 : ¬ okP (bx, b_y) → ofS (ax, ay) (bx, b_y) (px, py) (qx, qy) = (8, none) := fun h => by unfold ofS; rw [if_neg (fun g => h g.2.1)]
  have N2 : ¬ okP (px, py) → ofS (ax, ay) (bx, b_y) (px, py) (qx, qy) = (8, none) := fun h => by unfold ofS; rw [if_neg (fun g => h g.2.2.1)]
  have N3 : ¬ okP (qx, qy) → ofS (ax, ay) (bx, b_y) (px, py) (qx, qy) = (8, none) := fun h => by unfold ofS; rw [if_neg (fun g => h g.2.2.2)]
  generalize ofS (ax, ay) (bx, b_y) (px, py) (qx, qy) = OF at *
  generalize simT (ax, ay) (bx, b_y) (px, py) (qx, qy) = T at *
  generalize hEE : (ax == bx && ay == b_y) = E at *
  obtain ⟨s0, hs0⟩ : ∃ s, decide (okP (ax, ay)) = s := ⟨_, rfl⟩
  rw [hs0] at O0
  have M0 : s0 = false → OF = (8, none) := fun e => N0 (of_decide_eq_false (hs0.trans e))
  obtain ⟨s1, hs1⟩ : ∃ s, decide (okP (bx, b_y)) = s := ⟨_, rfl⟩
  rw [hs1] at O1
  have M1 : s1 = false → OF = (8, none) := fun e => N1 (of_decide_eq_false (hs1.trans e))
  obtain ⟨s2, hs2⟩ : ∃ s, decide (okP (px, py)) = s := ⟨_, rfl⟩
  rw [hs2] at O2
  have M2 : s2 = false → OF = (8, none) := fun e => N2 (of_decide_eq_false (hs2.trans e))
  obtain ⟨s3, hs3⟩ : ∃ s, decide (okP (qx, qy)) = s := ⟨_, rfl⟩
  rw [hs3] at O3
  have M3 : s3 = false → OF = (8, none) := fun e => N3 (of_decide_eq_false (hs3.trans e))
  have AL' : s0 = true → s1 = true → s2 = true → s3 = true → E = true → OF = (18, none) := fun e0 e1 e2 e3 e => AL (of_decide_eq_true (hs0.trans e0)) (of_decide_eq_true (hs1.trans e1)) (of_decide_eq_true (hs2.trans e2)) (of_decide_eq_true (hs3.trans e3)) e
  have AN' := fun (e0 : s0 = true) (e1 : s1 = true) (e2 : s2 = true) (e3 : s3 = true) (e : E = false) => AN (of_decide_eq_true (hs0.trans e0)) (of_decide_eq_true (hs1.trans e1)) (of_decide_eq_true (hs2.trans e2)) (of_decide_eq_true (hs3.trans e3)) e
  clear AL AN N0 N1 N2 N3 hs0 hs1 hs2 hs3 hEE ra rb ri rj
  go_enter Tryz.func12, Tryz.ntmps12
  go_wp2_with fail
  refine (O0 _).mono ?_
  rintro e w1 ⟨rfl, hb1⟩
  have st : Steps _ w1 := hb1
  have B : Below w.heap.size w w1 := belowA st
  have na : Blk w1 (w.heap.size) 23 #[.int .i64 ax, .int .i64 ay] := Blk.stepsK st
  have nb : Blk w1 (w.heap.size + 1) 23 #[.int .i64 bx, .int .i64 b_y] := Blk.stepsK st
  have ni : Blk w1 (w.heap.size + 1 + 1) 23 #[.int .i64 px, .int .i64 py] := Blk.stepsK st
  have nj : Blk w1 (w.heap.size + 1 + 1 + 1) 23 #[.int .i64 qx, .int .i64 qy] := Blk.stepsK st
  have nr : Blk w1 (w.heap.size + 1 + 1 + 1 + 1) 30 #[.bool false, .slice none 0 0, .bool false, .slice none 0 0, .bool false, .slice none 0 0, .bool false, .slice none 0 0, .bool false, .slice none 0 0, .bool false, .slice none 0 0, .bool false, .slice none 0 0, .bool false, .slice none 0 0] := Blk.stepsK st
  have oa := na
  clear na
  have ob := nb
  clear nb
  have oi := ni
  clear ni
  have oj := nj
  clear nj
  have or := nr
  clear nr
  clear st
  have la := oa.lt
  have cb0 := ob.q0
  have cb1 := ob.q1
  have lb := ob.lt
  have li := oi.lt
  have lj := oj.lt
  have lr := or.lt
  cases s0 with
  | false =>
    have e0 := M0 rfl
    subst e0
    clear AL' AN' M0 M1 M2 M3
    go_wp2_with (first
      | ((with_reducible show wpList _ _ _ (⟨some 28, _, _, _, _, _⟩ :: _) _ _)
         refine build_big rfl 30 #[] rfl #[.bool false, .slice none 0 0, .bool false, .slice none 0 0, .bool false, .slice none 0 0, .bool false, .slice none 0 0, .bool false, .slice none 0 0, .bool false, .slice none 0 0, .bool false, .slice none 0 0, .bool false, .slice none 0 0] (by kernel_rfl) ?_
         skip)
      | ((with_reducible show wpList _ _ _ (⟨none, .store _ _ _, _, _, _, _⟩ :: _) _ _)
         refine store_big rfl 30 (.tmp 8) (.tmp 28) rfl (w.heap.size + 1 + 1 + 1 + 1) #[.bool false, .slice none 0 0, .bool false, .slice none 0 0, .bool false, .slice none 0 0, .bool false, .slice none 0 0, .bool false, .slice none 0 0, .bool false, .slice none 0 0, .bool false, .slice none 0 0, .bool false, .slice none 0 0] rfl rfl 30 #[.bool false, .slice none 0 0, .bool false, .slice none 0 0, .bool false, .slice none 0 0, .bool false, .slice none 0 0, .bool false, .slice none 0 0, .bool false, .slice none 0 0, .bool false, .slice none 0 0, .bool false, .slice none 0 0] ownK (by kernel_rfl) rfl (by simp [Value.oneCell']) (fun w2 hrow => ?_)
         have Bn : Below w.heap.size w w2 := hrow.below belowB (by omega)
         have na : Blk w2 (w.heap.size) 23 #[.int .i64 ax, .int .i64 ay] := hrow.far ownK (show w.heap.size ≠ w.heap.size + 1 + 1 + 1 + 1 by omega)
         have nb : Blk w2 (w.heap.size + 1) 23 #[.int .i64 bx, .int .i64 b_y] := hrow.far ownK (show w.heap.size + 1 ≠ w.heap.size + 1 + 1 + 1 + 1 by omega)
         have ni : Blk w2 (w.heap.size + 1 + 1) 23 #[.int .i64 px, .int .i64 py] := hrow.far ownK (show w.heap.size + 1 + 1 ≠ w.heap.size + 1 + 1 + 1 + 1 by omega)
         have nj : Blk w2 (w.heap.size + 1 + 1 + 1) 23 #[.int .i64 qx, .int .i64 qy] := hrow.far ownK (show w.heap.size + 1 + 1 + 1 ≠ w.heap.size + 1 + 1 + 1 + 1 by omega)
         have nr : Blk w2 (w.heap.size + 1 + 1 + 1 + 1) 30 #[.bool false, .slice none 0 0, .bool false, .slice none 0 0, .bool false, .slice none 0 0, .bool false, .slice none 0 0, .bool false, .slice none 0 0, .bool false, .slice none 0 0, .bool false, .slice none 0 0, .bool false, .slice none 0 0] := hrow.blk
         clear la cb0 cb1 lb li lj lr
         replace B := Bn
         clear Bn hrow
         replace oa := na
         clear na
         replace ob := nb
         clear nb
         replace oi := ni
         clear ni
         replace oj := nj
         clear nj
         replace or := nr
         clear nr
         skip)
      )
    skip
    refine bodyPost_ret (results_row2 rfl _ _ (w.heap.size + 1 + 1 + 1 + 1) rfl (cs := #[.bool false, .slice none 0 0, .bool false, .slice none 0 0, .bool false, .slice none 0 0, .bool false, .slice none 0 0, .bool false, .slice none 0 0, .bool false, .slice none 0 0, .bool false, .slice none 0 0, .bool false, .slice none 0 0]) ownK Tryz.underlying30 rfl (by kernel_rfl)) rfl ?_
    exact ⟨_, rfl, rfl, belowB⟩
  | true =>
    go_wp2_with fail
    refine (O1 _).mono ?_
    rintro e w2 ⟨rfl, hb2⟩
    have st : Steps _ w2 := hb2
    have sk : Below w1.heap.size w1 w2 := belowA st
    replace B := below_steps B (Nat.le_refl _) sk
    replace oa := oa.steps sk
    replace ob := ob.steps sk
    replace oi := oi.steps sk
    replace oj := oj.steps sk
    replace or := or.steps sk
    clear st sk la cb0 cb1 lb li lj lr
    have la := oa.lt
    have lb := ob.lt
    have ci0 := oi.q0
    have ci1 := oi.q1
    have li := oi.lt
    have lj := oj.lt
    have lr := or.lt
    cases s1 with
    | false =>
      have e0 := M1 rfl
      subst e0
      clear AL' AN' M0 M1 M2 M3
      go_wp2_with (first
        | ((with_reducible show wpList _ _ _ (⟨some 28, _, _, _, _, _⟩ :: _) _ _)
           refine build_big rfl 30 #[] rfl #[.bool false, .slice none 0 0, .bool false, .slice none 0 0, .bool false, .slice none 0 0, .bool false, .slice none 0 0, .bool false, .slice none 0 0, .bool false, .slice none 0 0, .bool false, .slice none 0 0, .bool false, .slice none 0 0] (by kernel_rfl) ?_
           skip)
        | ((with_reducible show wpList _ _ _ (⟨none, .store _ _ _, _, _, _, _⟩ :: _) _ _)
           refine store_big rfl 30 (.tmp 8) (.tmp 28) rfl (w.heap.size + 1 + 1 + 1 + 1) #[.bool false, .slice none 0 0, .bool false, .slice none 0 0, .bool false, .slice none 0 0, .bool false, .slice none 0 0, .bool false, .slice none 0 0, .bool false, .slice none 0 0, .bool false, .slice none 0 0, .bool false, .slice none 0 0] rfl rfl 30 #[.bool false, .slice none 0 0, .bool false, .slice none 0 0, .bool false, .slice none 0 0, .bool false, .slice none 0 0, .bool false, .slice none 0 0, .bool false, .slice none 0 0, .bool false, .slice none 0 0, .bool false, .slice none 0 0] ownK (by kernel_rfl) rfl (by simp [Value.oneCell']) (fun w3 hrow => ?_)
           have Bn : Below w.heap.size w w3 := hrow.below belowB (by omega)
           have na : Blk w3 (w.heap.size) 23 #[.int .i64 ax, .int .i64 ay] := hrow.far ownK (show w.heap.size ≠ w.heap.size + 1 + 1 + 1 + 1 by omega)
           have nb : Blk w3 (w.heap.size + 1) 23 #[.int .i64 bx, .int .i64 b_y] := hrow.far ownK (show w.heap.size + 1 ≠ w.heap.size + 1 + 1 + 1 + 1 by omega)
           have ni : Blk w3 (w.heap.size + 1 + 1) 23 #[.int .i64 px, .int .i64 py] := hrow.far ownK (show w.heap.size + 1 + 1 ≠ w.heap.size + 1 + 1 + 1 + 1 by omega)
           have nj : Blk w3 (w.heap.size + 1 + 1 + 1) 23 #[.int .i64 qx, .int .i64 qy] := hrow.far ownK (show w.heap.size + 1 + 1 + 1 ≠ w.heap.size + 1 + 1 + 1 + 1 by omega)
           have nr : Blk w3 (w.heap.size + 1 + 1 + 1 + 1) 30 #[.bool false, .slice none 0 0, .bool false, .slice none 0 0, .bool false, .slice none 0 0, .bool false, .slice none 0 0, .bool false, .slice none 0 0, .bool false, .slice none 0 0, .bool false, .slice none 0 0, .bool false, .slice none 0 0] := hrow.blk
           clear la lb ci0 ci1 li lj lr
           replace B := Bn
           clear Bn hrow
           replace oa := na
           clear na
           replace ob := nb
           clear nb
           replace oi := ni
           clear ni
           replace oj := nj
           clear nj
           replace or := nr
           clear nr
           skip)
        )
      skip
      refine bodyPost_ret (results_row2 rfl _ _ (w.heap.size + 1 + 1 + 1 + 1) rfl (cs := #[.bool false, .slice none 0 0, .bool false, .slice none 0 0, .bool false, .slice none 0 0, .bool false, .slice none 0 0, .bool false, .slice none 0 0, .bool false, .slice none 0 0, .bool false, .slice none 0 0, .bool false, .slice none 0 0]) ownK Tryz.underlying30 rfl (by kernel_rfl)) rfl ?_
      exact ⟨_, rfl, rfl, belowB⟩
    | true =>
      go_wp2_with fail
      refine (O2 _).mono ?_
      rintro e w3 ⟨rfl, hb3⟩
      have st : Steps _ w3 := hb3
      have sk : Below w2.heap.size w2 w3 := belowA st
      replace B := below_steps B (Nat.le_refl _) sk
      replace oa := oa.steps sk
      replace ob := ob.steps sk
      replace oi := oi.steps sk
      replace oj := oj.steps sk
      replace or := or.steps sk
      clear st sk la lb ci0 ci1 li lj lr
      have la := oa.lt
      have lb := ob.lt
      have li := oi.lt
      have cj0 := oj.q0
      have cj1 := oj.q1
      have lj := oj.lt
      have lr := or.lt
      cases s2 with
      | false =>
        have e0 := M2 rfl
        subst e0
        clear AL' AN' M0 M1 M2 M3
        go_wp2_with (first
          | ((with_reducible show wpList _ _ _ (⟨some 28, _, _, _, _, _⟩ :: _) _ _)
             refine build_big rfl 30 #[] rfl #[.bool false, .slice none 0 0, .bool false, .slice none 0 0, .bool false, .slice none 0 0, .bool false, .slice none 0 0, .bool false, .slice none 0 0, .bool false, .slice none 0 0, .bool false, .slice none 0 0, .bool false, .slice none 0 0] (by kernel_rfl) ?_
             skip)
          | ((with_reducible show wpList _ _ _ (⟨none, .store _ _ _, _, _, _, _⟩ :: _) _ _)
             refine store_big rfl 30 (.tmp 8) (.tmp 28) rfl (w.heap.size + 1 + 1 + 1 + 1) #[.bool false, .slice none 0 0, .bool false, .slice none 0 0, .bool false, .slice none 0 0, .bool false, .slice none 0 0, .bool false, .slice none 0 0, .bool false, .slice none 0 0, .bool false, .slice none 0 0, .bool false, .slice none 0 0] rfl rfl 30 #[.bool false, .slice none 0 0, .bool false, .slice none 0 0, .bool false, .slice none 0 0, .bool false, .slice none 0 0, .bool false, .slice none 0 0, .bool false, .slice none 0 0, .bool false, .slice none 0 0, .bool false, .slice none 0 0] ownK (by kernel_rfl) rfl (by simp [Value.oneCell']) (fun w4 hrow => ?_)
             have Bn : Below w.heap.size w w4 := hrow.below belowB (by omega)
             have na : Blk w4 (w.heap.size) 23 #[.int .i64 ax, .int .i64 ay] := hrow.far ownK (show w.heap.size ≠ w.heap.size + 1 + 1 + 1 + 1 by omega)
             have nb : Blk w4 (w.heap.size + 1) 23 #[.int .i64 bx, .int .i64 b_y] := hrow.far ownK (show w.heap.size + 1 ≠ w.heap.size + 1 + 1 + 1 + 1 by omega)
             have ni : Blk w4 (w.heap.size + 1 + 1) 23 #[.int .i64 px, .int .i64 py] := hrow.far ownK (show w.heap.size + 1 + 1 ≠ w.heap.size + 1 + 1 + 1 + 1 by omega)
             have nj : Blk w4 (w.heap.size + 1 + 1 + 1) 23 #[.int .i64 qx, .int .i64 qy] := hrow.far ownK (show w.heap.size + 1 + 1 + 1 ≠ w.heap.size + 1 + 1 + 1 + 1 by omega)
             have nr : Blk w4 (w.heap.size + 1 + 1 + 1 + 1) 30 #[.bool false, .slice none 0 0, .bool false, .slice none 0 0, .bool false, .slice none 0 0, .bool false, .slice none 0 0, .bool false, .slice none 0 0, .bool false, .slice none 0 0, .bool false, .slice none 0 0, .bool false, .slice none 0 0] := hrow.blk
             clear la lb li cj0 cj1 lj lr
             replace B := Bn
             clear Bn hrow
             replace oa := na
             clear na
             replace ob := nb
             clear nb
             replace oi := ni
             clear ni
             replace oj := nj
             clear nj
             replace or := nr
             clear nr
             skip)
          )
        skip
        refine bodyPost_ret (results_row2 rfl _ _ (w.heap.size + 1 + 1 + 1 + 1) rfl (cs := #[.bool false, .slice none 0 0, .bool false, .slice none 0 0, .bool false, .slice none 0 0, .bool false, .slice none 0 0, .bool false, .slice none 0 0, .bool false, .slice none 0 0, .bool false, .slice none 0 0, .bool false, .slice none 0 0]) ownK Tryz.underlying30 rfl (by kernel_rfl)) rfl ?_
        exact ⟨_, rfl, rfl, belowB⟩
      | true =>
        go_wp2_with fail
        refine (O3 _).mono ?_
        rintro e w4 ⟨rfl, hb4⟩
        have st : Steps _ w4 := hb4
        have sk : Below w3.heap.size w3 w4 := belowA st
        replace B := below_steps B (Nat.le_refl _) sk
        replace oa := oa.steps sk
        replace ob := ob.steps sk
        replace oi := oi.steps sk
        replace oj := oj.steps sk
        replace or := or.steps sk
        clear st sk la lb li cj0 cj1 lj lr
        have ca0 := oa.q0
        have ca1 := oa.q1
        have la := oa.lt
        have cb0 := ob.q0
        have cb1 := ob.q1
        have lb := ob.lt
        have ci0 := oi.q0
        have ci1 := oi.q1
        have li := oi.lt
        have cj0 := oj.q0
        have cj1 := oj.q1
        have lj := oj.lt
        have lr := or.lt
        cases s3 with
        | false =>
          have e0 := M3 rfl
          subst e0
          clear AL' AN' M0 M1 M2 M3
          go_wp2_with (first
            | ((with_reducible show wpList _ _ _ (⟨some 28, _, _, _, _, _⟩ :: _) _ _)
               refine build_big rfl 30 #[] rfl #[.bool false, .slice none 0 0, .bool false, .slice none 0 0, .bool false, .slice none 0 0, .bool false, .slice none 0 0, .bool false, .slice none 0 0, .bool false, .slice none 0 0, .bool false, .slice none 0 0, .bool false, .slice none 0 0] (by kernel_rfl) ?_
               skip)
            | ((with_reducible show wpList _ _ _ (⟨none, .store _ _ _, _, _, _, _⟩ :: _) _ _)
               refine store_big rfl 30 (.tmp 8) (.tmp 28) rfl (w.heap.size + 1 + 1 + 1 + 1) #[.bool false, .slice none 0 0, .bool false, .slice none 0 0, .bool false, .slice none 0 0, .bool false, .slice none 0 0, .bool false, .slice none 0 0, .bool false, .slice none 0 0, .bool false, .slice none 0 0, .bool false, .slice none 0 0] rfl rfl 30 #[.bool false, .slice none 0 0, .bool false, .slice none 0 0, .bool false, .slice none 0 0, .bool false, .slice none 0 0, .bool false, .slice none 0 0, .bool false, .slice none 0 0, .bool false, .slice none 0 0, .bool false, .slice none 0 0] ownK (by kernel_rfl) rfl (by simp [Value.oneCell']) (fun w5 hrow => ?_)
               have Bn : Below w.heap.size w w5 := hrow.below belowB (by omega)
               have na : Blk w5 (w.heap.size) 23 #[.int .i64 ax, .int .i64 ay] := hrow.far ownK (show w.heap.size ≠ w.heap.size + 1 + 1 + 1 + 1 by omega)
               have nb : Blk w5 (w.heap.size + 1) 23 #[.int .i64 bx, .int .i64 b_y] := hrow.far ownK (show w.heap.size + 1 ≠ w.heap.size + 1 + 1 + 1 + 1 by omega)
               have ni : Blk w5 (w.heap.size + 1 + 1) 23 #[.int .i64 px, .int .i64 py] := hrow.far ownK (show w.heap.size + 1 + 1 ≠ w.heap.size + 1 + 1 + 1 + 1 by omega)
               have nj : Blk w5 (w.heap.size + 1 + 1 + 1) 23 #[.int .i64 qx, .int .i64 qy] := hrow.far ownK (show w.heap.size + 1 + 1 + 1 ≠ w.heap.size + 1 + 1 + 1 + 1 by omega)
               have nr : Blk w5 (w.heap.size + 1 + 1 + 1 + 1) 30 #[.bool false, .slice none 0 0, .bool false, .slice none 0 0, .bool false, .slice none 0 0, .bool false, .slice none 0 0, .bool false, .slice none 0 0, .bool false, .slice none 0 0, .bool false, .slice none 0 0, .bool false, .slice none 0 0] := hrow.blk
               clear ca0 ca1 la cb0 cb1 lb ci0 ci1 li cj0 cj1 lj lr
               replace B := Bn
               clear Bn hrow
               replace oa := na
               clear na
               replace ob := nb
               clear nb
               replace oi := ni
               clear ni
               replace oj := nj
               clear nj
               replace or := nr
               clear nr
               skip)
            )
          skip
          refine bodyPost_ret (results_row2 rfl _ _ (w.heap.size + 1 + 1 + 1 + 1) rfl (cs := #[.bool false, .slice none 0 0, .bool false, .slice none 0 0, .bool false, .slice none 0 0, .bool false, .slice none 0 0, .bool false, .slice none 0 0, .bool false, .slice none 0 0, .bool false, .slice none 0 0, .bool false, .slice none 0 0]) ownK Tryz.underlying30 rfl (by kernel_rfl)) rfl ?_
          exact ⟨_, rfl, rfl, belowB⟩
        | true =>
          clear M0 M1 M2 M3 O0 O1 O2 O3
          cases E with
          | true =>
            have e0 := AL' (by simp) (by simp) (by simp) (by simp) (by simp)
            subst e0
            clear AL' AN'
            go_wp2_with (first
              | ((with_reducible show wpList _ _ _ (⟨some 32, _, _, _, _, _⟩ :: _) _ _)
                 refine build_big rfl 30 #[] rfl #[.bool false, .slice none 0 0, .bool false, .slice none 0 0, .bool false, .slice none 0 0, .bool false, .slice none 0 0, .bool false, .slice none 0 0, .bool false, .slice none 0 0, .bool false, .slice none 0 0, .bool false, .slice none 0 0] (by kernel_rfl) ?_
                 skip)
              | ((with_reducible show wpList _ _ _ (⟨none, .store _ _ _, _, _, _, _⟩ :: _) _ _)
                 refine store_big rfl 30 (.tmp 8) (.tmp 32) rfl (w.heap.size + 1 + 1 + 1 + 1) #[.bool false, .slice none 0 0, .bool false, .slice none 0 0, .bool false, .slice none 0 0, .bool false, .slice none 0 0, .bool false, .slice none 0 0, .bool false, .slice none 0 0, .bool false, .slice none 0 0, .bool false, .slice none 0 0] rfl rfl 30 #[.bool false, .slice none 0 0, .bool false, .slice none 0 0, .bool false, .slice none 0 0, .bool false, .slice none 0 0, .bool false, .slice none 0 0, .bool false, .slice none 0 0, .bool false, .slice none 0 0, .bool false, .slice none 0 0] ownK (by kernel_rfl) rfl (by simp [Value.oneCell']) (fun w5 hrow => ?_)
                 have Bn : Below w.heap.size w w5 := hrow.below belowB (by omega)
                 have na : Blk w5 (w.heap.size) 23 #[.int .i64 ax, .int .i64 ay] := hrow.far ownK (show w.heap.size ≠ w.heap.size + 1 + 1 + 1 + 1 by omega)
                 have nb : Blk w5 (w.heap.size + 1) 23 #[.int .i64 bx, .int .i64 b_y] := hrow.far ownK (show w.heap.size + 1 ≠ w.heap.size + 1 + 1 + 1 + 1 by omega)
                 have ni : Blk w5 (w.heap.size + 1 + 1) 23 #[.int .i64 px, .int .i64 py] := hrow.far ownK (show w.heap.size + 1 + 1 ≠ w.heap.size + 1 + 1 + 1 + 1 by omega)
                 have nj : Blk w5 (w.heap.size + 1 + 1 + 1) 23 #[.int .i64 qx, .int .i64 qy] := hrow.far ownK (show w.heap.size + 1 + 1 + 1 ≠ w.heap.size + 1 + 1 + 1 + 1 by omega)
                 have nr : Blk w5 (w.heap.size + 1 + 1 + 1 + 1) 30 #[.bool false, .slice none 0 0, .bool false, .slice none 0 0, .bool false, .slice none 0 0, .bool false, .slice none 0 0, .bool false, .slice none 0 0, .bool false, .slice none 0 0, .bool false, .slice none 0 0, .bool false, .slice none 0 0] := hrow.blk
                 clear ca0 ca1 la cb0 cb1 lb ci0 ci1 li cj0 cj1 lj lr
                 replace B := Bn
                 clear Bn hrow
                 replace oa := na
                 clear na
                 replace ob := nb
                 clear nb
                 replace oi := ni
                 clear ni
                 replace oj := nj
                 clear nj
                 replace or := nr
                 clear nr
                 skip)
              )
            skip
            refine bodyPost_ret (results_row2 rfl _ _ (w.heap.size + 1 + 1 + 1 + 1) rfl (cs := #[.bool false, .slice none 0 0, .bool false, .slice none 0 0, .bool false, .slice none 0 0, .bool false, .slice none 0 0, .bool false, .slice none 0 0, .bool false, .slice none 0 0, .bool false, .slice none 0 0, .bool false, .slice none 0 0]) ownK Tryz.underlying30 rfl (by kernel_rfl)) rfl ?_
            exact ⟨_, rfl, rfl, belowB⟩
          | false =>
            obtain ⟨e0, SM⟩ := AN' (by simp) (by simp) (by simp) (by simp) (by simp)
            subst e0
            clear AL' AN'
            go_wp2_with fail
            refine (SM _).mono ?_
            rintro e w5 ⟨vs, rfl, hvs, hb5⟩
            have st : Steps _ w5 := hb5
            have sk : Below w4.heap.size w4 w5 := belowA st
            replace B := below_steps B (Nat.le_refl _) sk
            replace oa := oa.steps sk
            replace ob := ob.steps sk
            replace oi := oi.steps sk
            replace oj := oj.steps sk
            replace or := or.steps sk
            clear st sk ca0 ca1 la cb0 cb1 lb ci0 ci1 li cj0 cj1 lj lr
            obtain ⟨ska1, ska2, ska3, ska4, ska5, ska6, ska7, ska8, skb1, skb2, skb3, skb4, skb5, skb6, skb7, skb8, skc1, skc2, skc3, skc4, skc5, skc6, skc7, skc8, skd1, skd2, skd3, skd4, skd5, skd6, skd7, skd8, rfl, h0s, h1s, h2s, h3s⟩ := hvs
            have Fs0 := Hid.mk_ h0s
            have Fs1 := Hid.mk_ h1s
            have Fs2 := Hid.mk_ h2s
            have Fs3 := Hid.mk_ h3s
            clear h0s h1s h2s h3s
            go_wp2_with (first
              | ((with_reducible show wpList _ _ _ (⟨none, .store _ _ _, _, _, _, _⟩ :: _) _ _)
                 refine store_big rfl 30 (.tmp 8) (.tmp 37) rfl (w.heap.size + 1 + 1 + 1 + 1) #[.bool ska1, .slice ska2 ska3 ska4, .bool ska5, .slice ska6 ska7 ska8, .bool skb1, .slice skb2 skb3 skb4, .bool skb5, .slice skb6 skb7 skb8, .bool skc1, .slice skc2 skc3 skc4, .bool skc5, .slice skc6 skc7 skc8, .bool skd1, .slice skd2 skd3 skd4, .bool skd5, .slice skd6 skd7 skd8] rfl rfl 30 #[.bool false, .slice none 0 0, .bool false, .slice none 0 0, .bool false, .slice none 0 0, .bool false, .slice none 0 0, .bool false, .slice none 0 0, .bool false, .slice none 0 0, .bool false, .slice none 0 0, .bool false, .slice none 0 0] ownK (by kernel_rfl) rfl (by simp [Value.oneCell']) (fun w6 hrow => ?_)
                 have Bn : Below w.heap.size w w6 := hrow.below belowB (by omega)
                 have kp : Keeps w5 w6 := Keeps.trans keepsB (hrow.keeps rfl)
                 have na : Blk w6 (w.heap.size) 23 #[.int .i64 ax, .int .i64 ay] := hrow.far ownK (show w.heap.size ≠ w.heap.size + 1 + 1 + 1 + 1 by omega)
                 have nb : Blk w6 (w.heap.size + 1) 23 #[.int .i64 bx, .int .i64 b_y] := hrow.far ownK (show w.heap.size + 1 ≠ w.heap.size + 1 + 1 + 1 + 1 by omega)
                 have ni : Blk w6 (w.heap.size + 1 + 1) 23 #[.int .i64 px, .int .i64 py] := hrow.far ownK (show w.heap.size + 1 + 1 ≠ w.heap.size + 1 + 1 + 1 + 1 by omega)
                 have nj : Blk w6 (w.heap.size + 1 + 1 + 1) 23 #[.int .i64 qx, .int .i64 qy] := hrow.far ownK (show w.heap.size + 1 + 1 + 1 ≠ w.heap.size + 1 + 1 + 1 + 1 by omega)
                 have nr : Blk w6 (w.heap.size + 1 + 1 + 1 + 1) 30 #[.bool ska1, .slice ska2 ska3 ska4, .bool ska5, .slice ska6 ska7 ska8, .bool skb1, .slice skb2 skb3 skb4, .bool skb5, .slice skb6 skb7 skb8, .bool skc1, .slice skc2 skc3 skc4, .bool skc5, .slice skc6 skc7 skc8, .bool skd1, .slice skd2 skd3 skd4, .bool skd5, .slice skd6 skd7 skd8] := hrow.blk
                 replace B := Bn
                 clear Bn hrow
                 replace oa := na
                 clear na
                 replace ob := nb
                 clear nb
                 replace oi := ni
                 clear ni
                 replace oj := nj
                 clear nj
                 replace or := nr
                 clear nr
                 replace Fs0 := Hid.mk_ (Fs0.out.keeps kp)
                 replace Fs1 := Hid.mk_ (Fs1.out.keeps kp)
                 replace Fs2 := Hid.mk_ (Fs2.out.keeps kp)
                 replace Fs3 := Hid.mk_ (Fs3.out.keeps kp)
                 clear kp
                 skip)
              )
            skip
            refine bodyPost_ret (results_row2 rfl _ _ (w.heap.size + 1 + 1 + 1 + 1) rfl (cs := #[.bool ska1, .slice ska2 ska3 ska4, .bool ska5, .slice ska6 ska7 ska8, .bool skb1, .slice skb2 skb3 skb4, .bool skb5, .slice skb6 skb7 skb8, .bool skc1, .slice skc2 skc3 skc4, .bool skc5, .slice skc6 skc7 skc8, .bool skd1, .slice skd2 skd3 skd4, .bool skd5, .slice skd6 skd7 skd8]) ownK Tryz.underlying30 rfl (by kernel_rfl)) rfl ?_
            exact ⟨_, rfl, ⟨_, _, _, _, _, _, _, _, _, _, _, _, _, _, _, _, _, _, _, _, _, _, _, _, _, _, _, _, _, _, _, _, rfl, Fs0.out.keeps keepsB, Fs1.out.keeps keepsB, Fs2.out.keeps keepsB, Fs3.out.keeps keepsB⟩, belowB⟩
end Go.Proofs.YtffmbepfbienaaaGreat
namespace Go.Proofs.YtffmbepfbienaaaGreat
open Go.RowKit
theorem SimO.keeps {w w' : World} {v : Value} {o : Option (Nat → Rat)} (h : SimO w v o) (k : Keeps w w') : SimO w' v o := by
  cases o with
  | none => exact h
  | some t => exact SimR.keeps h k
theorem SimO.shape {w : World} {v : Value} {o : Option (Nat → Rat)} (h : SimO w v o) : ∃ ka1 ka2 ka3 ka4 ka5 ka6 ka7 ka8 kb1 kb2 kb3 kb4 kb5 kb6 kb7 kb8 kc1 kc2 kc3 kc4 kc5 kc6 kc7 kc8 kd1 kd2 kd3 kd4 kd5 kd6 kd7 kd8, v = .agg #[.bool ka1, .slice ka2 ka3 ka4, .bool ka5, .slice ka6 ka7 ka8, .bool kb1, .slice kb2 kb3 kb4, .bool kb5, .slice kb6 kb7 kb8, .bool kc1, .slice kc2 kc3 kc4, .bool kc5, .slice kc6 kc7 kc8, .bool kd1, .slice kd2 kd3 kd4, .bool kd5, .slice kd6 kd7 kd8] := by
  cases o with
  | none => exact ⟨_, _, _, _, _, _, _, _, _, _, _, _, _, _, _, _, _, _, _, _, _, _, _, _, _, _, _, _, _, _, _, _, h⟩
  | some t => obtain ⟨ka1, ka2, ka3, ka4, ka5, ka6, ka7, ka8, kb1, kb2, kb3, kb4, kb5, kb6, kb7, kb8, kc1, kc2, kc3, kc4, kc5, kc6, kc7, kc8, kd1, kd2, kd3, kd4, kd5, kd6, kd7, kd8, rfl, _⟩ := h; exact ⟨ka1, ka2, ka3, ka4, ka5, ka6, ka7, ka8, kb1, kb2, kb3, kb4, kb5, kb6, kb7, kb8, kc1, kc2, kc3, kc4, kc5, kc6, kc7, kc8, kd1, kd2, kd3, kd4, kd5, kd6, kd7, kd8, rfl⟩
theorem FO.shape {w : World} {v : Value} {o : Option Rat} (h : FO w v o) : ∃ a s n c b t m d, v = .agg #[.bool a, .slice s n c, .bool b, .slice t m d] := by
  cases o with
  | none => exact ⟨_, _, _, _, _, _, _, _, h⟩
  | some r => exact FR.shape h
theorem FR.frn' {w : World} {a b c d : Value} {r : Rat} (h : FR w (.agg #[a, b, c, d]) r) : Frn w r.num r.den a b c d ∧ fits r.num ∧ fits (r.den : Int) := by
  have f := FR.fit h
  obtain ⟨a2, a3, a4, a6, a7, a8, e, h1, h2, _⟩ := FR.nums h
  simp only [Value.agg.injEq, Array.mk.injEq, List.cons.injEq, and_true] at e
  obtain ⟨rfl, rfl, rfl, rfl⟩ := e
  exact ⟨⟨h1, h2⟩, f.1, f.2⟩
theorem frn_zero (w : World) : Frn w 0 0 (.bool false) (.slice none 0 0) (.bool false) (.slice none 0 0) := ⟨Num.zero w, Num.zero w⟩
theorem fits_0 : fits 0 := fits_small64 (by decide) (by decide)
theorem rsameFO {va vb : Value} {o : Option Rat} (w : World) (h : FO w va o) (h' : FO w vb o) : Calls Tryz.prog 16 #[va, vb] w fun e w' => e = .returned (.bool true) ∧ Steps w w' := by
  cases o with
  | none =>
    obtain rfl : va = _ := h
    obtain rfl : vb = _ := h'
    exact rsameF w (frn_zero w) (frn_zero w) fits_0 fits_0
  | some r =>
    obtain ⟨a1, a2, a3, a4, a5, a6, a7, a8, rfl⟩ := FR.shape h
    obtain ⟨b1, b2, b3, b4, b5, b6, b7, b8, rfl⟩ := FR.shape h'
    obtain ⟨f1, g1, g2⟩ := FR.frn' h
    exact rsameF w f1 (FR.frn' h').1 g1 g2
set_option maxHeartbeats 6400000 in
set_option maxRecDepth 1000000 in
theorem rsame4S {ka1 ka5 kb1 kb5 kc1 kc5 kd1 kd5 : Bool} {ka2 ka6 kb2 kb6 kc2 kc6 kd2 kd6 : Option Addr} {ka3 ka4 ka7 ka8 kb3 kb4 kb7 kb8 kc3 kc4 kc7 kc8 kd3 kd4 kd7 kd8 : Nat} {ma1 ma5 mb1 mb5 mc1 mc5 md1 md5 : Bool} {ma2 ma6 mb2 mb6 mc2 mc6 md2 md6 : Option Addr} {ma3 ma4 ma7 ma8 mb3 mb4 mb7 mb8 mc3 mc4 mc7 mc8 md3 md4 md7 md8 : Nat} (w : World) (S0 : ∀ w', Keeps w w' → Calls Tryz.prog 16 #[.agg #[.bool ka1, .slice ka2 ka3 ka4, .bool ka5, .slice ka6 ka7 ka8], .agg #[.bool ma1, .slice ma2 ma3 ma4, .bool ma5, .slice ma6 ma7 ma8]] w' fun e w2 => e = .returned (.bool true) ∧ Steps w' w2) (S1 : ∀ w', Keeps w w' → Calls Tryz.prog 16 #[.agg #[.bool kb1, .slice kb2 kb3 kb4, .bool kb5, .slice kb6 kb7 kb8], .agg #[.bool mb1, .slice mb2 mb3 mb4, .bool mb5, .slice mb6 mb7 mb8]] w' fun e w2 => e = .returned (.bool true) ∧ Steps w' w2) (S2 : ∀ w', Keeps w w' → Calls Tryz.prog 16 #[.agg #[.bool kc1, .slice kc2 kc3 kc4, .bool kc5, .slice kc6 kc7 kc8], .agg #[.bool mc1, .slice mc2 mc3 mc4, .bool mc5, .slice mc6 mc7 mc8]] w' fun e w2 => e = .returned (.bool true) ∧ Steps w' w2) (S3 : ∀ w', Keeps w w' → Calls Tryz.prog 16 #[.agg #[.bool kd1, .slice kd2 kd3 kd4, .bool kd5, .slice kd6 kd7 kd8], .agg #[.bool md1, .slice md2 md3 md4, .bool md5, .slice md6 md7 md8]] w' fun e w2 => e = .returned (.bool true) ∧ Steps w' w2) :
    Calls Tryz.prog 15 #[.agg #[.bool ka1, .slice ka2 ka3 ka4, .bool ka5, .slice ka6 ka7 ka8, .bool kb1, .slice kb2 kb3 kb4, .bool kb5, .slice kb6 kb7 kb8, .bool kc1, .slice kc2 kc3 kc4, .bool kc5, .slice kc6 kc7 kc8, .bool kd1, .slice kd2 kd3 kd4, .bool kd5, .slice kd6 kd7 kd8], .agg #[.bool ma1, .slice ma2 ma3 ma4, .bool ma5, .slice ma6 ma7 ma8, .bool mb1, .slice mb2 mb3 mb4, .bool mb5, .slice mb6 mb7 mb8, .bool mc1, .slice mc2 mc3 mc4, .bool mc5, .slice mc6 mc7 mc8, .bool md1, .slice md2 md3 md4, .bool md5, .slice md6 md7 md8]] w fun e w' => e = .returned (.bool true) ∧ Steps w w' := by
  go_enter Tryz.func15, Tryz.ntmps15
  have kk := Keeps.refl w
  go_wp2_with fail
  refine (S0 _ (kk.trans keepsB)).mono ?_
  rintro e w1 ⟨rfl, hb1⟩
  have st : Steps _ w1 := hb1
  have B : Below w.heap.size w w1 := belowA st
  have kp : Keeps w w1 := Keeps.then_ keepsB st
  replace kk := kk.trans kp
  have nt : Blk w1 (w.heap.size) 30 #[.bool ka1, .slice ka2 ka3 ka4, .bool ka5, .slice ka6 ka7 ka8, .bool kb1, .slice kb2 kb3 kb4, .bool kb5, .slice kb6 kb7 kb8, .bool kc1, .slice kc2 kc3 kc4, .bool kc5, .slice kc6 kc7 kc8, .bool kd1, .slice kd2 kd3 kd4, .bool kd5, .slice kd6 kd7 kd8] := Blk.stepsK st
  have nu : Blk w1 (w.heap.size + 1) 30 #[.bool ma1, .slice ma2 ma3 ma4, .bool ma5, .slice ma6 ma7 ma8, .bool mb1, .slice mb2 mb3 mb4, .bool mb5, .slice mb6 mb7 mb8, .bool mc1, .slice mc2 mc3 mc4, .bool mc5, .slice mc6 mc7 mc8, .bool md1, .slice md2 md3 md4, .bool md5, .slice md6 md7 md8] := Blk.stepsK st
  have ot := nt
  clear nt
  have ou := nu
  clear nu
  clear kp
  clear st
  have ct0 := ot.q0
  have ct1 := ot.q1
  have ct2 := ot.q2
  have ct3 := ot.q3
  have ct4 := ot.q4
  have ct5 := ot.q5
  have ct6 := ot.q6
  have ct7 := ot.q7
  have ct8 := ot.q8
  have ct9 := ot.q9
  have ct10 := ot.q10
  have ct11 := ot.q11
  have ct12 := ot.q12
  have ct13 := ot.q13
  have ct14 := ot.q14
  have ct15 := ot.q15
  have lt := ot.lt
  have cu0 := ou.q0
  have cu1 := ou.q1
  have cu2 := ou.q2
  have cu3 := ou.q3
  have cu4 := ou.q4
  have cu5 := ou.q5
  have cu6 := ou.q6
  have cu7 := ou.q7
  have cu8 := ou.q8
  have cu9 := ou.q9
  have cu10 := ou.q10
  have cu11 := ou.q11
  have cu12 := ou.q12
  have cu13 := ou.q13
  have cu14 := ou.q14
  have cu15 := ou.q15
  have lu := ou.lt
  go_wp2_with fail
  refine (S1 _ (kk.trans keepsB)).mono ?_
  rintro e w2 ⟨rfl, hb2⟩
  have st : Steps _ w2 := hb2
  have sk : Below w1.heap.size w1 w2 := belowA st
  replace B := below_steps B (Nat.le_refl _) sk
  replace ot := ot.steps sk
  replace ou := ou.steps sk
  replace kk := kk.then_ sk
  clear st sk ct0 ct1 ct2 ct3 ct4 ct5 ct6 ct7 ct8 ct9 ct10 ct11 ct12 ct13 ct14 ct15 lt cu0 cu1 cu2 cu3 cu4 cu5 cu6 cu7 cu8 cu9 cu10 cu11 cu12 cu13 cu14 cu15 lu
  have ct0 := ot.q0
  have ct1 := ot.q1
  have ct2 := ot.q2
  have ct3 := ot.q3
  have ct4 := ot.q4
  have ct5 := ot.q5
  have ct6 := ot.q6
  have ct7 := ot.q7
  have ct8 := ot.q8
  have ct9 := ot.q9
  have ct10 := ot.q10
  have ct11 := ot.q11
  have ct12 := ot.q12
  have ct13 := ot.q13
  have ct14 := ot.q14
  have ct15 := ot.q15
  have lt := ot.lt
  have cu0 := ou.q0
  have cu1 := ou.q1
  have cu2 := ou.q2
  have cu3 := ou.q3
  have cu4 := ou.q4
  have cu5 := ou.q5
  have cu6 := ou.q6
  have cu7 := ou.q7
  have cu8 := ou.q8
  have cu9 := ou.q9
  have cu10 := ou.q10
  have cu11 := ou.q11
  have cu12 := ou.q12
  have cu13 := ou.q13
  have cu14 := ou.q14
  have cu15 := ou.q15
  have lu := ou.lt
  go_wp2_with fail
  refine (S2 _ (kk.trans keepsB)).mono ?_
  rintro e w3 ⟨rfl, hb3⟩
  have st : Steps _ w3 := hb3
  have sk : Below w2.heap.size w2 w3 := belowA st
  replace B := below_steps B (Nat.le_refl _) sk
  replace ot := ot.steps sk
  replace ou := ou.steps sk
  replace kk := kk.then_ sk
  clear st sk ct0 ct1 ct2 ct3 ct4 ct5 ct6 ct7 ct8 ct9 ct10 ct11 ct12 ct13 ct14 ct15 lt cu0 cu1 cu2 cu3 cu4 cu5 cu6 cu7 cu8 cu9 cu10 cu11 cu12 cu13 cu14 cu15 lu
  have ct0 := ot.q0
  have ct1 := ot.q1
  have ct2 := ot.q2
  have ct3 := ot.q3
  have ct4 := ot.q4
  have ct5 := ot.q5
  have ct6 := ot.q6
  have ct7 := ot.q7
  have ct8 := ot.q8
  have ct9 := ot.q9
  have ct10 := ot.q10
  have ct11 := ot.q11
  have ct12 := ot.q12
  have ct13 := ot.q13
  have ct14 := ot.q14
  have ct15 := ot.q15
  have lt := ot.lt
  have cu0 := ou.q0
  have cu1 := ou.q1
  have cu2 := ou.q2
  have cu3 := ou.q3
  have cu4 := ou.q4
  have cu5 := ou.q5
  have cu6 := ou.q6
  have cu7 := ou.q7
  have cu8 := ou.q8
  have cu9 := ou.q9
  have cu10 := ou.q10
  have cu11 := ou.q11
  have cu12 := ou.q12
  have cu13 := ou.q13
  have cu14 := ou.q14
  have cu15 := ou.q15
  have lu := ou.lt
  go_wp2_with fail
  refine (S3 _ (kk.trans keepsB)).mono ?_
  rintro e w4 ⟨rfl, hb4⟩
  have st : Steps _ w4 := hb4
  have sk : Below w3.heap.size w3 w4 := belowA st
  replace B := below_steps B (Nat.le_refl _) sk
  replace ot := ot.steps sk
  replace ou := ou.steps sk
  replace kk := kk.then_ sk
  clear st sk ct0 ct1 ct2 ct3 ct4 ct5 ct6 ct7 ct8 ct9 ct10 ct11 ct12 ct13 ct14 ct15 lt cu0 cu1 cu2 cu3 cu4 cu5 cu6 cu7 cu8 cu9 cu10 cu11 cu12 cu13 cu14 cu15 lu
  go_wp2_with fail
  refine bodyPost_ret (by simp [results, Tryz.results15, go_sem, ]; rfl) rfl ?_
  exact ⟨rfl, belowB⟩
theorem rsameSim {va vb : Value} {o : Option (Nat → Rat)} (w : World) (h : SimO w va o) (h' : SimO w vb o) : Calls Tryz.prog 15 #[va, vb] w fun e w' => e = .returned (.bool true) ∧ Steps w w' := by
  cases o with
  | none =>
    obtain rfl : va = _ := h
    obtain rfl : vb = _ := h'
    have z := fun (w' : World) (k : Keeps w w') => rsameF w' (frn_zero w') (frn_zero w') fits_0 fits_0
    exact rsame4S w z z z z
  | some t =>
    obtain ⟨ka1, ka2, ka3, ka4, ka5, ka6, ka7, ka8, kb1, kb2, kb3, kb4, kb5, kb6, kb7, kb8, kc1, kc2, kc3, kc4, kc5, kc6, kc7, kc8, kd1, kd2, kd3, kd4, kd5, kd6, kd7, kd8, rfl, h0, h1, h2, h3⟩ := h
    obtain ⟨ma1, ma2, ma3, ma4, ma5, ma6, ma7, ma8, mb1, mb2, mb3, mb4, mb5, mb6, mb7, mb8, mc1, mc2, mc3, mc4, mc5, mc6, mc7, mc8, md1, md2, md3, md4, md5, md6, md7, md8, rfl, g0, g1, g2, g3⟩ := h'
    exact rsame4S w (fun w' k => rsameFO (o := some (t 0)) w' (h0.keeps k) (g0.keeps k)) (fun w' k => rsameFO (o := some (t 1)) w' (h1.keeps k) (g1.keeps k)) (fun w' k => rsameFO (o := some (t 2)) w' (h2.keeps k) (g2.keeps k)) (fun w' k => rsameFO (o := some (t 3)) w' (h3.keeps k) (g3.keeps k))
def grL (LA LB : Nat → Nat) : Nat → Bool
  | 0 => false
  | t + 1 => grL LA LB t || decide ((20 : Int) < max (LA t : Int) (LB t : Int))
theorem grL_stay {LA LB : Nat → Nat} {i : Nat} (h : grL LA LB i = true) : ∀ m, i ≤ m → grL LA LB m = true := by
  intro m hm
  induction m with
  | zero => obtain rfl : i = 0 := by omega
            exact h
  | succ m ih =>
    rcases Nat.lt_or_ge m i with g | g
    · obtain rfl : i = m + 1 := by omega
      exact h
    · unfold grL; rw [ih g]; rfl
set_option maxHeartbeats 6400000 in
set_option maxRecDepth 1000000 in
theorem rFew {a1 a5 : Bool} {a2 a6 : Option Addr} {p q a4 a8 : Nat} (w : World) :
    Calls Tryz.prog 36 #[.agg #[.bool a1, .slice a2 p a4, .bool a5, .slice a6 q a8]] w fun e w' => e = .returned (.int .i64 (max (p : Int) (q : Int))) ∧ Steps w w' := by
  have mx := fun ts t W => run_max2 (P := Tryz.prog) ts t (p : Int) (q : Int) W
  generalize max (p : Int) (q : Int) = m at *
  go_enter Tryz.func36, Tryz.ntmps36
  go_wp2
  go_returns
  exact ⟨rfl, belowB⟩
set_option maxHeartbeats 6400000 in
set_option maxRecDepth 1000000 in
theorem rGreat21 {ka1 ka5 kb1 kb5 kc1 kc5 kd1 kd5 : Bool} {ka2 ka6 kb2 kb6 kc2 kc6 kd2 kd6 : Option Addr} {ka3 ka4 ka7 ka8 kb3 kb4 kb7 kb8 kc3 kc4 kc7 kc8 kd3 kd4 kd7 kd8 : Nat} {O : Nat → Option Rat} (w : World) (b0 : FB w (.agg #[.bool ka1, .slice ka2 ka3 ka4, .bool ka5, .slice ka6 ka7 ka8]) (O 0)) (b1 : FB w (.agg #[.bool kb1, .slice kb2 kb3 kb4, .bool kb5, .slice kb6 kb7 kb8]) (O 1)) (b2 : FB w (.agg #[.bool kc1, .slice kc2 kc3 kc4, .bool kc5, .slice kc6 kc7 kc8]) (O 2)) (b3 : FB w (.agg #[.bool kd1, .slice kd2 kd3 kd4, .bool kd5, .slice kd6 kd7 kd8]) (O 3)) :
    Calls Tryz.prog 10 #[.agg #[.bool ka1, .slice ka2 ka3 ka4, .bool ka5, .slice ka6 ka7 ka8, .bool kb1, .slice kb2 kb3 kb4, .bool kb5, .slice kb6 kb7 kb8, .bool kc1, .slice kc2 kc3 kc4, .bool kc5, .slice kc6 kc7 kc8, .bool kd1, .slice kd2 kd3 kd4, .bool kd5, .slice kd6 kd7 kd8]] w fun e w' => e = .returned (.bool (grL (f4v ka3 kb3 kc3 kd3) (f4v ka7 kb7 kc7 kd7) 4)) ∧ Steps w w' := by
  have FL := fun (w' : World) (g : Nat) (t : TypeId) (k : Keeps w w') (h : Blk w' g t #[.bool ka1, .slice ka2 ka3 ka4, .bool ka5, .slice ka6 ka7 ka8, .bool kb1, .slice kb2 kb3 kb4, .bool kb5, .slice kb6 kb7 kb8, .bool kc1, .slice kc2 kc3 kc4, .bool kc5, .slice kc6 kc7 kc8, .bool kd1, .slice kd2 kd3 kd4, .bool kd5, .slice kd6 kd7 kd8]) => fls4 h (b0.keeps k) (b1.keeps k) (b2.keeps k) (b3.keeps k)
  generalize hLA : (f4v ka3 kb3 kc3 kd3) = LA at *
  generalize hLB : (f4v ka7 kb7 kc7 kd7) = LB at *
  clear b0 b1 b2 b3 hLA hLB
  go_enter Tryz.func10, Tryz.ntmps10
  go_wp2_with fail
  have ob : Blk ((w.alloc (.cells #[.bool ka1, .slice ka2 ka3 ka4, .bool ka5, .slice ka6 ka7 ka8, .bool kb1, .slice kb2 kb3 kb4, .bool kb5, .slice kb6 kb7 kb8, .bool kc1, .slice kc2 kc3 kc4, .bool kc5, .slice kc6 kc7 kc8, .bool kd1, .slice kd2 kd3 kd4, .bool kd5, .slice kd6 kd7 kd8] 30)).alloc (.cells #[.bool ka1, .slice ka2 ka3 ka4, .bool ka5, .slice ka6 ka7 ka8, .bool kb1, .slice kb2 kb3 kb4, .bool kb5, .slice kb6 kb7 kb8, .bool kc1, .slice kc2 kc3 kc4, .bool kc5, .slice kc6 kc7 kc8, .bool kd1, .slice kd2 kd3 kd4, .bool kd5, .slice kd6 kd7 kd8] 28)) (w.heap.size + 1) 28 #[.bool ka1, .slice ka2 ka3 ka4, .bool ka5, .slice ka6 ka7 ka8, .bool kb1, .slice kb2 kb3 kb4, .bool kb5, .slice kb6 kb7 kb8, .bool kc1, .slice kc2 kc3 kc4, .bool kc5, .slice kc6 kc7 kc8, .bool kd1, .slice kd2 kd3 kd4, .bool kd5, .slice kd6 kd7 kd8] := Blk.new1 _ _ _ _
  obtain ⟨b, of, cap, e, hcap, hbl, hcell⟩ := FL _ _ _ keepsB ob
  simp only [Value.slice.injEq, Option.some.injEq, Addr.mk.injEq, and_true, true_and] at e
  obtain ⟨⟨rfl, rfl⟩, rfl⟩ := e
  have HC := Hid.mk_ hcell
  clear FL hcell ob
  generalize hw0 : ((w.alloc (.cells #[.bool ka1, .slice ka2 ka3 ka4, .bool ka5, .slice ka6 ka7 ka8, .bool kb1, .slice kb2 kb3 kb4, .bool kb5, .slice kb6 kb7 kb8, .bool kc1, .slice kc2 kc3 kc4, .bool kc5, .slice kc6 kc7 kc8, .bool kd1, .slice kd2 kd3 kd4, .bool kd5, .slice kd6 kd7 kd8] 30)).alloc (.cells #[.bool ka1, .slice ka2 ka3 ka4, .bool ka5, .slice ka6 ka7 ka8, .bool kb1, .slice kb2 kb3 kb4, .bool kb5, .slice kb6 kb7 kb8, .bool kc1, .slice kc2 kc3 kc4, .bool kc5, .slice kc6 kc7 kc8, .bool kd1, .slice kd2 kd3 kd4, .bool kd5, .slice kd6 kd7 kd8] 28)) = w0 at *
  have B0 : Below w.heap.size w w0 := by rw [← hw0]; exact belowB
  go_loopw [4] (fun kk wr => ∃ t : Nat, t ≤ 4 ∧ kk = .int .i64 t ∧ grL LA LB t = false ∧ Below w.heap.size w wr ∧ Steps w0 wr) (fun kk _ => 4 - (intOf kk).toNat)
  case atStart => exact ⟨0, by omega, rfl, rfl, B0, Below.refl _ _⟩
  case round =>
    clear B0
    obtain ⟨t, ht, rfl, hw, B, hs0⟩ := hrel
    rcases Nat.lt_or_ge t 4 with tn | tn
    · have hlt : decide ((t : Int) < 4) = true := decide_eq_true (by omega)
      obtain ⟨a1, a2, a4, a5, a6, a8, h0, h1, h2, h3, -⟩ := HC.out t tn
      have c0 : wr.cell? ⟨w.heap.size + 1, 0 + t * 4, none⟩ = some (.bool a1) := (hs0.cell (p := ⟨w.heap.size + 1, _, none⟩) hbl).trans h0
      have c1 : wr.cell? ⟨w.heap.size + 1, 0 + t * 4 + 1, none⟩ = some (.slice a2 (LA t) a4) := (hs0.cell (p := ⟨w.heap.size + 1, _, none⟩) hbl).trans h1
      have c2 : wr.cell? ⟨w.heap.size + 1, 0 + t * 4 + 2, none⟩ = some (.bool a5) := (hs0.cell (p := ⟨w.heap.size + 1, _, none⟩) hbl).trans h2
      have c3 : wr.cell? ⟨w.heap.size + 1, 0 + t * 4 + 3, none⟩ = some (.slice a6 (LB t) a8) := (hs0.cell (p := ⟨w.heap.size + 1, _, none⟩) hbl).trans h3
      rw [Nat.zero_add] at c0 c1 c2 c3
      have FW := fun w' => rFew (a1 := a1) (a5 := a5) (a2 := a2) (a6 := a6) (p := LA t) (q := LB t) (a4 := a4) (a8 := a8) w'
      have YES : (20 : Int) < max (LA t : Int) (LB t : Int) → grL LA LB 4 = true := fun e => grL_stay (i := t + 1) (by unfold grL; rw [decide_eq_true e, Bool.or_true]) 4 (by omega)
      have NO : ¬ (20 : Int) < max (LA t : Int) (LB t : Int) → grL LA LB (t + 1) = false := fun e => by unfold grL; rw [hw, decide_eq_false e]; rfl
      generalize max (LA t : Int) (LB t : Int) = m at *
      obtain ⟨L1, hL1⟩ : ∃ x, LA t = x := ⟨_, rfl⟩
      obtain ⟨L2, hL2⟩ : ∃ x, LB t = x := ⟨_, rfl⟩
      rw [hL1] at c1 FW
      rw [hL2] at c3 FW
      clear hL1 hL2 h0 h1 h2 h3
      go_wp2_with fail
      refine (FW _).mono ?_
      rintro e w1 ⟨rfl, hs1⟩
      have B1 : Below w.heap.size w w1 := belowA hs1
      have S1 : Steps w0 w1 := below_steps hs0 (Nat.le_refl _) hs1
      clear FW hs1 B hs0 c0 c1 c2 c3
      by_cases h : (20 : Int) < m
      · have Y := YES (by omega)
        clear YES NO
        go_wp2
        go_returns
        exact ⟨by rw [Y]; rfl, B1⟩
      · have N := NO (by omega)
        clear YES NO
        go_wp2
        go_roundw
        case rel => exact ⟨t + 1, by omega, by go_num, N, B1, S1⟩
        case measure => simp [intOf]; omega
    · obtain rfl : t = 4 := by omega
      go_wp2
      go_returns
      exact ⟨by rw [hw]; rfl, B⟩
end Go.Proofs.YtffmbepfbienaaaGreat
namespace Go.Proofs.YtffmbepfbienaaaGreat
open Go.RowKit
theorem SimO.steps {w w' : World} {v : Value} {o : Option (Nat → Rat)} (h : SimO w v o) (s : Steps w w') : SimO w' v o := h.keeps (Keeps.steps s)
theorem FO.steps {w w' : World} {v : Value} {o : Option Rat} (h : FO w v o) (s : Steps w w') : FO w' v o := h.keeps (Keeps.steps s)
set_option maxHeartbeats 6400000 in
set_option maxRecDepth 1000000 in
theorem places_walk {ka1 ka5 kb1 kb5 kc1 kc5 kd1 kd5 : Bool} {ka2 ka6 kb2 kb6 kc2 kc6 kd2 kd6 : Option Addr} {ka3 ka4 ka7 ka8 kb3 kb4 kb7 kb8 kc3 kc4 kc7 kc8 kd3 kd4 kd7 kd8 : Nat} {O : Nat → Option Rat} (ax ay bx b_y px py qx qy : Int) (w : World) (ra : (-9223372036854775808 ≤ ax ∧ ax ≤ 9223372036854775807) ∧ (-9223372036854775808 ≤ ay ∧ ay ≤ 9223372036854775807)) (rb : (-9223372036854775808 ≤ bx ∧ bx ≤ 9223372036854775807) ∧ (-9223372036854775808 ≤ b_y ∧ b_y ≤ 9223372036854775807)) (ri : (-9223372036854775808 ≤ px ∧ px ≤ 9223372036854775807) ∧ (-9223372036854775808 ≤ py ∧ py ≤ 9223372036854775807)) (rj : (-9223372036854775808 ≤ qx ∧ qx ≤ 9223372036854775807) ∧ (-9223372036854775808 ≤ qy ∧ qy ≤ 9223372036854775807)) (b0 : FB w (.agg #[.bool ka1, .slice ka2 ka3 ka4, .bool ka5, .slice ka6 ka7 ka8]) (O 0)) (b1 : FB w (.agg #[.bool kb1, .slice kb2 kb3 kb4, .bool kb5, .slice kb6 kb7 kb8]) (O 1)) (b2 : FB w (.agg #[.bool kc1, .slice kc2 kc3 kc4, .bool kc5, .slice kc6 kc7 kc8]) (O 2)) (b3 : FB w (.agg #[.bool kd1, .slice kd2 kd3 kd4, .bool kd5, .slice kd6 kd7 kd8]) (O 3)) (fw : FewL O (f4v ka3 kb3 kc3 kd3) (f4v ka7 kb7 kc7 kd7) 4) :
    Calls Tryz.prog 3 #[.agg #[.int .i64 ax, .int .i64 ay], .agg #[.int .i64 bx, .int .i64 b_y], .agg #[.int .i64 px, .int .i64 py], .agg #[.int .i64 qx, .int .i64 qy], .agg #[.bool ka1, .slice ka2 ka3 ka4, .bool ka5, .slice ka6 ka7 ka8, .bool kb1, .slice kb2 kb3 kb4, .bool kb5, .slice kb6 kb7 kb8, .bool kc1, .slice kc2 kc3 kc4, .bool kc5, .slice kc6 kc7 kc8, .bool kd1, .slice kd2 kd3 kd4, .bool kd5, .slice kd6 kd7 kd8]] w fun e w' => e = .returned (.bool true) ∧ Steps w w' := by
  have GR := fun w' (k : Keeps w w') => rGreat21 w' (b0.keeps k) (b1.keeps k) (b2.keeps k) (b3.keeps k)
  have PO := fun w' => mOf ax ay bx b_y px py qx qy w' ra rb ri rj
  have RO := fun w' => rOf21 ax ay bx b_y px py qx qy w' ra rb ri rj
  have PA := fun w' (k : Keeps w w') => mApply ax ay w' (b0.keeps k) (b1.keeps k) (b2.keeps k) (b3.keeps k) fw ra.1 ra.2
  have RA := fun w' (k : Keeps w w') => rApply ax ay w' (b0.keeps k) (b1.keeps k) (b2.keeps k) (b3.keeps k) fw ra.1 ra.2
  generalize ofS (ax, ay) (bx, b_y) (px, py) (qx, qy) = OF at PO RO
  obtain ⟨OE, OO⟩ := OF
  dsimp only at PO RO
  generalize apErr (apOk O (f4v ka3 kb3 kc3 kd3) (f4v ka7 kb7 kc7 kd7) (ax, ay)) = AE at PA RA
  generalize apRes (apOk O (f4v ka3 kb3 kc3 kd3) (f4v ka7 kb7 kc7 kd7) (ax, ay)) (apX (fun i => (O i).getD 0) (ax, ay)) = RX at PA RA
  generalize apRes (apOk O (f4v ka3 kb3 kc3 kd3) (f4v ka7 kb7 kc7 kd7) (ax, ay)) (apY (fun i => (O i).getD 0) (ax, ay)) = RY at PA RA
  generalize grL (f4v ka3 kb3 kc3 kd3) (f4v ka7 kb7 kc7 kd7) 4 = G at GR
  have hoe : (OE == OE) = true := by simp
  have hae : (AE == AE) = true := by simp
  clear ra rb ri rj b0 b1 b2 b3 fw
  go_enter Tryz.func3, Tryz.ntmps3
  have kk := Keeps.refl w
  go_wp2_with (first
    | ((with_reducible show wpList _ _ _ (⟨some 21, _, _, _, _, _⟩ :: _) _ _)
       refine load_big rfl 30 (.tmp 9) rfl (w.heap.size + 1 + 1 + 1 + 1) rfl 30 #[.bool ka1, .slice ka2 ka3 ka4, .bool ka5, .slice ka6 ka7 ka8, .bool kb1, .slice kb2 kb3 kb4, .bool kb5, .slice kb6 kb7 kb8, .bool kc1, .slice kc2 kc3 kc4, .bool kc5, .slice kc6 kc7 kc8, .bool kd1, .slice kd2 kd3 kd4, .bool kd5, .slice kd6 kd7 kd8] _ ownK Tryz.underlying30 rfl (by kernel_rfl) ?_
       skip)
    )
  refine (GR _ (kk.trans keepsB)).mono ?_
  rintro e w1 ⟨rfl, hb1⟩
  have st : Steps _ w1 := hb1
  have B : Below w.heap.size w w1 := belowA st
  have kp : Keeps w w1 := Keeps.then_ keepsB st
  replace kk := kk.trans kp
  have na : Blk w1 (w.heap.size) 23 #[.int .i64 ax, .int .i64 ay] := Blk.stepsK st
  have nb : Blk w1 (w.heap.size + 1) 23 #[.int .i64 bx, .int .i64 b_y] := Blk.stepsK st
  have ni : Blk w1 (w.heap.size + 1 + 1) 23 #[.int .i64 px, .int .i64 py] := Blk.stepsK st
  have nj : Blk w1 (w.heap.size + 1 + 1 + 1) 23 #[.int .i64 qx, .int .i64 qy] := Blk.stepsK st
  have nt : Blk w1 (w.heap.size + 1 + 1 + 1 + 1) 30 #[.bool ka1, .slice ka2 ka3 ka4, .bool ka5, .slice ka6 ka7 ka8, .bool kb1, .slice kb2 kb3 kb4, .bool kb5, .slice kb6 kb7 kb8, .bool kc1, .slice kc2 kc3 kc4, .bool kc5, .slice kc6 kc7 kc8, .bool kd1, .slice kd2 kd3 kd4, .bool kd5, .slice kd6 kd7 kd8] := Blk.stepsK st
  have oa := na
  clear na
  have ob := nb
  clear nb
  have oi := ni
  clear ni
  have oj := nj
  clear nj
  have ot := nt
  clear nt
  clear kp
  clear st
  have ca0 := oa.q0
  have ca1 := oa.q1
  have la := oa.lt
  have cb0 := ob.q0
  have cb1 := ob.q1
  have lb := ob.lt
  have ci0 := oi.q0
  have ci1 := oi.q1
  have li := oi.lt
  have cj0 := oj.q0
  have cj1 := oj.q1
  have lj := oj.lt
  have lt := ot.lt
  cases G with
  | true =>
    go_wp2_with fail
    refine bodyPost_ret (by simp [results, Tryz.results3, go_sem, ca0, ca1, la, cb0, cb1, lb, ci0, ci1, li, cj0, cj1, lj, lt]; rfl) rfl ?_
    exact ⟨rfl, belowB⟩
  | false =>
    go_wp2_with fail
    refine (PO _).mono ?_
    rintro e w2 ⟨vsa, rfl, hvsa, hb2⟩
    have st : Steps _ w2 := hb2
    have sk : Below w1.heap.size w1 w2 := belowA st
    replace B := below_steps B (Nat.le_refl _) sk
    replace oa := oa.steps sk
    replace ob := ob.steps sk
    replace oi := oi.steps sk
    replace oj := oj.steps sk
    replace ot := ot.steps sk
    replace kk := kk.then_ sk
    clear st sk ca0 ca1 la cb0 cb1 lb ci0 ci1 li cj0 cj1 lj lt
    obtain ⟨saka1, saka2, saka3, saka4, saka5, saka6, saka7, saka8, sakb1, sakb2, sakb3, sakb4, sakb5, sakb6, sakb7, sakb8, sakc1, sakc2, sakc3, sakc4, sakc5, sakc6, sakc7, sakc8, sakd1, sakd2, sakd3, sakd4, sakd5, sakd6, sakd7, sakd8, rfl⟩ := SimO.shape hvsa
    have Fsa := Hid.mk_ hvsa
    clear hvsa
    have zt_2 : w.heap.size + 1 + 1 + 1 + 1 < w2.heap.size := ot.lt
    have zz2 := B.size
    go_wp2_with (first
      | ((with_reducible show wpList _ _ _ (⟨none, .store _ _ _, _, _, _, _⟩ :: _) _ _)
         refine store_big rfl 30 (.tmp 11) (.tmp 29) rfl (w2.heap.size) #[.bool saka1, .slice saka2 saka3 saka4, .bool saka5, .slice saka6 saka7 saka8, .bool sakb1, .slice sakb2 sakb3 sakb4, .bool sakb5, .slice sakb6 sakb7 sakb8, .bool sakc1, .slice sakc2 sakc3 sakc4, .bool sakc5, .slice sakc6 sakc7 sakc8, .bool sakd1, .slice sakd2 sakd3 sakd4, .bool sakd5, .slice sakd6 sakd7 sakd8] rfl rfl 30 #[.bool false, .slice none 0 0, .bool false, .slice none 0 0, .bool false, .slice none 0 0, .bool false, .slice none 0 0, .bool false, .slice none 0 0, .bool false, .slice none 0 0, .bool false, .slice none 0 0, .bool false, .slice none 0 0] ownK (by kernel_rfl) rfl (by simp [Value.oneCell']) (fun w3 hrow => ?_)
         have Bn : Below w.heap.size w w3 := hrow.below belowB (by omega)
         have kp : Keeps w2 w3 := Keeps.trans keepsB (hrow.keeps rfl)
         replace kk := kk.trans kp
         have na : Blk w3 (w.heap.size) 23 #[.int .i64 ax, .int .i64 ay] := hrow.far ownK (show w.heap.size ≠ w2.heap.size by omega)
         have nb : Blk w3 (w.heap.size + 1) 23 #[.int .i64 bx, .int .i64 b_y] := hrow.far ownK (show w.heap.size + 1 ≠ w2.heap.size by omega)
         have ni : Blk w3 (w.heap.size + 1 + 1) 23 #[.int .i64 px, .int .i64 py] := hrow.far ownK (show w.heap.size + 1 + 1 ≠ w2.heap.size by omega)
         have nj : Blk w3 (w.heap.size + 1 + 1 + 1) 23 #[.int .i64 qx, .int .i64 qy] := hrow.far ownK (show w.heap.size + 1 + 1 + 1 ≠ w2.heap.size by omega)
         have nt : Blk w3 (w.heap.size + 1 + 1 + 1 + 1) 30 #[.bool ka1, .slice ka2 ka3 ka4, .bool ka5, .slice ka6 ka7 ka8, .bool kb1, .slice kb2 kb3 kb4, .bool kb5, .slice kb6 kb7 kb8, .bool kc1, .slice kc2 kc3 kc4, .bool kc5, .slice kc6 kc7 kc8, .bool kd1, .slice kd2 kd3 kd4, .bool kd5, .slice kd6 kd7 kd8] := hrow.far ownK (show w.heap.size + 1 + 1 + 1 + 1 ≠ w2.heap.size by omega)
         have nv11 : Blk w3 (w2.heap.size) 30 #[.bool saka1, .slice saka2 saka3 saka4, .bool saka5, .slice saka6 saka7 saka8, .bool sakb1, .slice sakb2 sakb3 sakb4, .bool sakb5, .slice sakb6 sakb7 sakb8, .bool sakc1, .slice sakc2 sakc3 sakc4, .bool sakc5, .slice sakc6 sakc7 sakc8, .bool sakd1, .slice sakd2 sakd3 sakd4, .bool sakd5, .slice sakd6 sakd7 sakd8] := hrow.blk
         replace B := Bn
         clear Bn hrow
         replace oa := na
         clear na
         replace ob := nb
         clear nb
         replace oi := ni
         clear ni
         replace oj := nj
         clear nj
         replace ot := nt
         clear nt
         have ov11 := nv11
         clear nv11
         replace Fsa := Hid.mk_ (Fsa.out.keeps kp)
         clear kp
         have ca0 := oa.q0
         have ca1 := oa.q1
         have la := oa.lt
         have cb0 := ob.q0
         have cb1 := ob.q1
         have lb := ob.lt
         have ci0 := oi.q0
         have ci1 := oi.q1
         have li := oi.lt
         have cj0 := oj.q0
         have cj1 := oj.q1
         have lj := oj.lt
         have lt := ot.lt
         skip)
      )
    refine (RO _).mono ?_
    rintro e w4 ⟨vsb, rfl, hvsb, hb4⟩
    have st : Steps _ w4 := hb4
    have sk : Below w3.heap.size w3 w4 := belowA st
    replace B := below_steps B (Nat.le_refl _) sk
    replace oa := oa.steps sk
    replace ob := ob.steps sk
    replace oi := oi.steps sk
    replace oj := oj.steps sk
    replace ot := ot.steps sk
    replace ov11 := ov11.steps sk
    replace Fsa := Hid.mk_ (Fsa.out.steps sk)
    replace kk := kk.then_ sk
    clear st sk ca0 ca1 la cb0 cb1 lb ci0 ci1 li cj0 cj1 lj lt
    obtain ⟨sbka1, sbka2, sbka3, sbka4, sbka5, sbka6, sbka7, sbka8, sbkb1, sbkb2, sbkb3, sbkb4, sbkb5, sbkb6, sbkb7, sbkb8, sbkc1, sbkc2, sbkc3, sbkc4, sbkc5, sbkc6, sbkc7, sbkc8, sbkd1, sbkd2, sbkd3, sbkd4, sbkd5, sbkd6, sbkd7, sbkd8, rfl⟩ := SimO.shape hvsb
    have Fsb := Hid.mk_ hvsb
    clear hvsb
    have zv11_4 : w2.heap.size < w4.heap.size := ov11.lt
    have zz4 := B.size
    go_wp2_with (first
      | ((with_reducible show wpList _ _ _ (⟨none, .store _ _ _, _, _, _, _⟩ :: _) _ _)
         refine store_big rfl 30 (.tmp 13) (.tmp 37) rfl (w4.heap.size) #[.bool sbka1, .slice sbka2 sbka3 sbka4, .bool sbka5, .slice sbka6 sbka7 sbka8, .bool sbkb1, .slice sbkb2 sbkb3 sbkb4, .bool sbkb5, .slice sbkb6 sbkb7 sbkb8, .bool sbkc1, .slice sbkc2 sbkc3 sbkc4, .bool sbkc5, .slice sbkc6 sbkc7 sbkc8, .bool sbkd1, .slice sbkd2 sbkd3 sbkd4, .bool sbkd5, .slice sbkd6 sbkd7 sbkd8] rfl rfl 30 #[.bool false, .slice none 0 0, .bool false, .slice none 0 0, .bool false, .slice none 0 0, .bool false, .slice none 0 0, .bool false, .slice none 0 0, .bool false, .slice none 0 0, .bool false, .slice none 0 0, .bool false, .slice none 0 0] ownK (by kernel_rfl) rfl (by simp [Value.oneCell']) (fun w5 hrow => ?_)
         have Bn : Below w.heap.size w w5 := hrow.below belowB (by omega)
         have kp : Keeps w4 w5 := Keeps.trans keepsB (hrow.keeps rfl)
         replace kk := kk.trans kp
         have na : Blk w5 (w.heap.size) 23 #[.int .i64 ax, .int .i64 ay] := hrow.far ownK (show w.heap.size ≠ w4.heap.size by omega)
         have nb : Blk w5 (w.heap.size + 1) 23 #[.int .i64 bx, .int .i64 b_y] := hrow.far ownK (show w.heap.size + 1 ≠ w4.heap.size by omega)
         have ni : Blk w5 (w.heap.size + 1 + 1) 23 #[.int .i64 px, .int .i64 py] := hrow.far ownK (show w.heap.size + 1 + 1 ≠ w4.heap.size by omega)
         have nj : Blk w5 (w.heap.size + 1 + 1 + 1) 23 #[.int .i64 qx, .int .i64 qy] := hrow.far ownK (show w.heap.size + 1 + 1 + 1 ≠ w4.heap.size by omega)
         have nt : Blk w5 (w.heap.size + 1 + 1 + 1 + 1) 30 #[.bool ka1, .slice ka2 ka3 ka4, .bool ka5, .slice ka6 ka7 ka8, .bool kb1, .slice kb2 kb3 kb4, .bool kb5, .slice kb6 kb7 kb8, .bool kc1, .slice kc2 kc3 kc4, .bool kc5, .slice kc6 kc7 kc8, .bool kd1, .slice kd2 kd3 kd4, .bool kd5, .slice kd6 kd7 kd8] := hrow.far ownK (show w.heap.size + 1 + 1 + 1 + 1 ≠ w4.heap.size by omega)
         have nv11 : Blk w5 (w2.heap.size) 30 #[.bool saka1, .slice saka2 saka3 saka4, .bool saka5, .slice saka6 saka7 saka8, .bool sakb1, .slice sakb2 sakb3 sakb4, .bool sakb5, .slice sakb6 sakb7 sakb8, .bool sakc1, .slice sakc2 sakc3 sakc4, .bool sakc5, .slice sakc6 sakc7 sakc8, .bool sakd1, .slice sakd2 sakd3 sakd4, .bool sakd5, .slice sakd6 sakd7 sakd8] := hrow.far ownK (show w2.heap.size ≠ w4.heap.size by omega)
         have nv13 : Blk w5 (w4.heap.size) 30 #[.bool sbka1, .slice sbka2 sbka3 sbka4, .bool sbka5, .slice sbka6 sbka7 sbka8, .bool sbkb1, .slice sbkb2 sbkb3 sbkb4, .bool sbkb5, .slice sbkb6 sbkb7 sbkb8, .bool sbkc1, .slice sbkc2 sbkc3 sbkc4, .bool sbkc5, .slice sbkc6 sbkc7 sbkc8, .bool sbkd1, .slice sbkd2 sbkd3 sbkd4, .bool sbkd5, .slice sbkd6 sbkd7 sbkd8] := hrow.blk
         replace B := Bn
         clear Bn hrow
         replace oa := na
         clear na
         replace ob := nb
         clear nb
         replace oi := ni
         clear ni
         replace oj := nj
         clear nj
         replace ot := nt
         clear nt
         replace ov11 := nv11
         clear nv11
         have ov13 := nv13
         clear nv13
         replace Fsa := Hid.mk_ (Fsa.out.keeps kp)
         replace Fsb := Hid.mk_ (Fsb.out.keeps kp)
         clear kp
         have ca0 := oa.q0
         have ca1 := oa.q1
         have la := oa.lt
         have lb := ob.lt
         have li := oi.lt
         have lj := oj.lt
         have lt := ot.lt
         skip)
      | ((with_reducible show wpList _ _ _ (⟨some 40, _, _, _, _, _⟩ :: _) _ _)
         refine load_big rfl 30 (.tmp 9) rfl (w.heap.size + 1 + 1 + 1 + 1) rfl 30 #[.bool ka1, .slice ka2 ka3 ka4, .bool ka5, .slice ka6 ka7 ka8, .bool kb1, .slice kb2 kb3 kb4, .bool kb5, .slice kb6 kb7 kb8, .bool kc1, .slice kc2 kc3 kc4, .bool kc5, .slice kc6 kc7 kc8, .bool kd1, .slice kd2 kd3 kd4, .bool kd5, .slice kd6 kd7 kd8] _ ownK Tryz.underlying30 rfl (by kernel_rfl) ?_
         skip)
      )
    refine (PA _ (kk.trans keepsB)).mono ?_
    rintro e w6 ⟨vxa, vxb, rfl, hvxa, hvxb, hb6⟩
    have st : Steps _ w6 := hb6
    have sk : Below w5.heap.size w5 w6 := belowA st
    replace B := below_steps B (Nat.le_refl _) sk
    replace oa := oa.steps sk
    replace ob := ob.steps sk
    replace oi := oi.steps sk
    replace oj := oj.steps sk
    replace ot := ot.steps sk
    replace ov11 := ov11.steps sk
    replace ov13 := ov13.steps sk
    replace Fsa := Hid.mk_ (Fsa.out.steps sk)
    replace Fsb := Hid.mk_ (Fsb.out.steps sk)
    replace kk := kk.then_ sk
    clear st sk ca0 ca1 la lb li lj lt
    have ca0 := oa.q0
    have ca1 := oa.q1
    have la := oa.lt
    have lb := ob.lt
    have li := oi.lt
    have lj := oj.lt
    have lt := ot.lt
    obtain ⟨xa1, xa2, xa3, xa4, xa5, xa6, xa7, xa8, rfl⟩ := FO.shape hvxa
    have Fxa := Hid.mk_ hvxa
    clear hvxa
    obtain ⟨xb1, xb2, xb3, xb4, xb5, xb6, xb7, xb8, rfl⟩ := FO.shape hvxb
    have Fxb := Hid.mk_ hvxb
    clear hvxb
    have zv13_6 : w4.heap.size < w6.heap.size := ov13.lt
    have zz6 := B.size
    go_wp2_with (first
      | ((with_reducible show wpList _ _ _ (⟨some 47, _, _, _, _, _⟩ :: _) _ _)
         refine load_big rfl 30 (.tmp 9) rfl (w.heap.size + 1 + 1 + 1 + 1) rfl 30 #[.bool ka1, .slice ka2 ka3 ka4, .bool ka5, .slice ka6 ka7 ka8, .bool kb1, .slice kb2 kb3 kb4, .bool kb5, .slice kb6 kb7 kb8, .bool kc1, .slice kc2 kc3 kc4, .bool kc5, .slice kc6 kc7 kc8, .bool kd1, .slice kd2 kd3 kd4, .bool kd5, .slice kd6 kd7 kd8] _ ownK Tryz.underlying30 rfl (by kernel_rfl) ?_
         skip)
      )
    refine (RA _ (kk.trans keepsB)).mono ?_
    rintro e w7 ⟨vxc, vxd, rfl, hvxc, hvxd, hb7⟩
    have st : Steps _ w7 := hb7
    have sk : Below w6.heap.size w6 w7 := belowA st
    replace B := below_steps B (Nat.le_refl _) sk
    have ov15 : Blk w7 (w6.heap.size) 28 #[.bool xa1, .slice xa2 xa3 xa4, .bool xa5, .slice xa6 xa7 xa8] := Blk.stepsK st
    have ov16 : Blk w7 (w6.heap.size + 1) 28 #[.bool xb1, .slice xb2 xb3 xb4, .bool xb5, .slice xb6 xb7 xb8] := Blk.stepsK st
    replace oa := oa.steps sk
    replace ob := ob.steps sk
    replace oi := oi.steps sk
    replace oj := oj.steps sk
    replace ot := ot.steps sk
    replace ov11 := ov11.steps sk
    replace ov13 := ov13.steps sk
    replace Fsa := Hid.mk_ (Fsa.out.steps sk)
    replace Fsb := Hid.mk_ (Fsb.out.steps sk)
    replace Fxa := Hid.mk_ (Fxa.out.steps sk)
    replace Fxb := Hid.mk_ (Fxb.out.steps sk)
    replace kk := kk.then_ sk
    clear st sk ca0 ca1 la lb li lj lt
    obtain ⟨xc1, xc2, xc3, xc4, xc5, xc6, xc7, xc8, rfl⟩ := FO.shape hvxc
    have Fxc := Hid.mk_ hvxc
    clear hvxc
    obtain ⟨xd1, xd2, xd3, xd4, xd5, xd6, xd7, xd8, rfl⟩ := FO.shape hvxd
    have Fxd := Hid.mk_ hvxd
    clear hvxd
    have zv16_7 : w6.heap.size + 1 < w7.heap.size := ov16.lt
    have zz7 := B.size
    go_wp2_with (first
      | ((with_reducible show wpList _ _ _ (⟨some 53, _, _, _, _, _⟩ :: _) _ _)
         refine load_big rfl 30 (.tmp 11) rfl (w2.heap.size) rfl 30 #[.bool saka1, .slice saka2 saka3 saka4, .bool saka5, .slice saka6 saka7 saka8, .bool sakb1, .slice sakb2 sakb3 sakb4, .bool sakb5, .slice sakb6 sakb7 sakb8, .bool sakc1, .slice sakc2 sakc3 sakc4, .bool sakc5, .slice sakc6 sakc7 sakc8, .bool sakd1, .slice sakd2 sakd3 sakd4, .bool sakd5, .slice sakd6 sakd7 sakd8] _ ownK Tryz.underlying30 rfl (by kernel_rfl) ?_
         skip)
      | ((with_reducible show wpList _ _ _ (⟨some 54, _, _, _, _, _⟩ :: _) _ _)
         refine load_big rfl 30 (.tmp 13) rfl (w4.heap.size) rfl 30 #[.bool sbka1, .slice sbka2 sbka3 sbka4, .bool sbka5, .slice sbka6 sbka7 sbka8, .bool sbkb1, .slice sbkb2 sbkb3 sbkb4, .bool sbkb5, .slice sbkb6 sbkb7 sbkb8, .bool sbkc1, .slice sbkc2 sbkc3 sbkc4, .bool sbkc5, .slice sbkc6 sbkc7 sbkc8, .bool sbkd1, .slice sbkd2 sbkd3 sbkd4, .bool sbkd5, .slice sbkd6 sbkd7 sbkd8] _ ownK Tryz.underlying30 rfl (by kernel_rfl) ?_
         skip)
      )
    refine (rsameSim _ (Fsa.out.keeps keepsB) (Fsb.out.keeps keepsB)).mono ?_
    rintro e w8 ⟨rfl, hb8⟩
    have st : Steps _ w8 := hb8
    have sk : Below w7.heap.size w7 w8 := belowA st
    replace B := below_steps B (Nat.le_refl _) sk
    have ov18 : Blk w8 (w7.heap.size) 28 #[.bool xc1, .slice xc2 xc3 xc4, .bool xc5, .slice xc6 xc7 xc8] := Blk.stepsK st
    have ov19 : Blk w8 (w7.heap.size + 1) 28 #[.bool xd1, .slice xd2 xd3 xd4, .bool xd5, .slice xd6 xd7 xd8] := Blk.stepsK st
    replace oa := oa.steps sk
    replace ob := ob.steps sk
    replace oi := oi.steps sk
    replace oj := oj.steps sk
    replace ot := ot.steps sk
    replace ov11 := ov11.steps sk
    replace ov13 := ov13.steps sk
    replace ov15 := ov15.steps sk
    replace ov16 := ov16.steps sk
    replace Fsa := Hid.mk_ (Fsa.out.steps sk)
    replace Fsb := Hid.mk_ (Fsb.out.steps sk)
    replace Fxa := Hid.mk_ (Fxa.out.steps sk)
    replace Fxb := Hid.mk_ (Fxb.out.steps sk)
    replace Fxc := Hid.mk_ (Fxc.out.steps sk)
    replace Fxd := Hid.mk_ (Fxd.out.steps sk)
    replace kk := kk.then_ sk
    clear st sk
    have cv150 := ov15.q0
    have cv151 := ov15.q1
    have cv152 := ov15.q2
    have cv153 := ov15.q3
    have lv15 := ov15.lt
    have lv16 := ov16.lt
    have cv180 := ov18.q0
    have cv181 := ov18.q1
    have cv182 := ov18.q2
    have cv183 := ov18.q3
    have lv18 := ov18.lt
    have lv19 := ov19.lt
    go_wp2_with fail
    refine (rsameFO _ (Fxa.out.keeps keepsB) (Fxc.out.keeps keepsB)).mono ?_
    rintro e w9 ⟨rfl, hb9⟩
    have st : Steps _ w9 := hb9
    have sk : Below w8.heap.size w8 w9 := belowA st
    replace B := below_steps B (Nat.le_refl _) sk
    replace oa := oa.steps sk
    replace ob := ob.steps sk
    replace oi := oi.steps sk
    replace oj := oj.steps sk
    replace ot := ot.steps sk
    replace ov11 := ov11.steps sk
    replace ov13 := ov13.steps sk
    replace ov15 := ov15.steps sk
    replace ov16 := ov16.steps sk
    replace ov18 := ov18.steps sk
    replace ov19 := ov19.steps sk
    replace Fsa := Hid.mk_ (Fsa.out.steps sk)
    replace Fsb := Hid.mk_ (Fsb.out.steps sk)
    replace Fxa := Hid.mk_ (Fxa.out.steps sk)
    replace Fxb := Hid.mk_ (Fxb.out.steps sk)
    replace Fxc := Hid.mk_ (Fxc.out.steps sk)
    replace Fxd := Hid.mk_ (Fxd.out.steps sk)
    replace kk := kk.then_ sk
    clear st sk cv150 cv151 cv152 cv153 lv15 lv16 cv180 cv181 cv182 cv183 lv18 lv19
    have lv15 := ov15.lt
    have cv160 := ov16.q0
    have cv161 := ov16.q1
    have cv162 := ov16.q2
    have cv163 := ov16.q3
    have lv16 := ov16.lt
    have lv18 := ov18.lt
    have cv190 := ov19.q0
    have cv191 := ov19.q1
    have cv192 := ov19.q2
    have cv193 := ov19.q3
    have lv19 := ov19.lt
    go_wp2_with fail
    refine (rsameFO _ (Fxb.out.keeps keepsB) (Fxd.out.keeps keepsB)).mono ?_
    rintro e w10 ⟨rfl, hb10⟩
    have st : Steps _ w10 := hb10
    have sk : Below w9.heap.size w9 w10 := belowA st
    replace B := below_steps B (Nat.le_refl _) sk
    replace oa := oa.steps sk
    replace ob := ob.steps sk
    replace oi := oi.steps sk
    replace oj := oj.steps sk
    replace ot := ot.steps sk
    replace ov11 := ov11.steps sk
    replace ov13 := ov13.steps sk
    replace ov15 := ov15.steps sk
    replace ov16 := ov16.steps sk
    replace ov18 := ov18.steps sk
    replace ov19 := ov19.steps sk
    replace Fsa := Hid.mk_ (Fsa.out.steps sk)
    replace Fsb := Hid.mk_ (Fsb.out.steps sk)
    replace Fxa := Hid.mk_ (Fxa.out.steps sk)
    replace Fxb := Hid.mk_ (Fxb.out.steps sk)
    replace Fxc := Hid.mk_ (Fxc.out.steps sk)
    replace Fxd := Hid.mk_ (Fxd.out.steps sk)
    replace kk := kk.then_ sk
    clear st sk lv15 cv160 cv161 cv162 cv163 lv16 lv18 cv190 cv191 cv192 cv193 lv19
    go_wp2_with fail
    refine bodyPost_ret (by simp [results, Tryz.results3, go_sem, ]; rfl) rfl ?_
    exact ⟨rfl, belowB⟩
end Go.Proofs.YtffmbepfbienaaaGreat
