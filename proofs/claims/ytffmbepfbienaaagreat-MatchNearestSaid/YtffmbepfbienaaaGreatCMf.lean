import Derived.Test.YtffmbepfbienaaaGreatCMd
import Derived.Test.YtffmbepfbienaaaGreatCVk
import Derived.Test.YtffmbepfbienaaaGreatCVe
import Derived.Test.YtffmbepfbienaaaGreatCWf
set_option linter.unusedVariables false
set_option linter.unusedSimpArgs false
set_option maxHeartbeats 6400000
set_option maxRecDepth 1000000
namespace Go.Proofs.YtffmbepfbienaaaGreat
open Go.RowKit
theorem eq_ptG (x y x' y' : Int) (w : World) : (Op.equalIn 10000 23 (.agg #[.int .i64 x, .int .i64 y]) (.agg #[.int .i64 x', .int .i64 y'])).run Tryz.prog w = .ok (x == x' && y == y') w := by
 have one : ∀ k k' : Int, (Op.equalIn 9999 2 (.int .i64 k) (.int .i64 k')).run Tryz.prog w = .ok (k == k') w := fun k k' => by kernel_rfl
 have p0 : ∀ x y, (part 2 #[.int .i64 x, .int .i64 y] 0).run Tryz.prog w = .ok (.int .i64 x) w := fun x y => by kernel_rfl
 have p1 : ∀ x y, (part 2 #[.int .i64 x, .int .i64 y] 1).run Tryz.prog w = .ok (.int .i64 y) w := fun x y => by kernel_rfl
 have hm : (Tryz.prog.fieldsOf 23).toList.map (fun f => (decide (f.name = "_"), f.type, f.offset)) = [(false, 2, 0), (false, 2, 1)] := by kernel_rfl
 rw [show (10000 : Nat) = 9999 + 1 from rfl, run_equalIn_struct w 9999 _ _ _ (by kernel_rfl) (by kernel_rfl)]
 generalize (Tryz.prog.fieldsOf 23).toList = fs at hm
 rcases fs with _ | ⟨f0, _ | ⟨f1, _ | ⟨f2, r⟩⟩⟩
 · exact absurd (congrArg List.length hm) (by simp)
 · exact absurd (congrArg List.length hm) (by simp)
 ·
  simp only [List.map_cons, List.map_nil, List.cons.injEq, Prod.mk.injEq, decide_eq_false_iff_not, and_true] at hm
  obtain ⟨⟨n0, t0, o0⟩, n1, t1, o1⟩ := hm
  cases h1 : (x == x') <;> cases h2 : (y == y') <;> simp only [Op.eqFields, t0, t1, o0, o1, ne_eq, n0, n1, not_false_eq_true, if_true, Sem.run_bind, p0, p1, one, h1, h2, Result.andThen_ok, Bool.not_true, Bool.not_false, Bool.false_eq_true, if_false, Sem.run_pure, Bool.and_true, Bool.and_false, Bool.true_and, Bool.false_and]
 · exact absurd (congrArg List.length hm) (by simp)
theorem pts_four {w : World} {g : Nat} {t : TypeId} {ax ay bx b_y px py qx qy : Int} (h : Blk w g t #[.int .i64 ax, .int .i64 ay, .int .i64 bx, .int .i64 b_y, .int .i64 px, .int .i64 py, .int .i64 qx, .int .i64 qy])
  (h1 : (-9223372036854775808 ≤ ax ∧ ax ≤ 9223372036854775807) ∧ (-9223372036854775808 ≤ ay ∧ ay ≤ 9223372036854775807)) (h2 : (-9223372036854775808 ≤ bx ∧ bx ≤ 9223372036854775807) ∧ (-9223372036854775808 ≤ b_y ∧ b_y ≤ 9223372036854775807)) (h3 : (-9223372036854775808 ≤ px ∧ px ≤ 9223372036854775807) ∧ (-9223372036854775808 ≤ py ∧ py ≤ 9223372036854775807)) (h4 : (-9223372036854775808 ≤ qx ∧ qx ≤ 9223372036854775807) ∧ (-9223372036854775808 ≤ qy ∧ qy ≤ 9223372036854775807)) : Pts w (.slice (some ⟨g, 0, none⟩) 4 4) [(ax, ay), (bx, b_y), (px, py), (qx, qy)] := by
 refine ⟨fun k => ?_, some ⟨g, 0, none⟩, 4, rfl, Nat.le_refl _, fun _ => ⟨g, 0, rfl, h.lt, fun t ht => ?_⟩⟩
 ·
  match k with
  | 0 => exact ⟨h1.1.1, h1.1.2, h1.2.1, h1.2.2⟩
  | 1 => exact ⟨h2.1.1, h2.1.2, h2.2.1, h2.2.2⟩
  | 2 => exact ⟨h3.1.1, h3.1.2, h3.2.1, h3.2.2⟩
  | 3 => exact ⟨h4.1.1, h4.1.2, h4.2.1, h4.2.2⟩
  | k + 4 => rw [show ([(ax, ay), (bx, b_y), (px, py), (qx, qy)] : List (Int × Int)).getD (k + 4) (0, 0) = (0, 0) by simp [List.getD]]; decide
 ·
  have : t = 0 ∨ t = 1 ∨ t = 2 ∨ t = 3 := by simp at ht; omega
  rcases this with rfl | rfl | rfl | rfl
  · exact ⟨h.c 0 rfl, h.c 1 rfl⟩
  · exact ⟨h.c 2 rfl, h.c 3 rfl⟩
  · exact ⟨h.c 4 rfl, h.c 5 rfl⟩
  · exact ⟨h.c 6 rfl, h.c 7 rfl⟩
theorem chk_four (a b p q : Int × Int) : chkP [a, b, p, q] = if okP a ∧ okP b ∧ okP p ∧ okP q then 0 else 8 := by unfold chkP; simp
def ofS (a b p q : Int × Int) : Int × Option (Nat → Rat) := if okP a ∧ okP b ∧ okP p ∧ okP q then (if a = b then (18, none) else (0, some (simT a b p q))) else (8, none)
def SimO (w : World) (v : Value) : Option (Nat → Rat) → Prop
 | some t => SimR w v t
 | none => v = .agg #[.bool false, .slice none 0 0, .bool false, .slice none 0 0, .bool false, .slice none 0 0, .bool false, .slice none 0 0, .bool false, .slice none 0 0, .bool false, .slice none 0 0, .bool false, .slice none 0 0, .bool false, .slice none 0 0]
theorem csq_pt {a b : Int × Int} (h : a ≠ b) : csq (b.1 - a.1) (b.2 - a.2) ≠ 0 := by
 have := csq_pos (re := b.1 - a.1) (im := b.2 - a.2) (fun ⟨h1, h2⟩ => h (by obtain ⟨a1, a2⟩ := a; obtain ⟨b1, b2⟩ := b; dsimp only at h1 h2; congr 1 <;> omega))
 omega
theorem mOf (ax ay bx b_y px py qx qy : Int) (w : World) (ra : (-9223372036854775808 ≤ ax ∧ ax ≤ 9223372036854775807) ∧ (-9223372036854775808 ≤ ay ∧ ay ≤ 9223372036854775807)) (rb : (-9223372036854775808 ≤ bx ∧ bx ≤ 9223372036854775807) ∧ (-9223372036854775808 ≤ b_y ∧ b_y ≤ 9223372036854775807)) (ri : (-9223372036854775808 ≤ px ∧ px ≤ 9223372036854775807) ∧ (-9223372036854775808 ≤ py ∧ py ≤ 9223372036854775807)) (rj : (-9223372036854775808 ≤ qx ∧ qx ≤ 9223372036854775807) ∧ (-9223372036854775808 ≤ qy ∧ qy ≤ 9223372036854775807)) :
  Calls Tryz.prog 11 #[.agg #[.int .i64 ax, .int .i64 ay], .agg #[.int .i64 bx, .int .i64 b_y], .agg #[.int .i64 px, .int .i64 py], .agg #[.int .i64 qx, .int .i64 qy]] w fun e w' => ∃ v, e = .returned (.tuple #[v, .int .i64 (ofS (ax, ay) (bx, b_y) (px, py) (qx, qy)).1]) ∧ SimO w' v (ofS (ax, ay) (bx, b_y) (px, py) (qx, qy)).2 ∧ Steps w w' := by
 have ck : ∀ w' g t, Blk w' g t #[.int .i64 ax, .int .i64 ay, .int .i64 bx, .int .i64 b_y, .int .i64 px, .int .i64 py, .int .i64 qx, .int .i64 qy] → Calls Tryz.prog 37 #[.slice (some ⟨g, 0, none⟩) 4 4] w' fun e w2 => e = .returned (.int .i64 (if okP (ax, ay) ∧ okP (bx, b_y) ∧ okP (px, py) ∧ okP (qx, qy) then 0 else 8)) ∧ Steps w' w2 := fun w' g t hb => by
  have := qcheckP w' (pts_four hb ra rb ri rj) (by simp)
  rw [chk_four] at this
  exact this
 have qe : ∀ W, (Op.equalIn 10000 23 (.agg #[.int .i64 ax, .int .i64 ay]) (.agg #[.int .i64 bx, .int .i64 b_y])).run Tryz.prog W = .ok (ax == bx && ay == b_y) W := fun W => eq_ptG ax ay bx b_y W
 unfold ofS
 clear ra rb ri rj
 by_cases hok : okP (ax, ay) ∧ okP (bx, b_y) ∧ okP (px, py) ∧ okP (qx, qy)
 ·
  rw [if_pos hok] at ck
  rw [if_pos hok]
  by_cases he : ((ax, ay) : Int × Int) = (bx, b_y)
  ·
   rw [if_pos he]
   have hE : (ax == bx && ay == b_y) = true := by simp only [Prod.mk.injEq] at he; simp [he]
   rw [hE] at qe
   clear hok he hE
   go_enter Tryz.func11, Tryz.ntmps11
   go_wp2_with fail
   refine (ck _ (w.heap.size + 1 + 1 + 1 + 1 + 1) 23 ownK).mono ?_
   rintro e w1 ⟨rfl, hb1⟩
   have st : Steps _ w1 := hb1
   have B : Below w.heap.size w w1 := belowA st
   have oa : Blk w1 (w.heap.size) 23 #[.int .i64 ax, .int .i64 ay] := Blk.stepsK st
   have ob : Blk w1 (w.heap.size + 1) 23 #[.int .i64 bx, .int .i64 b_y] := Blk.stepsK st
   have oi : Blk w1 (w.heap.size + 1 + 1) 23 #[.int .i64 px, .int .i64 py] := Blk.stepsK st
   have oj : Blk w1 (w.heap.size + 1 + 1 + 1) 23 #[.int .i64 qx, .int .i64 qy] := Blk.stepsK st
   have or : Blk w1 (w.heap.size + 1 + 1 + 1 + 1) 30 #[.bool false, .slice none 0 0, .bool false, .slice none 0 0, .bool false, .slice none 0 0, .bool false, .slice none 0 0, .bool false, .slice none 0 0, .bool false, .slice none 0 0, .bool false, .slice none 0 0, .bool false, .slice none 0 0] := Blk.stepsK st
   clear st
   obtain ⟨ca0, ca1⟩ := oa.r1
   have la := oa.lt
   obtain ⟨cb0, cb1⟩ := ob.r1
   have lb := ob.lt
   have li := oi.lt
   have lj := oj.lt
   have lr := or.lt
   go_wp2_with (first
    | (
      (with_reducible show wpList _ _ _ (⟨some 26, _, _, _, _, _⟩ :: _) _ _)
      refine build_big rfl 30 #[] rfl #[.bool false, .slice none 0 0, .bool false, .slice none 0 0, .bool false, .slice none 0 0, .bool false, .slice none 0 0, .bool false, .slice none 0 0, .bool false, .slice none 0 0, .bool false, .slice none 0 0, .bool false, .slice none 0 0] (by kernel_rfl) ?_
      skip)
    | (
      (with_reducible show wpList _ _ _ (⟨none, .store _ _ _, _, _, _, _⟩ :: _) _ _)
      refine store_big rfl 30 (.tmp 8) (.tmp 26) rfl (w.heap.size + 1 + 1 + 1 + 1) #[.bool false, .slice none 0 0, .bool false, .slice none 0 0, .bool false, .slice none 0 0, .bool false, .slice none 0 0, .bool false, .slice none 0 0, .bool false, .slice none 0 0, .bool false, .slice none 0 0, .bool false, .slice none 0 0] rfl rfl 30 #[.bool false, .slice none 0 0, .bool false, .slice none 0 0, .bool false, .slice none 0 0, .bool false, .slice none 0 0, .bool false, .slice none 0 0, .bool false, .slice none 0 0, .bool false, .slice none 0 0, .bool false, .slice none 0 0] ownK (by kernel_rfl) rfl (by simp [Value.oneCell']) (fun w2 hrow => ?_)
      have Bn : Below w.heap.size w w2 := hrow.below belowB (by omega)
      replace oa : Blk w2 (w.heap.size) 23 #[.int .i64 ax, .int .i64 ay] := hrow.far ownK (show w.heap.size ≠ w.heap.size + 1 + 1 + 1 + 1 by omega)
      replace ob : Blk w2 (w.heap.size + 1) 23 #[.int .i64 bx, .int .i64 b_y] := hrow.far ownK (show w.heap.size + 1 ≠ w.heap.size + 1 + 1 + 1 + 1 by omega)
      replace oi : Blk w2 (w.heap.size + 1 + 1) 23 #[.int .i64 px, .int .i64 py] := hrow.far ownK (show w.heap.size + 1 + 1 ≠ w.heap.size + 1 + 1 + 1 + 1 by omega)
      replace oj : Blk w2 (w.heap.size + 1 + 1 + 1) 23 #[.int .i64 qx, .int .i64 qy] := hrow.far ownK (show w.heap.size + 1 + 1 + 1 ≠ w.heap.size + 1 + 1 + 1 + 1 by omega)
      replace or : Blk w2 (w.heap.size + 1 + 1 + 1 + 1) 30 #[.bool false, .slice none 0 0, .bool false, .slice none 0 0, .bool false, .slice none 0 0, .bool false, .slice none 0 0, .bool false, .slice none 0 0, .bool false, .slice none 0 0, .bool false, .slice none 0 0, .bool false, .slice none 0 0] := hrow.blk
      clear ca0 ca1 la cb0 cb1 lb li lj lr
      replace B := Bn
      clear Bn hrow
      skip)
    )
   skip
   refine bodyPost_ret (results_row2 rfl _ _ (w.heap.size + 1 + 1 + 1 + 1) rfl (cs := #[.bool false, .slice none 0 0, .bool false, .slice none 0 0, .bool false, .slice none 0 0, .bool false, .slice none 0 0, .bool false, .slice none 0 0, .bool false, .slice none 0 0, .bool false, .slice none 0 0, .bool false, .slice none 0 0]) ownK Tryz.underlying30 rfl (by kernel_rfl)) rfl ?_
   exact ⟨_, rfl, rfl, belowB⟩
  ·
   rw [if_neg he]
   have hE : (ax == bx && ay == b_y) = false := by cases h : (ax == bx && ay == b_y) with | false => rfl | true => exact absurd (by simp only [Bool.and_eq_true, beq_iff_eq] at h; rw [h.1, h.2]) he
   rw [hE] at qe
   have hn : csq (bx - ax) (b_y - ay) ≠ 0 := csq_pt he
   have SM := fun (w' : World) (g : Nat) (t : TypeId) (hc : Blk w' g t #[.int .i64 0]) => msimilar w' hc hok.1 hok.2.1 hok.2.2.1 hok.2.2.2 hn
   clear hok he hE hn
   generalize simT (ax, ay) (bx, b_y) (px, py) (qx, qy) = T at *
   go_enter Tryz.func11, Tryz.ntmps11
   go_wp2_with fail
   refine (ck _ (w.heap.size + 1 + 1 + 1 + 1 + 1) 23 ownK).mono ?_
   rintro e w1 ⟨rfl, hb1⟩
   have st : Steps _ w1 := hb1
   have B : Below w.heap.size w w1 := belowA st
   have oa : Blk w1 (w.heap.size) 23 #[.int .i64 ax, .int .i64 ay] := Blk.stepsK st
   have ob : Blk w1 (w.heap.size + 1) 23 #[.int .i64 bx, .int .i64 b_y] := Blk.stepsK st
   have oi : Blk w1 (w.heap.size + 1 + 1) 23 #[.int .i64 px, .int .i64 py] := Blk.stepsK st
   have oj : Blk w1 (w.heap.size + 1 + 1 + 1) 23 #[.int .i64 qx, .int .i64 qy] := Blk.stepsK st
   have or : Blk w1 (w.heap.size + 1 + 1 + 1 + 1) 30 #[.bool false, .slice none 0 0, .bool false, .slice none 0 0, .bool false, .slice none 0 0, .bool false, .slice none 0 0, .bool false, .slice none 0 0, .bool false, .slice none 0 0, .bool false, .slice none 0 0, .bool false, .slice none 0 0] := Blk.stepsK st
   clear st
   obtain ⟨ca0, ca1⟩ := oa.r1
   have la := oa.lt
   obtain ⟨cb0, cb1⟩ := ob.r1
   have lb := ob.lt
   obtain ⟨ci0, ci1⟩ := oi.r1
   have li := oi.lt
   obtain ⟨cj0, cj1⟩ := oj.r1
   have lj := oj.lt
   have lr := or.lt
   have zr_1 : w.heap.size + 1 + 1 + 1 + 1 < w1.heap.size := or.lt
   have zz1 := B.size
   go_wp2_with fail
   refine (SM _ (w1.heap.size) 89 ownK).mono ?_
   rintro e w2 ⟨vs, rfl, hvs, hb2⟩
   have st : Steps _ w2 := hb2
   have sk : Below w1.heap.size w1 w2 := belowA st
   replace B := below_steps B (Nat.le_refl _) sk
   have ov11 : Blk w2 (w1.heap.size) 89 #[.int .i64 0] := Blk.stepsK st
   replace oa := oa.steps sk
   replace ob := ob.steps sk
   replace oi := oi.steps sk
   replace oj := oj.steps sk
   replace or := or.steps sk
   clear st sk ca0 ca1 la cb0 cb1 lb ci0 ci1 li cj0 cj1 lj lr
   obtain ⟨ska1, ska2, ska3, ska4, ska5, ska6, ska7, ska8, skb1, skb2, skb3, skb4, skb5, skb6, skb7, skb8, skc1, skc2, skc3, skc4, skc5, skc6, skc7, skc8, skd1, skd2, skd3, skd4, skd5, skd6, skd7, skd8, rfl, h0s, h1s, h2s, h3s⟩ := hvs
   have Fs0 := Hid.mk_ h0s
   have Fs1 := Hid.mk_ h1s
   have Fs2 := Hid.mk_ h2s
   have Fs3 := Hid.mk_ h3s
   clear h0s h1s h2s h3s
   have zv11_2 : w1.heap.size < w2.heap.size := ov11.lt
   have zz2 := B.size
   go_wp2_with (first
    | (
      (with_reducible show wpList _ _ _ (⟨none, .store _ _ _, _, _, _, _⟩ :: _) _ _)
      refine store_big rfl 30 (.tmp 12) (.tmp 31) rfl (w2.heap.size) #[.bool ska1, .slice ska2 ska3 ska4, .bool ska5, .slice ska6 ska7 ska8, .bool skb1, .slice skb2 skb3 skb4, .bool skb5, .slice skb6 skb7 skb8, .bool skc1, .slice skc2 skc3 skc4, .bool skc5, .slice skc6 skc7 skc8, .bool skd1, .slice skd2 skd3 skd4, .bool skd5, .slice skd6 skd7 skd8] rfl rfl 30 #[.bool false, .slice none 0 0, .bool false, .slice none 0 0, .bool false, .slice none 0 0, .bool false, .slice none 0 0, .bool false, .slice none 0 0, .bool false, .slice none 0 0, .bool false, .slice none 0 0, .bool false, .slice none 0 0] ownK (by kernel_rfl) rfl (by simp [Value.oneCell']) (fun w3 hrow => ?_)
      have Bn : Below w.heap.size w w3 := hrow.below belowB (by omega)
      have kp : Keeps w2 w3 := Keeps.trans keepsB (hrow.keeps rfl)
      replace oa : Blk w3 (w.heap.size) 23 #[.int .i64 ax, .int .i64 ay] := hrow.far ownK (show w.heap.size ≠ w2.heap.size by omega)
      replace ob : Blk w3 (w.heap.size + 1) 23 #[.int .i64 bx, .int .i64 b_y] := hrow.far ownK (show w.heap.size + 1 ≠ w2.heap.size by omega)
      replace oi : Blk w3 (w.heap.size + 1 + 1) 23 #[.int .i64 px, .int .i64 py] := hrow.far ownK (show w.heap.size + 1 + 1 ≠ w2.heap.size by omega)
      replace oj : Blk w3 (w.heap.size + 1 + 1 + 1) 23 #[.int .i64 qx, .int .i64 qy] := hrow.far ownK (show w.heap.size + 1 + 1 + 1 ≠ w2.heap.size by omega)
      replace or : Blk w3 (w.heap.size + 1 + 1 + 1 + 1) 30 #[.bool false, .slice none 0 0, .bool false, .slice none 0 0, .bool false, .slice none 0 0, .bool false, .slice none 0 0, .bool false, .slice none 0 0, .bool false, .slice none 0 0, .bool false, .slice none 0 0, .bool false, .slice none 0 0] := hrow.far ownK (show w.heap.size + 1 + 1 + 1 + 1 ≠ w2.heap.size by omega)
      replace ov11 : Blk w3 (w1.heap.size) 89 #[.int .i64 0] := hrow.far ownK (show w1.heap.size ≠ w2.heap.size by omega)
      have ov12 : Blk w3 (w2.heap.size) 30 #[.bool ska1, .slice ska2 ska3 ska4, .bool ska5, .slice ska6 ska7 ska8, .bool skb1, .slice skb2 skb3 skb4, .bool skb5, .slice skb6 skb7 skb8, .bool skc1, .slice skc2 skc3 skc4, .bool skc5, .slice skc6 skc7 skc8, .bool skd1, .slice skd2 skd3 skd4, .bool skd5, .slice skd6 skd7 skd8] := hrow.blk
      replace B := Bn
      clear Bn hrow
      replace Fs0 := Hid.mk_ (Fs0.out.keeps kp)
      replace Fs1 := Hid.mk_ (Fs1.out.keeps kp)
      replace Fs2 := Hid.mk_ (Fs2.out.keeps kp)
      replace Fs3 := Hid.mk_ (Fs3.out.keeps kp)
      clear kp
      have cv110 := ov11.q0
      have lv11 := ov11.lt
      skip)
    | (
      (with_reducible show wpList _ _ _ (⟨some 38, _, _, _, _, _⟩ :: _) _ _)
      refine load_big rfl 30 (.tmp 12) rfl (w2.heap.size) rfl 30 #[.bool ska1, .slice ska2 ska3 ska4, .bool ska5, .slice ska6 ska7 ska8, .bool skb1, .slice skb2 skb3 skb4, .bool skb5, .slice skb6 skb7 skb8, .bool skc1, .slice skc2 skc3 skc4, .bool skc5, .slice skc6 skc7 skc8, .bool skd1, .slice skd2 skd3 skd4, .bool skd5, .slice skd6 skd7 skd8] _ ownK Tryz.underlying30 rfl (by kernel_rfl) ?_
      skip)
    | (
      (with_reducible show wpList _ _ _ (⟨none, .store _ _ _, _, _, _, _⟩ :: _) _ _)
      refine store_big rfl 30 (.tmp 8) (.tmp 38) rfl (w.heap.size + 1 + 1 + 1 + 1) #[.bool ska1, .slice ska2 ska3 ska4, .bool ska5, .slice ska6 ska7 ska8, .bool skb1, .slice skb2 skb3 skb4, .bool skb5, .slice skb6 skb7 skb8, .bool skc1, .slice skc2 skc3 skc4, .bool skc5, .slice skc6 skc7 skc8, .bool skd1, .slice skd2 skd3 skd4, .bool skd5, .slice skd6 skd7 skd8] rfl rfl 30 #[.bool false, .slice none 0 0, .bool false, .slice none 0 0, .bool false, .slice none 0 0, .bool false, .slice none 0 0, .bool false, .slice none 0 0, .bool false, .slice none 0 0, .bool false, .slice none 0 0, .bool false, .slice none 0 0] ownK (by kernel_rfl) rfl (by simp [Value.oneCell']) (fun w4 hrow => ?_)
      have Bn : Below w.heap.size w w4 := hrow.below belowB (by omega)
      have kp : Keeps w3 w4 := Keeps.trans keepsB (hrow.keeps rfl)
      replace oa : Blk w4 (w.heap.size) 23 #[.int .i64 ax, .int .i64 ay] := hrow.far ownK (show w.heap.size ≠ w.heap.size + 1 + 1 + 1 + 1 by omega)
      replace ob : Blk w4 (w.heap.size + 1) 23 #[.int .i64 bx, .int .i64 b_y] := hrow.far ownK (show w.heap.size + 1 ≠ w.heap.size + 1 + 1 + 1 + 1 by omega)
      replace oi : Blk w4 (w.heap.size + 1 + 1) 23 #[.int .i64 px, .int .i64 py] := hrow.far ownK (show w.heap.size + 1 + 1 ≠ w.heap.size + 1 + 1 + 1 + 1 by omega)
      replace oj : Blk w4 (w.heap.size + 1 + 1 + 1) 23 #[.int .i64 qx, .int .i64 qy] := hrow.far ownK (show w.heap.size + 1 + 1 + 1 ≠ w.heap.size + 1 + 1 + 1 + 1 by omega)
      replace or : Blk w4 (w.heap.size + 1 + 1 + 1 + 1) 30 #[.bool ska1, .slice ska2 ska3 ska4, .bool ska5, .slice ska6 ska7 ska8, .bool skb1, .slice skb2 skb3 skb4, .bool skb5, .slice skb6 skb7 skb8, .bool skc1, .slice skc2 skc3 skc4, .bool skc5, .slice skc6 skc7 skc8, .bool skd1, .slice skd2 skd3 skd4, .bool skd5, .slice skd6 skd7 skd8] := hrow.blk
      replace ov11 : Blk w4 (w1.heap.size) 89 #[.int .i64 0] := hrow.far ownK (show w1.heap.size ≠ w.heap.size + 1 + 1 + 1 + 1 by omega)
      replace ov12 : Blk w4 (w2.heap.size) 30 #[.bool ska1, .slice ska2 ska3 ska4, .bool ska5, .slice ska6 ska7 ska8, .bool skb1, .slice skb2 skb3 skb4, .bool skb5, .slice skb6 skb7 skb8, .bool skc1, .slice skc2 skc3 skc4, .bool skc5, .slice skc6 skc7 skc8, .bool skd1, .slice skd2 skd3 skd4, .bool skd5, .slice skd6 skd7 skd8] := hrow.far ownK (show w2.heap.size ≠ w.heap.size + 1 + 1 + 1 + 1 by omega)
      clear cv110 lv11
      replace B := Bn
      clear Bn hrow
      replace Fs0 := Hid.mk_ (Fs0.out.keeps kp)
      replace Fs1 := Hid.mk_ (Fs1.out.keeps kp)
      replace Fs2 := Hid.mk_ (Fs2.out.keeps kp)
      replace Fs3 := Hid.mk_ (Fs3.out.keeps kp)
      clear kp
      skip)
    )
   skip
   refine bodyPost_ret (results_row2 rfl _ _ (w.heap.size + 1 + 1 + 1 + 1) rfl (cs := #[.bool ska1, .slice ska2 ska3 ska4, .bool ska5, .slice ska6 ska7 ska8, .bool skb1, .slice skb2 skb3 skb4, .bool skb5, .slice skb6 skb7 skb8, .bool skc1, .slice skc2 skc3 skc4, .bool skc5, .slice skc6 skc7 skc8, .bool skd1, .slice skd2 skd3 skd4, .bool skd5, .slice skd6 skd7 skd8]) ownK Tryz.underlying30 rfl (by kernel_rfl)) rfl ?_
   exact ⟨_, rfl, ⟨_, _, _, _, _, _, _, _, _, _, _, _, _, _, _, _, _, _, _, _, _, _, _, _, _, _, _, _, _, _, _, _, rfl, Fs0.out.keeps keepsB, Fs1.out.keeps keepsB, Fs2.out.keeps keepsB, Fs3.out.keeps keepsB⟩, belowB⟩
 ·
  rw [if_neg hok] at ck
  rw [if_neg hok]
  clear hok qe
  go_enter Tryz.func11, Tryz.ntmps11
  go_wp2_with fail
  refine (ck _ (w.heap.size + 1 + 1 + 1 + 1 + 1) 23 ownK).mono ?_
  rintro e w1 ⟨rfl, hb1⟩
  have st : Steps _ w1 := hb1
  have B : Below w.heap.size w w1 := belowA st
  have oa : Blk w1 (w.heap.size) 23 #[.int .i64 ax, .int .i64 ay] := Blk.stepsK st
  have ob : Blk w1 (w.heap.size + 1) 23 #[.int .i64 bx, .int .i64 b_y] := Blk.stepsK st
  have oi : Blk w1 (w.heap.size + 1 + 1) 23 #[.int .i64 px, .int .i64 py] := Blk.stepsK st
  have oj : Blk w1 (w.heap.size + 1 + 1 + 1) 23 #[.int .i64 qx, .int .i64 qy] := Blk.stepsK st
  have or : Blk w1 (w.heap.size + 1 + 1 + 1 + 1) 30 #[.bool false, .slice none 0 0, .bool false, .slice none 0 0, .bool false, .slice none 0 0, .bool false, .slice none 0 0, .bool false, .slice none 0 0, .bool false, .slice none 0 0, .bool false, .slice none 0 0, .bool false, .slice none 0 0] := Blk.stepsK st
  clear st
  go_wp2_with (first
   | (
     (with_reducible show wpList _ _ _ (⟨some 21, _, _, _, _, _⟩ :: _) _ _)
     refine build_big rfl 30 #[] rfl #[.bool false, .slice none 0 0, .bool false, .slice none 0 0, .bool false, .slice none 0 0, .bool false, .slice none 0 0, .bool false, .slice none 0 0, .bool false, .slice none 0 0, .bool false, .slice none 0 0, .bool false, .slice none 0 0] (by kernel_rfl) ?_
     skip)
   | (
     (with_reducible show wpList _ _ _ (⟨none, .store _ _ _, _, _, _, _⟩ :: _) _ _)
     refine store_big rfl 30 (.tmp 8) (.tmp 21) rfl (w.heap.size + 1 + 1 + 1 + 1) #[.bool false, .slice none 0 0, .bool false, .slice none 0 0, .bool false, .slice none 0 0, .bool false, .slice none 0 0, .bool false, .slice none 0 0, .bool false, .slice none 0 0, .bool false, .slice none 0 0, .bool false, .slice none 0 0] rfl rfl 30 #[.bool false, .slice none 0 0, .bool false, .slice none 0 0, .bool false, .slice none 0 0, .bool false, .slice none 0 0, .bool false, .slice none 0 0, .bool false, .slice none 0 0, .bool false, .slice none 0 0, .bool false, .slice none 0 0] ownK (by kernel_rfl) rfl (by simp [Value.oneCell']) (fun w2 hrow => ?_)
     have Bn : Below w.heap.size w w2 := hrow.below belowB (by omega)
     replace oa : Blk w2 (w.heap.size) 23 #[.int .i64 ax, .int .i64 ay] := hrow.far ownK (show w.heap.size ≠ w.heap.size + 1 + 1 + 1 + 1 by omega)
     replace ob : Blk w2 (w.heap.size + 1) 23 #[.int .i64 bx, .int .i64 b_y] := hrow.far ownK (show w.heap.size + 1 ≠ w.heap.size + 1 + 1 + 1 + 1 by omega)
     replace oi : Blk w2 (w.heap.size + 1 + 1) 23 #[.int .i64 px, .int .i64 py] := hrow.far ownK (show w.heap.size + 1 + 1 ≠ w.heap.size + 1 + 1 + 1 + 1 by omega)
     replace oj : Blk w2 (w.heap.size + 1 + 1 + 1) 23 #[.int .i64 qx, .int .i64 qy] := hrow.far ownK (show w.heap.size + 1 + 1 + 1 ≠ w.heap.size + 1 + 1 + 1 + 1 by omega)
     replace or : Blk w2 (w.heap.size + 1 + 1 + 1 + 1) 30 #[.bool false, .slice none 0 0, .bool false, .slice none 0 0, .bool false, .slice none 0 0, .bool false, .slice none 0 0, .bool false, .slice none 0 0, .bool false, .slice none 0 0, .bool false, .slice none 0 0, .bool false, .slice none 0 0] := hrow.blk
     replace B := Bn
     clear Bn hrow
     skip)
   )
  skip
  refine bodyPost_ret (results_row2 rfl _ _ (w.heap.size + 1 + 1 + 1 + 1) rfl (cs := #[.bool false, .slice none 0 0, .bool false, .slice none 0 0, .bool false, .slice none 0 0, .bool false, .slice none 0 0, .bool false, .slice none 0 0, .bool false, .slice none 0 0, .bool false, .slice none 0 0, .bool false, .slice none 0 0]) ownK Tryz.underlying30 rfl (by kernel_rfl)) rfl ?_
  exact ⟨_, rfl, rfl, belowB⟩
def f4v {α : Type} (a b c d : α) (i : Nat) : α := match i with | 0 => a | 1 => b | 2 => c | _ => d
def FewL (O : Nat → Option Rat) (LA LB : Nat → Nat) (n : Nat) : Prop := ∀ i, i < n → ∀ q, O i = some q → absN q.num ≤ bp (LA i) ∧ (q.den : Int) ≤ bp (LB i)
def FO (w : World) (v : Value) : Option Rat → Prop
 | some r => FR w v r
 | none => v = .agg #[.bool false, .slice none 0 0, .bool false, .slice none 0 0]
theorem FO.keeps {w w' : World} {v : Value} {o : Option Rat} (h : FO w v o) (k : Keeps w w') : FO w' v o := by
 cases o with
 | none => exact h
 | some r => exact FR.keeps h k
theorem limF_get {most : Nat} {o : Option Rat} {p q : Nat} (h : limF most o p q = true) : p ≤ most ∧ q ≤ most ∧ ∃ r, o = some r := by
 unfold limF at h
 simp only [Bool.and_eq_true, decide_eq_true_eq] at h
 exact ⟨h.1.1, h.1.2, Option.isSome_iff_exists.1 h.2⟩
theorem limL_get {most : Nat} {O : Nat → Option Rat} {LA LB : Nat → Nat} : ∀ {n : Nat}, limL most O LA LB n = true → ∀ i, i < n → limF most (O i) (LA i) (LB i) = true
 | n + 1, h, i, hi => by
  unfold limL at h
  simp only [Bool.and_eq_true] at h
  rcases Nat.lt_or_ge i n with g | g
  · exact limL_get h.1 i g
  ·
   obtain rfl : i = n := by omega
   exact h.2
theorem bp_mono' {i j : Nat} (h : i ≤ j) : bp i ≤ bp j := by
 unfold bp
 exact Int.ofNat_le.2 (Nat.pow_le_pow_right (by decide) h)
theorem limL_sz {most : Nat} {O : Nat → Option Rat} {LA LB : Nat → Nat} {n : Nat} (h : limL most O LA LB n = true) (f : FewL O LA LB n) (i : Nat) (hi : i < n) : ∃ r, O i = some r ∧ sz r most := by
 obtain ⟨h1, h2, r, e⟩ := limF_get (limL_get h i hi)
 obtain ⟨f1, f2⟩ := f i hi r e
 have p1 := bp_mono' h1
 have p2 := bp_mono' h2
 exact ⟨r, e, by omega, by omega⟩
theorem fls4 {ka1 ka5 kb1 kb5 kc1 kc5 kd1 kd5 : Bool} {ka2 ka6 kb2 kb6 kc2 kc6 kd2 kd6 : Option Addr} {ka3 ka4 ka7 ka8 kb3 kb4 kb7 kb8 kc3 kc4 kc7 kc8 kd3 kd4 kd7 kd8 : Nat} {w : World} {g : Nat} {t : TypeId} {O : Nat → Option Rat} (h : Blk w g t #[.bool ka1, .slice ka2 ka3 ka4, .bool ka5, .slice ka6 ka7 ka8, .bool kb1, .slice kb2 kb3 kb4, .bool kb5, .slice kb6 kb7 kb8, .bool kc1, .slice kc2 kc3 kc4, .bool kc5, .slice kc6 kc7 kc8, .bool kd1, .slice kd2 kd3 kd4, .bool kd5, .slice kd6 kd7 kd8]) (b0 : FB w (.agg #[.bool ka1, .slice ka2 ka3 ka4, .bool ka5, .slice ka6 ka7 ka8]) (O 0)) (b1 : FB w (.agg #[.bool kb1, .slice kb2 kb3 kb4, .bool kb5, .slice kb6 kb7 kb8]) (O 1)) (b2 : FB w (.agg #[.bool kc1, .slice kc2 kc3 kc4, .bool kc5, .slice kc6 kc7 kc8]) (O 2)) (b3 : FB w (.agg #[.bool kd1, .slice kd2 kd3 kd4, .bool kd5, .slice kd6 kd7 kd8]) (O 3)) : FLs w (.slice (some ⟨g, 0, none⟩) 4 4) 4 O (f4v ka3 kb3 kc3 kd3) (f4v ka7 kb7 kc7 kd7) := by
 refine ⟨g, 0, 4, rfl, Nat.le_refl _, h.lt, fun i hi => ?_⟩
 have : i = 0 ∨ i = 1 ∨ i = 2 ∨ i = 3 := by omega
 rcases this with rfl | rfl | rfl | rfl
 · exact ⟨_, _, _, _, _, _, h.c 0 rfl, h.c 1 rfl, h.c 2 rfl, h.c 3 rfl, b0⟩
 · exact ⟨_, _, _, _, _, _, h.c 4 rfl, h.c 5 rfl, h.c 6 rfl, h.c 7 rfl, b1⟩
 · exact ⟨_, _, _, _, _, _, h.c 8 rfl, h.c 9 rfl, h.c 10 rfl, h.c 11 rfl, b2⟩
 · exact ⟨_, _, _, _, _, _, h.c 12 rfl, h.c 13 rfl, h.c 14 rfl, h.c 15 rfl, b3⟩
def apOk (O : Nat → Option Rat) (LA LB : Nat → Nat) (p : Int × Int) : Bool := limL 16 O LA LB 4 && decide (okP p)
def apErr (b : Bool) : Int := if b then 0 else 8
def apRes (b : Bool) (r : Rat) : Option Rat := if b then some r else none
theorem mApply {ka1 ka5 kb1 kb5 kc1 kc5 kd1 kd5 : Bool} {ka2 ka6 kb2 kb6 kc2 kc6 kd2 kd6 : Option Addr} {ka3 ka4 ka7 ka8 kb3 kb4 kb7 kb8 kc3 kc4 kc7 kc8 kd3 kd4 kd7 kd8 : Nat} {O : Nat → Option Rat} (px py : Int) (w : World) (b0 : FB w (.agg #[.bool ka1, .slice ka2 ka3 ka4, .bool ka5, .slice ka6 ka7 ka8]) (O 0)) (b1 : FB w (.agg #[.bool kb1, .slice kb2 kb3 kb4, .bool kb5, .slice kb6 kb7 kb8]) (O 1)) (b2 : FB w (.agg #[.bool kc1, .slice kc2 kc3 kc4, .bool kc5, .slice kc6 kc7 kc8]) (O 2)) (b3 : FB w (.agg #[.bool kd1, .slice kd2 kd3 kd4, .bool kd5, .slice kd6 kd7 kd8]) (O 3)) (fw : FewL O (f4v ka3 kb3 kc3 kd3) (f4v ka7 kb7 kc7 kd7) 4) (rx : (-9223372036854775808 ≤ px ∧ px ≤ 9223372036854775807)) (ry : (-9223372036854775808 ≤ py ∧ py ≤ 9223372036854775807)) :
  Calls Tryz.prog 13 #[.agg #[.bool ka1, .slice ka2 ka3 ka4, .bool ka5, .slice ka6 ka7 ka8, .bool kb1, .slice kb2 kb3 kb4, .bool kb5, .slice kb6 kb7 kb8, .bool kc1, .slice kc2 kc3 kc4, .bool kc5, .slice kc6 kc7 kc8, .bool kd1, .slice kd2 kd3 kd4, .bool kd5, .slice kd6 kd7 kd8], .agg #[.int .i64 px, .int .i64 py]] w fun e w' => ∃ u v, e = .returned (.tuple #[u, v, .int .i64 (apErr (apOk O (f4v ka3 kb3 kc3 kd3) (f4v ka7 kb7 kc7 kd7) (px, py)))]) ∧ FO w' u (apRes (apOk O (f4v ka3 kb3 kc3 kd3) (f4v ka7 kb7 kc7 kd7) (px, py)) (apX (fun i => (O i).getD 0) (px, py))) ∧ FO w' v (apRes (apOk O (f4v ka3 kb3 kc3 kd3) (f4v ka7 kb7 kc7 kd7) (px, py)) (apY (fun i => (O i).getD 0) (px, py))) ∧ Steps w w' := by
 have LM : ∀ w' g t, Keeps w w' → Blk w' g t #[.bool ka1, .slice ka2 ka3 ka4, .bool ka5, .slice ka6 ka7 ka8, .bool kb1, .slice kb2 kb3 kb4, .bool kb5, .slice kb6 kb7 kb8, .bool kc1, .slice kc2 kc3 kc4, .bool kc5, .slice kc6 kc7 kc8, .bool kd1, .slice kd2 kd3 kd4, .bool kd5, .slice kd6 kd7 kd8] → Calls Tryz.prog 41 #[.int .i64 16, .slice (some ⟨g, 0, none⟩) 4 4] w' fun e w2 => e = .returned (.bool (limL 16 O (f4v ka3 kb3 kc3 kd3) (f4v ka7 kb7 kc7 kd7) 4)) ∧ Steps w' w2 := fun w' g t k hb => mlimited 16 w' (fls4 hb (b0.keeps k) (b1.keeps k) (b2.keeps k) (b3.keeps k)) (by omega)
 have PC : ∀ w' g t, Blk w' g t #[.int .i64 px, .int .i64 py] → Calls Tryz.prog 37 #[.slice (some ⟨g, 0, none⟩) 1 1] w' fun e w2 => e = .returned (.int .i64 (if okP (px, py) then 0 else 8)) ∧ Steps w' w2 := fun w' g t hb => by
  have := qcheckP w' (pts_one hb rx ry) (by simp)
  rw [chk_one] at this
  exact this
 have AP : limL 16 O (f4v ka3 kb3 kc3 kd3) (f4v ka7 kb7 kc7 kd7) 4 = true → okP (px, py) → ∀ w' g t, Steps w w' → Blk w' g t #[.int .i64 0] → Calls Tryz.prog 42 #[.pointer (some ⟨g, 0, none⟩), .agg #[.bool ka1, .slice ka2 ka3 ka4, .bool ka5, .slice ka6 ka7 ka8, .bool kb1, .slice kb2 kb3 kb4, .bool kb5, .slice kb6 kb7 kb8, .bool kc1, .slice kc2 kc3 kc4, .bool kc5, .slice kc6 kc7 kc8, .bool kd1, .slice kd2 kd3 kd4, .bool kd5, .slice kd6 kd7 kd8], .agg #[.int .i64 px, .int .i64 py]] w' fun e w2 => ∃ u v, e = .returned (.tuple #[u, v]) ∧ FR w2 u (apX (fun i => (O i).getD 0) (px, py)) ∧ FR w2 v (apY (fun i => (O i).getD 0) (px, py)) ∧ Steps w' w2 := fun hL hp w' g t s hb => by
  obtain ⟨r0, e0, z0⟩ := limL_sz hL fw 0 (by omega)
  obtain ⟨r1, e1, z1⟩ := limL_sz hL fw 1 (by omega)
  obtain ⟨r2, e2, z2⟩ := limL_sz hL fw 2 (by omega)
  obtain ⟨r3, e3, z3⟩ := limL_sz hL fw 3 (by omega)
  have k := Keeps.steps s
  rw [e0] at b0
  rw [e1] at b1
  rw [e2] at b2
  rw [e3] at b3
  have g0 : (O 0).getD 0 = r0 := by rw [e0]; rfl
  have g1 : (O 1).getD 0 = r1 := by rw [e1]; rfl
  have g2 : (O 2).getD 0 = r2 := by rw [e2]; rfl
  have g3 : (O 3).getD 0 = r3 := by rw [e3]; rfl
  exact mapply px py w' hb (g0.symm ▸ FR.keeps b0 k) (g1.symm ▸ FR.keeps b1 k) (g2.symm ▸ FR.keeps b2 k) (g3.symm ▸ FR.keeps b3 k) (g0.symm ▸ z0.mono (by omega)) (g1.symm ▸ z1.mono (by omega)) (g2.symm ▸ z2.mono (by omega)) (g3.symm ▸ z3.mono (by omega)) ⟨hp.1, hp.2.1⟩ ⟨hp.2.2.1, hp.2.2.2⟩
 generalize apX (fun i => (O i).getD 0) (px, py) = X at *
 generalize apY (fun i => (O i).getD 0) (px, py) = Y at *
 unfold apOk
 generalize limL 16 O (f4v ka3 kb3 kc3 kd3) (f4v ka7 kb7 kc7 kd7) 4 = L at *
 clear b0 b1 b2 b3 fw rx ry
 cases L with
 | false =>
  rw [Bool.false_and]
  clear AP PC
  go_enter Tryz.func13, Tryz.ntmps13
  go_wp2_with fail
  refine (LM _ (w.heap.size + 1 + 1 + 1 + 1) 28 keepsB ownK).mono ?_
  rintro e w1 ⟨rfl, hb1⟩
  have st : Steps _ w1 := hb1
  have B : Below w.heap.size w w1 := belowA st
  have ot : Blk w1 (w.heap.size) 30 #[.bool ka1, .slice ka2 ka3 ka4, .bool ka5, .slice ka6 ka7 ka8, .bool kb1, .slice kb2 kb3 kb4, .bool kb5, .slice kb6 kb7 kb8, .bool kc1, .slice kc2 kc3 kc4, .bool kc5, .slice kc6 kc7 kc8, .bool kd1, .slice kd2 kd3 kd4, .bool kd5, .slice kd6 kd7 kd8] := Blk.stepsK st
  have oi : Blk w1 (w.heap.size + 1) 23 #[.int .i64 px, .int .i64 py] := Blk.stepsK st
  have or : Blk w1 (w.heap.size + 1 + 1) 28 #[.bool false, .slice none 0 0, .bool false, .slice none 0 0] := Blk.stepsK st
  have oq : Blk w1 (w.heap.size + 1 + 1 + 1) 28 #[.bool false, .slice none 0 0, .bool false, .slice none 0 0] := Blk.stepsK st
  clear st
  have lt := ot.lt
  have li := oi.lt
  obtain ⟨cr0, cr1, cr2, cr3, fr, lr⟩ := or.s3
  obtain ⟨cq0, cq1, cq2, cq3, fq, lq⟩ := oq.s3
  go_wp2_with fail
  refine bodyPost_ret (by simp [results, Tryz.results13, go_sem, lt, li, cr0, cr1, cr2, cr3, fr, lr, cq0, cq1, cq2, cq3, fq, lq]; rfl) rfl ?_
  exact ⟨_, _, rfl, rfl, rfl, belowB⟩
 | true =>
  rw [Bool.true_and]
  by_cases hp : okP (px, py)
  ·
   rw [if_pos hp] at PC
   rw [decide_eq_true hp]
   have AQ := AP rfl hp
   clear AP hp
   go_enter Tryz.func13, Tryz.ntmps13
   go_wp2_with fail
   refine (LM _ (w.heap.size + 1 + 1 + 1 + 1) 28 keepsB ownK).mono ?_
   rintro e w1 ⟨rfl, hb1⟩
   have st : Steps _ w1 := hb1
   have B : Below w.heap.size w w1 := belowA st
   have ot : Blk w1 (w.heap.size) 30 #[.bool ka1, .slice ka2 ka3 ka4, .bool ka5, .slice ka6 ka7 ka8, .bool kb1, .slice kb2 kb3 kb4, .bool kb5, .slice kb6 kb7 kb8, .bool kc1, .slice kc2 kc3 kc4, .bool kc5, .slice kc6 kc7 kc8, .bool kd1, .slice kd2 kd3 kd4, .bool kd5, .slice kd6 kd7 kd8] := Blk.stepsK st
   have oi : Blk w1 (w.heap.size + 1) 23 #[.int .i64 px, .int .i64 py] := Blk.stepsK st
   have or : Blk w1 (w.heap.size + 1 + 1) 28 #[.bool false, .slice none 0 0, .bool false, .slice none 0 0] := Blk.stepsK st
   have oq : Blk w1 (w.heap.size + 1 + 1 + 1) 28 #[.bool false, .slice none 0 0, .bool false, .slice none 0 0] := Blk.stepsK st
   clear st
   have lt := ot.lt
   obtain ⟨ci0, ci1⟩ := oi.r1
   have li := oi.lt
   have lr := or.lt
   have lq := oq.lt
   have zq_1 : w.heap.size + 1 + 1 + 1 < w1.heap.size := oq.lt
   have zz1 := B.size
   go_wp2_with fail
   refine (PC _ (w1.heap.size) 23 ownK).mono ?_
   rintro e w2 ⟨rfl, hb2⟩
   have st : Steps _ w2 := hb2
   have sk : Below w1.heap.size w1 w2 := belowA st
   replace B := below_steps B (Nat.le_refl _) sk
   replace ot := ot.steps sk
   replace oi := oi.steps sk
   replace or := or.steps sk
   replace oq := oq.steps sk
   clear st sk lt ci0 ci1 li lr lq
   have lt := ot.lt
   obtain ⟨ci0, ci1⟩ := oi.r1
   have li := oi.lt
   have lr := or.lt
   have lq := oq.lt
   have zq_2 : w.heap.size + 1 + 1 + 1 < w2.heap.size := oq.lt
   have zz2 := B.size
   go_wp2_with (first
    | (
      (with_reducible show wpList _ _ _ (⟨some 28, _, _, _, _, _⟩ :: _) _ _)
      refine load_big rfl 30 (.tmp 2) rfl (w.heap.size) rfl 30 #[.bool ka1, .slice ka2 ka3 ka4, .bool ka5, .slice ka6 ka7 ka8, .bool kb1, .slice kb2 kb3 kb4, .bool kb5, .slice kb6 kb7 kb8, .bool kc1, .slice kc2 kc3 kc4, .bool kc5, .slice kc6 kc7 kc8, .bool kd1, .slice kd2 kd3 kd4, .bool kd5, .slice kd6 kd7 kd8] _ ownK Tryz.underlying30 rfl (by kernel_rfl) ?_
      skip)
    )
   refine (AQ _ (w2.heap.size) 89 belowB ownK).mono ?_
   rintro e w3 ⟨vx, vy, rfl, hvx, hvy, hb3⟩
   have st : Steps _ w3 := hb3
   have sk : Below w2.heap.size w2 w3 := belowA st
   replace B := below_steps B (Nat.le_refl _) sk
   have ov7 : Blk w3 (w2.heap.size) 89 #[.int .i64 0] := Blk.stepsK st
   replace ot := ot.steps sk
   replace oi := oi.steps sk
   replace or := or.steps sk
   replace oq := oq.steps sk
   clear st sk lt ci0 ci1 li lr lq
   have lt := ot.lt
   have li := oi.lt
   obtain ⟨cr0, cr1, cr2, cr3, fr, lr⟩ := or.s3
   obtain ⟨cq0, cq1, cq2, cq3, fq, lq⟩ := oq.s3
   have cv70 := ov7.q0
   have lv7 := ov7.lt
   obtain ⟨x1, x2, x3, x4, x5, x6, x7, x8, rfl⟩ := hvx.shape
   obtain ⟨y1, y2, y3, y4, y5, y6, y7, y8, rfl⟩ := hvy.shape
   have Fx := Hid.mk_ hvx
   clear hvx
   have Fy := Hid.mk_ hvy
   clear hvy
   go_wp2_with fail
   have zv7_3 : w2.heap.size < w3.heap.size := ov7.lt
   have zz3 := B.size
   go_upto_region 7 with fail
   refine Reg.wp_chain_n (fun N0 D v W => Below w.heap.size w W ∧ Keeps w3 W ∧ N0 ≤ W.heap.size ∧ Blk W (w.heap.size) 30 #[.bool ka1, .slice ka2 ka3 ka4, .bool ka5, .slice ka6 ka7 ka8, .bool kb1, .slice kb2 kb3 kb4, .bool kb5, .slice kb6 kb7 kb8, .bool kc1, .slice kc2 kc3 kc4, .bool kc5, .slice kc6 kc7 kc8, .bool kd1, .slice kd2 kd3 kd4, .bool kd5, .slice kd6 kd7 kd8] ∧ Blk W (w.heap.size + 1) 23 #[.int .i64 px, .int .i64 py] ∧ ((D 2 = false → Blk W (w.heap.size + 1 + 1) 28 #[.bool x1, .slice x2 x3 x4, .bool x5, .slice x6 x7 x8]) ∧ (D 2 = true → Blk W (w.heap.size + 1 + 1) 28 #[.bool x1, .slice x2 x3 x4, .bool x5, .slice x6 x7 x8])) ∧ ((D 3 = false → Blk W (w.heap.size + 1 + 1 + 1) 28 #[.bool y1, .slice y2 y3 y4, .bool y5, .slice y6 y7 y8]) ∧ (D 3 = true → Blk W (w.heap.size + 1 + 1 + 1) 28 #[.bool y1, .slice y2 y3 y4, .bool y5, .slice y6 y7 y8])) ∧ Blk W (w2.heap.size) 89 #[.int .i64 0])
    (Reg.inl [2, 3]) (Reg.gv []) (gw []) (fun _ => Keeps) (fun _ _ => False) (Reg.pl [(5, [])]) (Reg.pl [(0, [2]), (1, [3])])
    (by kernel_rfl) (by kernel_rfl) (by kernel_rfl) (Reg.gv_some _ (by intro p hp; cases hp)) (fun N0 hN0 => ⟨fun v => ?_, fun D v v' W hv hj => ?_, fun D v k j W W' x _ _ _ _ hk hg => gw_keeps _ (by intro p hp; cases hp) hk hg, fun _ _ _ _ h => h.elim, fun ops' Q' hops hQ => ?_⟩)
   · exact ⟨belowB, keepsB, by first | with_reducible exact Nat.le_of_eq hN0.out | (simp only [World.size_drew]; with_reducible exact Nat.le_of_eq hN0.out), ownK, ownK, ⟨fun _ => ownK, (fun h => Bool.noConfusion h)⟩, ⟨fun _ => ownK, (fun h => Bool.noConfusion h)⟩, ownK⟩
   ·
    obtain ⟨j0, jk, jn, b_t, b_i, b_r, b_q, b_v7⟩ := hj
    exact ⟨j0, jk, jn, b_t, b_i, b_r, b_q, b_v7⟩
   have eN := hN0.out
   try simp only [World.size_alloc, World.size_setCell, World.size_drew, World.heap_drewN] at eN
   have i_t : w.heap.size < N0 := by first | omega | (have h := ot.lt; omega)
   have i_i : w.heap.size + 1 < N0 := by first | omega | (have h := oi.lt; omega)
   have i_r : w.heap.size + 1 + 1 < N0 := by first | omega | (have h := or.lt; omega)
   have i_q : w.heap.size + 1 + 1 + 1 < N0 := by first | omega | (have h := oq.lt; omega)
   have i_v7 : w2.heap.size < N0 := by first | omega | (have h := ov7.lt; omega)
   have iw : w.heap.size ≤ N0 := by first | omega | (have h := B.size; omega)
   clear lt li cr0 cr1 cr2 cr3 fr lr cq0 cq1 cq2 cq3 fq lq cv70 lv7
   clear hN0
   apply Reg.RP rfl rfl rfl 40 rfl rfl
   ·
    intro D v' W' hc hj hf K hK
    obtain ⟨j0, jk, jn, b_t, b_i, b_r, b_q, b_v7⟩ := hj
    have b_r := b_r.1 (hc.2 2 (by decide))
    obtain ⟨c0, c1, c2, c3⟩ := b_r.r3
    go_step
    exact hK.out
   · rfl
   apply Reg.RP rfl rfl rfl 41 rfl rfl
   ·
    intro D v' W' hc hj hf K hK
    obtain ⟨j0, jk, jn, b_t, b_i, b_r, b_q, b_v7⟩ := hj
    have b_q := b_q.1 (hc.2 3 (by decide))
    obtain ⟨c0, c1, c2, c3⟩ := b_q.r3
    go_step
    exact hK.out
   · rfl
   refine Reg.RC_call rfl (by intro t ht; cases ht) rfl (fun D v' W' hc hj hf K hK => ?_) (fun _ _ => Reg.RC_at (b := ⟨_, _⟩) rfl ?_)
   ·
    obtain ⟨j0, jk, jn, b_t, b_i, b_r, b_q, b_v7⟩ := hj
    have hb := b_r.1 hc.1
    have e2 : w.heap.size ≤ w.heap.size + 1 + 1 := by omega
    have ff := hb.fr
    obtain ⟨cc0, cc1, cc2, cc3⟩ := hb.r3
    go_step
    exact hK.out undef _ (keeps4 hb rfl) ⟨(below4 j0 (by show w.heap.size ≤ w.heap.size + 1 + 1; omega)), jk.trans (keeps4 hb rfl), by simpa using jn, (b_t).far4 (show w.heap.size ≠ w.heap.size + 1 + 1 by omega), (b_i).far4 (show w.heap.size + 1 ≠ w.heap.size + 1 + 1 by omega), ⟨fun h => Bool.noConfusion h, fun _ => (Blk.set2 (cs' := #[.bool x1, .slice x2 x3 x4, .bool x5, .slice x6 x7 x8]) (Blk.set2 (cs' := #[.bool x1, .slice x2 x3 x4, .bool x5, .slice x6 x7 x8]) (Blk.set2 (cs' := #[.bool x1, .slice x2 x3 x4, .bool x5, .slice x6 x7 x8]) (Blk.set2 (cs' := #[.bool x1, .slice x2 x3 x4, .bool x5, .slice x6 x7 x8]) hb (i := 0) rfl) (i := 1) rfl) (i := 2) rfl) (i := 3) rfl)⟩, ⟨fun h => (b_q.1 h).far4 (show w.heap.size + 1 + 1 + 1 ≠ w.heap.size + 1 + 1 by omega), fun h => (b_q.2 h).far4 (show w.heap.size + 1 + 1 + 1 ≠ w.heap.size + 1 + 1 by omega)⟩, (b_v7).far4 (show w2.heap.size ≠ w.heap.size + 1 + 1 by omega)⟩ trivial trivial
   refine Reg.RC_call rfl (by intro t ht; cases ht) rfl (fun D v' W' hc hj hf K hK => ?_) (fun _ _ => Reg.RC_at (b := ⟨_, _⟩) rfl ?_)
   ·
    obtain ⟨j0, jk, jn, b_t, b_i, b_r, b_q, b_v7⟩ := hj
    have hb := b_q.1 hc.1
    have e2 : w.heap.size ≤ w.heap.size + 1 + 1 + 1 := by omega
    have ff := hb.fr
    obtain ⟨cc0, cc1, cc2, cc3⟩ := hb.r3
    go_step
    exact hK.out undef _ (keeps4 hb rfl) ⟨(below4 j0 (by show w.heap.size ≤ w.heap.size + 1 + 1 + 1; omega)), jk.trans (keeps4 hb rfl), by simpa using jn, (b_t).far4 (show w.heap.size ≠ w.heap.size + 1 + 1 + 1 by omega), (b_i).far4 (show w.heap.size + 1 ≠ w.heap.size + 1 + 1 + 1 by omega), ⟨fun h => (b_r.1 h).far4 (show w.heap.size + 1 + 1 ≠ w.heap.size + 1 + 1 + 1 by omega), fun h => (b_r.2 h).far4 (show w.heap.size + 1 + 1 ≠ w.heap.size + 1 + 1 + 1 by omega)⟩, ⟨fun h => Bool.noConfusion h, fun _ => (Blk.set2 (cs' := #[.bool y1, .slice y2 y3 y4, .bool y5, .slice y6 y7 y8]) (Blk.set2 (cs' := #[.bool y1, .slice y2 y3 y4, .bool y5, .slice y6 y7 y8]) (Blk.set2 (cs' := #[.bool y1, .slice y2 y3 y4, .bool y5, .slice y6 y7 y8]) (Blk.set2 (cs' := #[.bool y1, .slice y2 y3 y4, .bool y5, .slice y6 y7 y8]) hb (i := 0) rfl) (i := 1) rfl) (i := 2) rfl) (i := 3) rfl)⟩, (b_v7).far4 (show w2.heap.size ≠ w.heap.size + 1 + 1 + 1 by omega)⟩ trivial trivial
   refine Reg.RP0 6 ?_
   refine Reg.RC_end (fun Dn v' w4 hd hj hf => ?_)
   obtain ⟨j0, jk, jn, b_t, b_i, b_r, b_q, b_v7⟩ := hj
   have B := j0
   have ot := b_t
   clear b_t
   have oi := b_i
   clear b_i
   have or := b_r.2 (hd 2 (Nat.le_of_ble_eq_true rfl))
   clear b_r
   have oq := b_q.2 (hd 3 (Nat.le_of_ble_eq_true rfl))
   clear b_q
   have ov7 := b_v7
   clear b_v7
   replace Fx := Hid.mk_ (Fx.out.keeps jk)
   replace Fy := Hid.mk_ (Fy.out.keeps jk)
   clear hd hf jk j0
   refine hQ _ _ ?_
   clear hQ hops Q' ops'
   have lt := ot.lt
   have li := oi.lt
   obtain ⟨cr0, cr1, cr2, cr3⟩ := or.r3
   have lr := or.lt
   obtain ⟨cq0, cq1, cq2, cq3⟩ := oq.r3
   have lq := oq.lt
   go_wp2_with fail
   refine bodyPost_ret (by simp [results, Tryz.results13, go_sem, lt, li, cr0, cr1, cr2, cr3, lr, cq0, cq1, cq2, cq3, lq]; rfl) rfl ?_
   exact ⟨_, _, rfl, Fx.out.keeps keepsB, Fy.out.keeps keepsB, belowB⟩
  ·
   rw [if_neg hp] at PC
   rw [decide_eq_false hp]
   clear AP hp
   go_enter Tryz.func13, Tryz.ntmps13
   go_wp2_with fail
   refine (LM _ (w.heap.size + 1 + 1 + 1 + 1) 28 keepsB ownK).mono ?_
   rintro e w1 ⟨rfl, hb1⟩
   have st : Steps _ w1 := hb1
   have B : Below w.heap.size w w1 := belowA st
   have ot : Blk w1 (w.heap.size) 30 #[.bool ka1, .slice ka2 ka3 ka4, .bool ka5, .slice ka6 ka7 ka8, .bool kb1, .slice kb2 kb3 kb4, .bool kb5, .slice kb6 kb7 kb8, .bool kc1, .slice kc2 kc3 kc4, .bool kc5, .slice kc6 kc7 kc8, .bool kd1, .slice kd2 kd3 kd4, .bool kd5, .slice kd6 kd7 kd8] := Blk.stepsK st
   have oi : Blk w1 (w.heap.size + 1) 23 #[.int .i64 px, .int .i64 py] := Blk.stepsK st
   have or : Blk w1 (w.heap.size + 1 + 1) 28 #[.bool false, .slice none 0 0, .bool false, .slice none 0 0] := Blk.stepsK st
   have oq : Blk w1 (w.heap.size + 1 + 1 + 1) 28 #[.bool false, .slice none 0 0, .bool false, .slice none 0 0] := Blk.stepsK st
   clear st
   have lt := ot.lt
   obtain ⟨ci0, ci1⟩ := oi.r1
   have li := oi.lt
   have lr := or.lt
   have lq := oq.lt
   have zq_1 : w.heap.size + 1 + 1 + 1 < w1.heap.size := oq.lt
   have zz1 := B.size
   go_wp2_with fail
   refine (PC _ (w1.heap.size) 23 ownK).mono ?_
   rintro e w2 ⟨rfl, hb2⟩
   have st : Steps _ w2 := hb2
   have sk : Below w1.heap.size w1 w2 := belowA st
   replace B := below_steps B (Nat.le_refl _) sk
   replace ot := ot.steps sk
   replace oi := oi.steps sk
   replace or := or.steps sk
   replace oq := oq.steps sk
   clear st sk lt ci0 ci1 li lr lq
   have lt := ot.lt
   have li := oi.lt
   obtain ⟨cr0, cr1, cr2, cr3, fr, lr⟩ := or.s3
   obtain ⟨cq0, cq1, cq2, cq3, fq, lq⟩ := oq.s3
   go_wp2_with fail
   refine bodyPost_ret (by simp [results, Tryz.results13, go_sem, lt, li, cr0, cr1, cr2, cr3, fr, lr, cq0, cq1, cq2, cq3, fq, lq]; rfl) rfl ?_
   exact ⟨_, _, rfl, rfl, rfl, belowB⟩
theorem rValid21 {ka1 ka5 kb1 kb5 kc1 kc5 kd1 kd5 : Bool} {ka2 ka6 kb2 kb6 kc2 kc6 kd2 kd6 : Option Addr} {ka3 ka4 ka7 ka8 kb3 kb4 kb7 kb8 kc3 kc4 kc7 kc8 kd3 kd4 kd7 kd8 : Nat} {O : Nat → Option Rat} (w : World) (b0 : FB w (.agg #[.bool ka1, .slice ka2 ka3 ka4, .bool ka5, .slice ka6 ka7 ka8]) (O 0)) (b1 : FB w (.agg #[.bool kb1, .slice kb2 kb3 kb4, .bool kb5, .slice kb6 kb7 kb8]) (O 1)) (b2 : FB w (.agg #[.bool kc1, .slice kc2 kc3 kc4, .bool kc5, .slice kc6 kc7 kc8]) (O 2)) (b3 : FB w (.agg #[.bool kd1, .slice kd2 kd3 kd4, .bool kd5, .slice kd6 kd7 kd8]) (O 3)) :
  Calls Tryz.prog 28 #[.agg #[.bool ka1, .slice ka2 ka3 ka4, .bool ka5, .slice ka6 ka7 ka8, .bool kb1, .slice kb2 kb3 kb4, .bool kb5, .slice kb6 kb7 kb8, .bool kc1, .slice kc2 kc3 kc4, .bool kc5, .slice kc6 kc7 kc8, .bool kd1, .slice kd2 kd3 kd4, .bool kd5, .slice kd6 kd7 kd8]] w fun e w' => e = .returned (.bool (limL 16 O (f4v ka3 kb3 kc3 kd3) (f4v ka7 kb7 kc7 kd7) 4)) ∧ Steps w w' := by
 have S0 : ∀ w', Keeps w w' → Calls Tryz.prog 68 #[.agg #[.bool ka1, .slice ka2 ka3 ka4, .bool ka5, .slice ka6 ka7 ka8]] w' fun e w2 => e = .returned (.bool (limF 16 (O 0) ka3 ka7)) ∧ Steps w' w2 := fun w' k => psmall w' (b0.keeps k)
 have S1 : ∀ w', Keeps w w' → Calls Tryz.prog 68 #[.agg #[.bool kb1, .slice kb2 kb3 kb4, .bool kb5, .slice kb6 kb7 kb8]] w' fun e w2 => e = .returned (.bool (limF 16 (O 1) kb3 kb7)) ∧ Steps w' w2 := fun w' k => psmall w' (b1.keeps k)
 have S2 : ∀ w', Keeps w w' → Calls Tryz.prog 68 #[.agg #[.bool kc1, .slice kc2 kc3 kc4, .bool kc5, .slice kc6 kc7 kc8]] w' fun e w2 => e = .returned (.bool (limF 16 (O 2) kc3 kc7)) ∧ Steps w' w2 := fun w' k => psmall w' (b2.keeps k)
 have S3 : ∀ w', Keeps w w' → Calls Tryz.prog 68 #[.agg #[.bool kd1, .slice kd2 kd3 kd4, .bool kd5, .slice kd6 kd7 kd8]] w' fun e w2 => e = .returned (.bool (limF 16 (O 3) kd3 kd7)) ∧ Steps w' w2 := fun w' k => psmall w' (b3.keeps k)
 have E : limL 16 O (f4v ka3 kb3 kc3 kd3) (f4v ka7 kb7 kc7 kd7) 4 = (limF 16 (O 0) ka3 ka7 && limF 16 (O 1) kb3 kb7 && limF 16 (O 2) kc3 kc7 && limF 16 (O 3) kd3 kd7) := by show ((((true && _) && _) && _) && _) = _; rw [Bool.true_and]; rfl
 rw [E]
 generalize limF 16 (O 0) ka3 ka7 = s0 at *
 generalize limF 16 (O 1) kb3 kb7 = s1 at *
 generalize limF 16 (O 2) kc3 kc7 = s2 at *
 generalize limF 16 (O 3) kd3 kd7 = s3 at *
 clear b0 b1 b2 b3 E
 go_enter Tryz.func28, Tryz.ntmps28
 have kk := Keeps.refl w
 go_wp2_with fail
 refine (S0 _ (kk.trans keepsB)).mono ?_
 rintro e w1 ⟨rfl, hb1⟩
 have st : Steps _ w1 := hb1
 have B : Below w.heap.size w w1 := belowA st
 have kp : Keeps w w1 := Keeps.then_ keepsB st
 replace kk := kk.trans kp
 have ot : Blk w1 (w.heap.size) 30 #[.bool ka1, .slice ka2 ka3 ka4, .bool ka5, .slice ka6 ka7 ka8, .bool kb1, .slice kb2 kb3 kb4, .bool kb5, .slice kb6 kb7 kb8, .bool kc1, .slice kc2 kc3 kc4, .bool kc5, .slice kc6 kc7 kc8, .bool kd1, .slice kd2 kd3 kd4, .bool kd5, .slice kd6 kd7 kd8] := Blk.stepsK st
 clear kp
 clear st
 obtain ⟨ct0, ct1, ct2, ct3, ct4, ct5, ct6, ct7, ct8, ct9, ct10, ct11, ct12, ct13, ct14, ct15⟩ := ot.r15
 have lt := ot.lt
 cases s0 with
 | false =>
  go_wp2
  go_returns
  exact ⟨rfl, belowB⟩
 | true =>
  go_wp2_with fail
  refine (S1 _ (kk.trans keepsB)).mono ?_
  rintro e w2 ⟨rfl, hb2⟩
  have st : Steps _ w2 := hb2
  have sk : Below w1.heap.size w1 w2 := belowA st
  replace B := below_steps B (Nat.le_refl _) sk
  replace ot := ot.steps sk
  replace kk := kk.then_ sk
  clear st sk ct0 ct1 ct2 ct3 ct4 ct5 ct6 ct7 ct8 ct9 ct10 ct11 ct12 ct13 ct14 ct15 lt
  obtain ⟨ct0, ct1, ct2, ct3, ct4, ct5, ct6, ct7, ct8, ct9, ct10, ct11, ct12, ct13, ct14, ct15⟩ := ot.r15
  have lt := ot.lt
  cases s1 with
  | false =>
   go_wp2
   go_returns
   exact ⟨rfl, belowB⟩
  | true =>
   go_wp2_with fail
   refine (S2 _ (kk.trans keepsB)).mono ?_
   rintro e w3 ⟨rfl, hb3⟩
   have st : Steps _ w3 := hb3
   have sk : Below w2.heap.size w2 w3 := belowA st
   replace B := below_steps B (Nat.le_refl _) sk
   replace ot := ot.steps sk
   replace kk := kk.then_ sk
   clear st sk ct0 ct1 ct2 ct3 ct4 ct5 ct6 ct7 ct8 ct9 ct10 ct11 ct12 ct13 ct14 ct15 lt
   obtain ⟨ct0, ct1, ct2, ct3, ct4, ct5, ct6, ct7, ct8, ct9, ct10, ct11, ct12, ct13, ct14, ct15⟩ := ot.r15
   have lt := ot.lt
   cases s2 with
   | false =>
    go_wp2
    go_returns
    exact ⟨rfl, belowB⟩
   | true =>
    go_wp2_with fail
    refine (S3 _ (kk.trans keepsB)).mono ?_
    rintro e w4 ⟨rfl, hb4⟩
    have st : Steps _ w4 := hb4
    have sk : Below w3.heap.size w3 w4 := belowA st
    replace B := below_steps B (Nat.le_refl _) sk
    replace ot := ot.steps sk
    replace kk := kk.then_ sk
    clear st sk ct0 ct1 ct2 ct3 ct4 ct5 ct6 ct7 ct8 ct9 ct10 ct11 ct12 ct13 ct14 ct15 lt
    cases s3 with
    | false =>
     go_wp2
     go_returns
     exact ⟨rfl, belowB⟩
    | true =>
     go_wp2_with fail
     refine bodyPost_ret (by simp [results, Tryz.results28, go_sem, ]; rfl) rfl ?_
     exact ⟨rfl, belowB⟩
theorem fls3 {ua1 ua5 ub1 ub5 uc1 uc5 : Bool} {ua2 ua6 ub2 ub6 uc2 uc6 : Option Addr} {ua3 ua4 ua7 ua8 ub3 ub4 ub7 ub8 uc3 uc4 uc7 uc8 : Nat} {w : World} {g : Nat} {t : TypeId} {O : Nat → Option Rat} (h : Blk w g t #[.bool ua1, .slice ua2 ua3 ua4, .bool ua5, .slice ua6 ua7 ua8, .bool ub1, .slice ub2 ub3 ub4, .bool ub5, .slice ub6 ub7 ub8, .bool uc1, .slice uc2 uc3 uc4, .bool uc5, .slice uc6 uc7 uc8]) (b0 : FB w (.agg #[.bool ua1, .slice ua2 ua3 ua4, .bool ua5, .slice ua6 ua7 ua8]) (O 0)) (b1 : FB w (.agg #[.bool ub1, .slice ub2 ub3 ub4, .bool ub5, .slice ub6 ub7 ub8]) (O 1)) (b2 : FB w (.agg #[.bool uc1, .slice uc2 uc3 uc4, .bool uc5, .slice uc6 uc7 uc8]) (O 2)) : FLs w (.slice (some ⟨g, 0, none⟩) 3 3) 3 O (f4v ua3 ub3 uc3 uc3) (f4v ua7 ub7 uc7 uc7) := by
 refine ⟨g, 0, 3, rfl, Nat.le_refl _, h.lt, fun i hi => ?_⟩
 have : i = 0 ∨ i = 1 ∨ i = 2 := by omega
 rcases this with rfl | rfl | rfl
 · exact ⟨_, _, _, _, _, _, h.c 0 rfl, h.c 1 rfl, h.c 2 rfl, h.c 3 rfl, b0⟩
 · exact ⟨_, _, _, _, _, _, h.c 4 rfl, h.c 5 rfl, h.c 6 rfl, h.c 7 rfl, b1⟩
 · exact ⟨_, _, _, _, _, _, h.c 8 rfl, h.c 9 rfl, h.c 10 rfl, h.c 11 rfl, b2⟩
def ruleOk (O : Nat → Option Rat) (LA LB : Nat → Nat) (R A : Int) (neg : Bool) : Bool :=
 limL 2 O LA LB 3 && decide (1 ≤ R ∧ R ≤ 65536 ∧ 1 ≤ A ∧ A ≤ 17592186044416) && !neg && decide (0 < (O 1).getD 0 ∧ (O 1).getD 0 < 1 ∧ 0 < (O 2).getD 0)
theorem ruleOk_iff {O : Nat → Option Rat} {LA LB : Nat → Nat} {R A : Int} {neg : Bool} : ruleOk O LA LB R A neg = true ↔ limL 2 O LA LB 3 = true ∧ (1 ≤ R ∧ R ≤ 65536 ∧ 1 ≤ A ∧ A ≤ 17592186044416) ∧ neg = false ∧ 0 < (O 1).getD 0 ∧ (O 1).getD 0 < 1 ∧ 0 < (O 2).getD 0 := by
 unfold ruleOk
 cases neg <;> simp [and_assoc]
theorem limL3 {most : Nat} {O : Nat → Option Rat} {LA LB : Nat → Nat} : limL most O LA LB 3 = (limF most (O 0) (LA 0) (LB 0) && limF most (O 1) (LA 1) (LB 1) && limF most (O 2) (LA 2) (LB 2)) := by
 show (((true && _) && _) && _) = _
 rw [Bool.true_and]
theorem zero_cast : ((0 : Int) : Rat) = 0 := rfl
theorem sz_nil : sz (0 : Rat) 2 := sz_coord (x := 0) (by decide)
theorem sz_1 : sz (1 : Rat) 2 := sz_one
theorem mCheck {ua1 ua5 ub1 ub5 uc1 uc5 : Bool} {ua2 ua6 ub2 ub6 uc2 uc6 : Option Addr} {ua3 ua4 ua7 ua8 ub3 ub4 ub7 ub8 uc3 uc4 uc7 uc8 : Nat} {R A : Int} {O : Nat → Option Rat} (w : World) (b0 : FB w (.agg #[.bool ua1, .slice ua2 ua3 ua4, .bool ua5, .slice ua6 ua7 ua8]) (O 0)) (b1 : FB w (.agg #[.bool ub1, .slice ub2 ub3 ub4, .bool ub5, .slice ub6 ub7 ub8]) (O 1)) (b2 : FB w (.agg #[.bool uc1, .slice uc2 uc3 uc4, .bool uc5, .slice uc6 uc7 uc8]) (O 2)) (fw : FewL O (f4v ua3 ub3 uc3 uc3) (f4v ua7 ub7 uc7 uc7) 3) :
  Calls Tryz.prog 26 #[.agg #[.bool ua1, .slice ua2 ua3 ua4, .bool ua5, .slice ua6 ua7 ua8, .int .i64 R, .int .i64 A, .bool ub1, .slice ub2 ub3 ub4, .bool ub5, .slice ub6 ub7 ub8, .bool uc1, .slice uc2 uc3 uc4, .bool uc5, .slice uc6 uc7 uc8]] w fun e w' => e = .returned (.int .i64 (apErr (ruleOk O (f4v ua3 ub3 uc3 uc3) (f4v ua7 ub7 uc7 uc7) R A ua1))) ∧ Steps w w' := by
 obtain ⟨K, hK⟩ : ∃ k, ruleOk O (f4v ua3 ub3 uc3 uc3) (f4v ua7 ub7 uc7 uc7) R A ua1 = k := ⟨_, rfl⟩
 have KF : ∀ (P : Prop), (ruleOk O (f4v ua3 ub3 uc3 uc3) (f4v ua7 ub7 uc7 uc7) R A ua1 = true → P) → ¬ P → K = false := fun P h1 h2 => by
  cases hk : K with
  | false => rfl
  | true => exact absurd (h1 (hK.trans hk)) h2
 have KL := fun (h : limL 2 O (f4v ua3 ub3 uc3 uc3) (f4v ua7 ub7 uc7 uc7) 3 = false) => KF (limL 2 O (f4v ua3 ub3 uc3 uc3) (f4v ua7 ub7 uc7 uc7) 3 = true) (fun g => (ruleOk_iff.1 g).1) (by rw [h]; decide)
 have KR := KF _ (fun g => (ruleOk_iff.1 g).2.1)
 have KN := fun (h : ua1 = true) => KF (ua1 = false) (fun g => (ruleOk_iff.1 g).2.2.1) (by rw [h]; decide)
 have K1 := fun (h : cmpQ ((O 1).getD 0) 0 ≤ 0) => KF _ (fun g => (ruleOk_iff.1 g).2.2.2.1) (fun g => absurd (cmpQ_gt.2 g) (by omega))
 have K2 := fun (h : ¬ cmpQ ((O 1).getD 0) 1 < 0) => KF _ (fun g => (ruleOk_iff.1 g).2.2.2.2.1) (fun g => h (cmpQ_lt.2 g))
 have K3 := fun (h : cmpQ ((O 2).getD 0) 0 ≤ 0) => KF _ (fun g => (ruleOk_iff.1 g).2.2.2.2.2) (fun g => absurd (cmpQ_gt.2 g) (by omega))
 have KT : limL 2 O (f4v ua3 ub3 uc3 uc3) (f4v ua7 ub7 uc7 uc7) 3 = true → (1 ≤ R ∧ R ≤ 65536 ∧ 1 ≤ A ∧ A ≤ 17592186044416) → ua1 = false → ¬ cmpQ ((O 1).getD 0) 0 ≤ 0 → cmpQ ((O 1).getD 0) 1 < 0 → ¬ cmpQ ((O 2).getD 0) 0 ≤ 0 → K = true := fun h1 h2 h3 h4 h5 h6 => hK.symm.trans (ruleOk_iff.2 ⟨h1, h2, h3, cmpQ_gt.1 (by omega), cmpQ_lt.1 h5, cmpQ_gt.1 (by omega)⟩)
 have FQ : limL 2 O (f4v ua3 ub3 uc3 uc3) (f4v ua7 ub7 uc7 uc7) 3 = true → (∃ r, O 1 = some r ∧ (O 1).getD 0 = r ∧ sz r 2) ∧ ∃ r, O 2 = some r ∧ (O 2).getD 0 = r ∧ sz r 2 := fun h => by
  obtain ⟨r1, e1, z1⟩ := limL_sz h fw 1 (by omega)
  obtain ⟨r2, e2, z2⟩ := limL_sz h fw 2 (by omega)
  exact ⟨⟨r1, e1, by rw [e1]; rfl, z1⟩, ⟨r2, e2, by rw [e2]; rfl, z2⟩⟩
 have LM : ∀ w' g t, Keeps w w' → Blk w' g t #[.bool ua1, .slice ua2 ua3 ua4, .bool ua5, .slice ua6 ua7 ua8, .bool ub1, .slice ub2 ub3 ub4, .bool ub5, .slice ub6 ub7 ub8, .bool uc1, .slice uc2 uc3 uc4, .bool uc5, .slice uc6 uc7 uc8] → Calls Tryz.prog 41 #[.int .i64 2, .slice (some ⟨g, 0, none⟩) 3 3] w' fun e w2 => e = .returned (.bool (limL 2 O (f4v ua3 ub3 uc3 uc3) (f4v ua7 ub7 uc7 uc7) 3)) ∧ Steps w' w2 := fun w' g t k hb => mlimited 2 w' (fls3 hb (b0.keeps k) (b1.keeps k) (b2.keeps k)) (by omega)
 have OF : ∀ x : Int, -9223372036854775808 ≤ x → x ≤ 9223372036854775807 → ∀ w' g t, Blk w' g t #[.int .i64 0] → Calls Tryz.prog 66 #[.pointer (some ⟨g, 0, none⟩), .int .i64 x] w' fun e w2 => ∃ v, e = .returned v ∧ FR w2 v (x : Rat) ∧ Steps w' w2 := fun x h0 h1 w' g t hb => mof x w' hb h0 h1
 have O0 := fun w' g t hb => by have := OF 0 (by decide) (by decide) w' g t hb; rw [zero_cast] at this; exact this
 have O1 := fun w' g t hb => by have := OF 1 (by decide) (by decide) w' g t hb; rw [one_cast] at this; exact this
 clear OF
 rw [hK]
 generalize hL : limL 2 O (f4v ua3 ub3 uc3 uc3) (f4v ua7 ub7 uc7 uc7) 3 = L at *
 cases ua1 with
 | true =>
  cases L with
  | false =>
   have e0 := KL rfl
   subst e0
   clear KF KL KR KN K1 K2 K3 KT FQ O0 O1 hK hL b0 b1 b2 fw
   go_enter Tryz.func26, Tryz.ntmps26
   have kk := Keeps.refl w
   go_wp2_with fail
   refine (LM _ (w.heap.size + 1) 28 (kk.trans keepsB) ownK).mono ?_
   rintro e w1 ⟨rfl, hb1⟩
   have st : Steps _ w1 := hb1
   have B : Below w.heap.size w w1 := belowA st
   have kp : Keeps w w1 := Keeps.then_ keepsB st
   replace kk := kk.trans kp
   have ou : Blk w1 (w.heap.size) 45 #[.bool true, .slice ua2 ua3 ua4, .bool ua5, .slice ua6 ua7 ua8, .int .i64 R, .int .i64 A, .bool ub1, .slice ub2 ub3 ub4, .bool ub5, .slice ub6 ub7 ub8, .bool uc1, .slice uc2 uc3 uc4, .bool uc5, .slice uc6 uc7 uc8] := Blk.stepsK st
   clear kp
   clear st
   go_wp2_with fail
   refine bodyPost_ret (by simp [results, Tryz.results26, go_sem, ]; rfl) rfl ?_
   exact ⟨rfl, belowB⟩
  | true =>
   go_enter Tryz.func26, Tryz.ntmps26
   have kk := Keeps.refl w
   obtain ⟨⟨r1, e1, q1, z1⟩, r2, e2, q2, z2⟩ := FQ rfl
   rw [e1] at b1
   rw [e2] at b2
   rw [q1] at K1 K2 KT
   rw [q2] at K3 KT
   have F1 : Hid (FR w (.agg #[.bool ub1, .slice ub2 ub3 ub4, .bool ub5, .slice ub6 ub7 ub8]) r1) := Hid.mk_ b1
   have F2 : Hid (FR w (.agg #[.bool uc1, .slice uc2 uc3 uc4, .bool uc5, .slice uc6 uc7 uc8]) r2) := Hid.mk_ b2
   obtain ⟨c1, hc1⟩ : ∃ c, cmpQ r1 0 = c := ⟨_, rfl⟩
   obtain ⟨c2, hc2⟩ : ∃ c, cmpQ r1 1 = c := ⟨_, rfl⟩
   obtain ⟨c3, hc3⟩ : ∃ c, cmpQ r2 0 = c := ⟨_, rfl⟩
   rw [hc1] at K1 KT
   rw [hc2] at K2 KT
   rw [hc3] at K3 KT
   have CM1 : ∀ (w' : World) (g : Nat) (t : TypeId) (u v : Value), Blk w' g t #[.int .i64 0] → FR w' u r1 → FR w' v 0 → Calls Tryz.prog 67 #[.pointer (some ⟨g, 0, none⟩), u, v] w' fun e w2 => e = .returned (.int .i64 c1) ∧ Steps w' w2 := fun w' g t u v hb h1 h2 => by have := mcompare w' hb h1 h2 z1 sz_nil (by omega); rw [hc1] at this; exact this
   have CM2 : ∀ (w' : World) (g : Nat) (t : TypeId) (u v : Value), Blk w' g t #[.int .i64 0] → FR w' u r1 → FR w' v 1 → Calls Tryz.prog 67 #[.pointer (some ⟨g, 0, none⟩), u, v] w' fun e w2 => e = .returned (.int .i64 c2) ∧ Steps w' w2 := fun w' g t u v hb h1 h2 => by have := mcompare w' hb h1 h2 z1 sz_1 (by omega); rw [hc2] at this; exact this
   have CM3 : ∀ (w' : World) (g : Nat) (t : TypeId) (u v : Value), Blk w' g t #[.int .i64 0] → FR w' u r2 → FR w' v 0 → Calls Tryz.prog 67 #[.pointer (some ⟨g, 0, none⟩), u, v] w' fun e w2 => e = .returned (.int .i64 c3) ∧ Steps w' w2 := fun w' g t u v hb h1 h2 => by have := mcompare w' hb h1 h2 z2 sz_nil (by omega); rw [hc3] at this; exact this
   clear hc1 hc2 hc3
   have KT' := KT rfl
   clear KF KL KT FQ hK hL e1 e2 q1 q2 fw b0 b1 b2
   go_wp2_with fail
   refine (LM _ (w.heap.size + 1) 28 (kk.trans keepsB) ownK).mono ?_
   rintro e w1 ⟨rfl, hb1⟩
   have st : Steps _ w1 := hb1
   have B : Below w.heap.size w w1 := belowA st
   have kp : Keeps w w1 := Keeps.then_ keepsB st
   replace kk := kk.trans kp
   have ou : Blk w1 (w.heap.size) 45 #[.bool true, .slice ua2 ua3 ua4, .bool ua5, .slice ua6 ua7 ua8, .int .i64 R, .int .i64 A, .bool ub1, .slice ub2 ub3 ub4, .bool ub5, .slice ub6 ub7 ub8, .bool uc1, .slice uc2 uc3 uc4, .bool uc5, .slice uc6 uc7 uc8] := Blk.stepsK st
   replace F1 := Hid.mk_ (F1.out.keeps kp)
   replace F2 := Hid.mk_ (F2.out.keeps kp)
   clear kp
   clear st
   obtain ⟨cu0, cu1, cu2, cu3, cu4, cu5, cu6, cu7, cu8, cu9, cu10, cu11, cu12, cu13⟩ := ou.r13
   have lu := ou.lt
   clear LM
   rcases (show R < 1 ∨ (¬ R < 1 ∧ 65536 < R) ∨ (¬ R < 1 ∧ ¬ 65536 < R ∧ A < 1) ∨ (¬ R < 1 ∧ ¬ 65536 < R ∧ ¬ A < 1 ∧ 17592186044416 < A) ∨ (¬ R < 1 ∧ ¬ 65536 < R ∧ ¬ A < 1 ∧ ¬ 17592186044416 < A) by omega) with g1 | ⟨g1, g2⟩ | ⟨g1, g2, g3⟩ | ⟨g1, g2, g3, g4⟩ | ⟨g1, g2, g3, g4⟩
   ·
    have e0 := KR (by omega)
    subst e0
    clear KR KN K1 K2 K3 KT' O0 O1 CM1 CM2 CM3
    go_wp2
    go_returns
    exact ⟨rfl, belowB⟩
   ·
    have e0 := KR (by omega)
    subst e0
    clear KR KN K1 K2 K3 KT' O0 O1 CM1 CM2 CM3
    go_wp2
    go_returns
    exact ⟨rfl, belowB⟩
   ·
    have e0 := KR (by omega)
    subst e0
    clear KR KN K1 K2 K3 KT' O0 O1 CM1 CM2 CM3
    go_wp2
    go_returns
    exact ⟨rfl, belowB⟩
   ·
    have e0 := KR (by omega)
    subst e0
    clear KR KN K1 K2 K3 KT' O0 O1 CM1 CM2 CM3
    go_wp2
    go_returns
    exact ⟨rfl, belowB⟩
   ·
    have KT2 := KT' ⟨by omega, by omega, by omega, by omega⟩
    clear KT' KR
    have zu_1 : w.heap.size < w1.heap.size := ou.lt
    have zz1 := B.size
    go_wp2_with fail
    refine (O0 _ (w1.heap.size) 89 ownK).mono ?_
    rintro e w2 ⟨vka, rfl, hvka, hb2⟩
    have st : Steps _ w2 := hb2
    have sk : Below w1.heap.size w1 w2 := belowA st
    replace B := below_steps B (Nat.le_refl _) sk
    have ov3 : Blk w2 (w1.heap.size) 89 #[.int .i64 0] := Blk.stepsK st
    replace ou := ou.steps sk
    replace F1 := Hid.mk_ (F1.out.steps sk)
    replace F2 := Hid.mk_ (F2.out.steps sk)
    replace kk := kk.then_ sk
    clear st sk cu0 cu1 cu2 cu3 cu4 cu5 cu6 cu7 cu8 cu9 cu10 cu11 cu12 cu13 lu
    obtain ⟨ka1, ka2, ka3, ka4, ka5, ka6, ka7, ka8, rfl⟩ := hvka.shape
    have Fka := Hid.mk_ hvka
    clear hvka
    go_wp2_with fail
    refine (O1 _ (w1.heap.size) 89 ownK).mono ?_
    rintro e w3 ⟨vkb, rfl, hvkb, hb3⟩
    have st : Steps _ w3 := hb3
    have sk : Below w2.heap.size w2 w3 := belowA st
    replace B := below_steps B (Nat.le_refl _) sk
    replace ou := ou.steps sk
    replace ov3 := ov3.steps sk
    replace F1 := Hid.mk_ (F1.out.steps sk)
    replace F2 := Hid.mk_ (F2.out.steps sk)
    replace Fka := Hid.mk_ (Fka.out.steps sk)
    replace kk := kk.then_ sk
    clear st sk
    obtain ⟨cu0, cu1, cu2, cu3, cu4, cu5, cu6, cu7, cu8, cu9, cu10, cu11, cu12, cu13⟩ := ou.r13
    have lu := ou.lt
    obtain ⟨kb1, kb2, kb3, kb4, kb5, kb6, kb7, kb8, rfl⟩ := hvkb.shape
    have Fkb := Hid.mk_ hvkb
    clear hvkb
    have zv3_3 : w1.heap.size < w3.heap.size := ov3.lt
    have zz3 := B.size
    skip
    have e0 := KN (by simp)
    subst e0
    clear KN K1 K2 K3 KT2 O0 O1 CM1 CM2 CM3
    go_wp2_with fail
    refine bodyPost_ret (by simp [results, Tryz.results26, go_sem, cu0, cu1, cu2, cu3, cu4, cu5, cu6, cu7, cu8, cu9, cu10, cu11, cu12, cu13, lu]; rfl) rfl ?_
    exact ⟨rfl, belowB⟩
 | false =>
  cases L with
  | false =>
   have e0 := KL rfl
   subst e0
   clear KF KL KR KN K1 K2 K3 KT FQ O0 O1 hK hL b0 b1 b2 fw
   go_enter Tryz.func26, Tryz.ntmps26
   have kk := Keeps.refl w
   go_wp2_with fail
   refine (LM _ (w.heap.size + 1) 28 (kk.trans keepsB) ownK).mono ?_
   rintro e w1 ⟨rfl, hb1⟩
   have st : Steps _ w1 := hb1
   have B : Below w.heap.size w w1 := belowA st
   have kp : Keeps w w1 := Keeps.then_ keepsB st
   replace kk := kk.trans kp
   have ou : Blk w1 (w.heap.size) 45 #[.bool false, .slice ua2 ua3 ua4, .bool ua5, .slice ua6 ua7 ua8, .int .i64 R, .int .i64 A, .bool ub1, .slice ub2 ub3 ub4, .bool ub5, .slice ub6 ub7 ub8, .bool uc1, .slice uc2 uc3 uc4, .bool uc5, .slice uc6 uc7 uc8] := Blk.stepsK st
   clear kp
   clear st
   go_wp2_with fail
   refine bodyPost_ret (by simp [results, Tryz.results26, go_sem, ]; rfl) rfl ?_
   exact ⟨rfl, belowB⟩
  | true =>
   go_enter Tryz.func26, Tryz.ntmps26
   have kk := Keeps.refl w
   obtain ⟨⟨r1, e1, q1, z1⟩, r2, e2, q2, z2⟩ := FQ rfl
   rw [e1] at b1
   rw [e2] at b2
   rw [q1] at K1 K2 KT
   rw [q2] at K3 KT
   have F1 : Hid (FR w (.agg #[.bool ub1, .slice ub2 ub3 ub4, .bool ub5, .slice ub6 ub7 ub8]) r1) := Hid.mk_ b1
   have F2 : Hid (FR w (.agg #[.bool uc1, .slice uc2 uc3 uc4, .bool uc5, .slice uc6 uc7 uc8]) r2) := Hid.mk_ b2
   obtain ⟨c1, hc1⟩ : ∃ c, cmpQ r1 0 = c := ⟨_, rfl⟩
   obtain ⟨c2, hc2⟩ : ∃ c, cmpQ r1 1 = c := ⟨_, rfl⟩
   obtain ⟨c3, hc3⟩ : ∃ c, cmpQ r2 0 = c := ⟨_, rfl⟩
   rw [hc1] at K1 KT
   rw [hc2] at K2 KT
   rw [hc3] at K3 KT
   have CM1 : ∀ (w' : World) (g : Nat) (t : TypeId) (u v : Value), Blk w' g t #[.int .i64 0] → FR w' u r1 → FR w' v 0 → Calls Tryz.prog 67 #[.pointer (some ⟨g, 0, none⟩), u, v] w' fun e w2 => e = .returned (.int .i64 c1) ∧ Steps w' w2 := fun w' g t u v hb h1 h2 => by have := mcompare w' hb h1 h2 z1 sz_nil (by omega); rw [hc1] at this; exact this
   have CM2 : ∀ (w' : World) (g : Nat) (t : TypeId) (u v : Value), Blk w' g t #[.int .i64 0] → FR w' u r1 → FR w' v 1 → Calls Tryz.prog 67 #[.pointer (some ⟨g, 0, none⟩), u, v] w' fun e w2 => e = .returned (.int .i64 c2) ∧ Steps w' w2 := fun w' g t u v hb h1 h2 => by have := mcompare w' hb h1 h2 z1 sz_1 (by omega); rw [hc2] at this; exact this
   have CM3 : ∀ (w' : World) (g : Nat) (t : TypeId) (u v : Value), Blk w' g t #[.int .i64 0] → FR w' u r2 → FR w' v 0 → Calls Tryz.prog 67 #[.pointer (some ⟨g, 0, none⟩), u, v] w' fun e w2 => e = .returned (.int .i64 c3) ∧ Steps w' w2 := fun w' g t u v hb h1 h2 => by have := mcompare w' hb h1 h2 z2 sz_nil (by omega); rw [hc3] at this; exact this
   clear hc1 hc2 hc3
   have KT' := KT rfl
   clear KF KL KT FQ hK hL e1 e2 q1 q2 fw b0 b1 b2
   go_wp2_with fail
   refine (LM _ (w.heap.size + 1) 28 (kk.trans keepsB) ownK).mono ?_
   rintro e w1 ⟨rfl, hb1⟩
   have st : Steps _ w1 := hb1
   have B : Below w.heap.size w w1 := belowA st
   have kp : Keeps w w1 := Keeps.then_ keepsB st
   replace kk := kk.trans kp
   have ou : Blk w1 (w.heap.size) 45 #[.bool false, .slice ua2 ua3 ua4, .bool ua5, .slice ua6 ua7 ua8, .int .i64 R, .int .i64 A, .bool ub1, .slice ub2 ub3 ub4, .bool ub5, .slice ub6 ub7 ub8, .bool uc1, .slice uc2 uc3 uc4, .bool uc5, .slice uc6 uc7 uc8] := Blk.stepsK st
   replace F1 := Hid.mk_ (F1.out.keeps kp)
   replace F2 := Hid.mk_ (F2.out.keeps kp)
   clear kp
   clear st
   obtain ⟨cu0, cu1, cu2, cu3, cu4, cu5, cu6, cu7, cu8, cu9, cu10, cu11, cu12, cu13⟩ := ou.r13
   have lu := ou.lt
   clear LM
   rcases (show R < 1 ∨ (¬ R < 1 ∧ 65536 < R) ∨ (¬ R < 1 ∧ ¬ 65536 < R ∧ A < 1) ∨ (¬ R < 1 ∧ ¬ 65536 < R ∧ ¬ A < 1 ∧ 17592186044416 < A) ∨ (¬ R < 1 ∧ ¬ 65536 < R ∧ ¬ A < 1 ∧ ¬ 17592186044416 < A) by omega) with g1 | ⟨g1, g2⟩ | ⟨g1, g2, g3⟩ | ⟨g1, g2, g3, g4⟩ | ⟨g1, g2, g3, g4⟩
   ·
    have e0 := KR (by omega)
    subst e0
    clear KR KN K1 K2 K3 KT' O0 O1 CM1 CM2 CM3
    go_wp2
    go_returns
    exact ⟨rfl, belowB⟩
   ·
    have e0 := KR (by omega)
    subst e0
    clear KR KN K1 K2 K3 KT' O0 O1 CM1 CM2 CM3
    go_wp2
    go_returns
    exact ⟨rfl, belowB⟩
   ·
    have e0 := KR (by omega)
    subst e0
    clear KR KN K1 K2 K3 KT' O0 O1 CM1 CM2 CM3
    go_wp2
    go_returns
    exact ⟨rfl, belowB⟩
   ·
    have e0 := KR (by omega)
    subst e0
    clear KR KN K1 K2 K3 KT' O0 O1 CM1 CM2 CM3
    go_wp2
    go_returns
    exact ⟨rfl, belowB⟩
   ·
    have KT2 := KT' ⟨by omega, by omega, by omega, by omega⟩
    clear KT' KR
    have zu_1 : w.heap.size < w1.heap.size := ou.lt
    have zz1 := B.size
    go_wp2_with fail
    refine (O0 _ (w1.heap.size) 89 ownK).mono ?_
    rintro e w2 ⟨vka, rfl, hvka, hb2⟩
    have st : Steps _ w2 := hb2
    have sk : Below w1.heap.size w1 w2 := belowA st
    replace B := below_steps B (Nat.le_refl _) sk
    have ov3 : Blk w2 (w1.heap.size) 89 #[.int .i64 0] := Blk.stepsK st
    replace ou := ou.steps sk
    replace F1 := Hid.mk_ (F1.out.steps sk)
    replace F2 := Hid.mk_ (F2.out.steps sk)
    replace kk := kk.then_ sk
    clear st sk cu0 cu1 cu2 cu3 cu4 cu5 cu6 cu7 cu8 cu9 cu10 cu11 cu12 cu13 lu
    obtain ⟨ka1, ka2, ka3, ka4, ka5, ka6, ka7, ka8, rfl⟩ := hvka.shape
    have Fka := Hid.mk_ hvka
    clear hvka
    go_wp2_with fail
    refine (O1 _ (w1.heap.size) 89 ownK).mono ?_
    rintro e w3 ⟨vkb, rfl, hvkb, hb3⟩
    have st : Steps _ w3 := hb3
    have sk : Below w2.heap.size w2 w3 := belowA st
    replace B := below_steps B (Nat.le_refl _) sk
    replace ou := ou.steps sk
    replace ov3 := ov3.steps sk
    replace F1 := Hid.mk_ (F1.out.steps sk)
    replace F2 := Hid.mk_ (F2.out.steps sk)
    replace Fka := Hid.mk_ (Fka.out.steps sk)
    replace kk := kk.then_ sk
    clear st sk
    obtain ⟨cu0, cu1, cu2, cu3, cu4, cu5, cu6, cu7, cu8, cu9, cu10, cu11, cu12, cu13⟩ := ou.r13
    have lu := ou.lt
    obtain ⟨kb1, kb2, kb3, kb4, kb5, kb6, kb7, kb8, rfl⟩ := hvkb.shape
    have Fkb := Hid.mk_ hvkb
    clear hvkb
    have zv3_3 : w1.heap.size < w3.heap.size := ov3.lt
    have zz3 := B.size
    clear O0 O1 KN
    go_wp2_with fail
    refine (CM1 _ (w1.heap.size) 89 _ _ ownK (F1.out.keeps keepsB) (Fka.out.keeps keepsB)).mono ?_
    rintro e w4 ⟨rfl, hb4⟩
    have st : Steps _ w4 := hb4
    have sk : Below w3.heap.size w3 w4 := belowA st
    replace B := below_steps B (Nat.le_refl _) sk
    have ov4 : Blk w4 (w3.heap.size) 28 #[.bool ka1, .slice ka2 ka3 ka4, .bool ka5, .slice ka6 ka7 ka8] := Blk.stepsK st
    have ov5 : Blk w4 (w3.heap.size + 1) 28 #[.bool kb1, .slice kb2 kb3 kb4, .bool kb5, .slice kb6 kb7 kb8] := Blk.stepsK st
    replace ou := ou.steps sk
    replace ov3 := ov3.steps sk
    replace F1 := Hid.mk_ (F1.out.steps sk)
    replace F2 := Hid.mk_ (F2.out.steps sk)
    replace Fka := Hid.mk_ (Fka.out.steps sk)
    replace Fkb := Hid.mk_ (Fkb.out.steps sk)
    replace kk := kk.then_ sk
    clear st sk cu0 cu1 cu2 cu3 cu4 cu5 cu6 cu7 cu8 cu9 cu10 cu11 cu12 cu13 lu
    obtain ⟨cu0, cu1, cu2, cu3, cu4, cu5, cu6, cu7, cu8, cu9, cu10, cu11, cu12, cu13⟩ := ou.r13
    have lu := ou.lt
    have lv4 := ov4.lt
    obtain ⟨cv50, cv51, cv52, cv53⟩ := ov5.r3
    have lv5 := ov5.lt
    by_cases h1 : c1 ≤ 0
    ·
     have e0 := K1 (by omega)
     subst e0
     clear K1 K2 K3 KT2 CM1 CM2 CM3
     go_wp2
     go_returns
     exact ⟨rfl, belowB⟩
    ·
     go_wp2_with fail
     refine (CM2 _ (w1.heap.size) 89 _ _ ownK (F1.out.keeps keepsB) (Fkb.out.keeps keepsB)).mono ?_
     rintro e w5 ⟨rfl, hb5⟩
     have st : Steps _ w5 := hb5
     have sk : Below w4.heap.size w4 w5 := belowA st
     replace B := below_steps B (Nat.le_refl _) sk
     replace ou := ou.steps sk
     replace ov3 := ov3.steps sk
     replace ov4 := ov4.steps sk
     replace ov5 := ov5.steps sk
     replace F1 := Hid.mk_ (F1.out.steps sk)
     replace F2 := Hid.mk_ (F2.out.steps sk)
     replace Fka := Hid.mk_ (Fka.out.steps sk)
     replace Fkb := Hid.mk_ (Fkb.out.steps sk)
     replace kk := kk.then_ sk
     clear st sk cu0 cu1 cu2 cu3 cu4 cu5 cu6 cu7 cu8 cu9 cu10 cu11 cu12 cu13 lu lv4 cv50 cv51 cv52 cv53 lv5
     obtain ⟨cu0, cu1, cu2, cu3, cu4, cu5, cu6, cu7, cu8, cu9, cu10, cu11, cu12, cu13⟩ := ou.r13
     have lu := ou.lt
     obtain ⟨cv40, cv41, cv42, cv43⟩ := ov4.r3
     have lv4 := ov4.lt
     have lv5 := ov5.lt
     by_cases h2 : ¬ c2 < 0
     ·
      have e0 := K2 (by omega)
      subst e0
      clear K1 K2 K3 KT2 CM1 CM2 CM3
      go_wp2
      go_returns
      exact ⟨rfl, belowB⟩
     ·
      have h2' : c2 < 0 := by omega
      go_wp2_with fail
      refine (CM3 _ (w1.heap.size) 89 _ _ ownK (F2.out.keeps keepsB) (Fka.out.keeps keepsB)).mono ?_
      rintro e w6 ⟨rfl, hb6⟩
      have st : Steps _ w6 := hb6
      have sk : Below w5.heap.size w5 w6 := belowA st
      replace B := below_steps B (Nat.le_refl _) sk
      replace ou := ou.steps sk
      replace ov3 := ov3.steps sk
      replace ov4 := ov4.steps sk
      replace ov5 := ov5.steps sk
      replace F1 := Hid.mk_ (F1.out.steps sk)
      replace F2 := Hid.mk_ (F2.out.steps sk)
      replace Fka := Hid.mk_ (Fka.out.steps sk)
      replace Fkb := Hid.mk_ (Fkb.out.steps sk)
      replace kk := kk.then_ sk
      clear st sk cu0 cu1 cu2 cu3 cu4 cu5 cu6 cu7 cu8 cu9 cu10 cu11 cu12 cu13 lu cv40 cv41 cv42 cv43 lv4 lv5
      by_cases h3 : c3 ≤ 0
      ·
       have e0 := K3 (by omega)
       subst e0
       clear K1 K2 K3 KT2 CM1 CM2 CM3
       go_wp2
       go_returns
       exact ⟨rfl, belowB⟩
      ·
       have e0 := KT2 (by simp) (by omega) (by omega) (by omega)
       subst e0
       clear K1 K2 K3 KT2 CM1 CM2 CM3
       go_wp2_with fail
       refine bodyPost_ret (by simp [results, Tryz.results26, go_sem, ]; rfl) rfl ?_
       exact ⟨rfl, belowB⟩
theorem IntsR.at' {w : World} {ao : Option Addr} {n cap : Nat} {l : List Int} (h : IntsR w (.slice ao n cap) l) {t : Nat} (ht : t < l.length) : ∃ b o, ao = some ⟨b, o, none⟩ ∧ b < w.heap.size ∧ w.cell? ⟨b, o + t, none⟩ = some (.int .i64 (l.getD t 0)) := by
 obtain ⟨ao', cap', e, _, h2⟩ := h
 injection e with e1 e2 e3
 subst e1
 obtain ⟨b, o, e, hb, hc⟩ := h2 (fun e => by rw [e] at ht; cases ht)
 exact ⟨b, o, e, hb, hc t ht⟩
def memI (l : List Int) (x : Int) : Nat → Bool
 | 0 => false
 | t + 1 => memI l x t || (x == l.getD t 0)
theorem memI_stay {l : List Int} {x : Int} {i : Nat} (h : memI l x i = true) : ∀ m, i ≤ m → memI l x m = true := by
 intro m hm
 induction m with
 | zero =>
      obtain rfl : i = 0 := by omega
      exact h
 | succ m ih =>
  rcases Nat.lt_or_ge m i with g | g
  ·
   obtain rfl : i = m + 1 := by omega
   exact h
  · unfold memI; rw [ih g]; rfl
theorem sindex {v : Value} {l : List Int} (x : Int) (w : World) (h : IntsR w v l) (hl : l.length ≤ 100000) :
  Calls Tryz.prog 130 #[v, .int .i64 x] w fun e w' => ∃ i, e = .returned (.int .i64 i) ∧ decide (0 ≤ i) = memI l x l.length ∧ Steps w w' := by
 obtain ⟨ao, cap, rfl⟩ := h.shape
 have HC := Hid.mk_ h
 obtain ⟨n, hn⟩ : ∃ n, l.length = n := ⟨_, rfl⟩
 have HL := Hid.mk_ hn
 rw [hn] at HC hl ⊢
 clear h hn
 go_enter Tryz.func130, Tryz.ntmps130
 go_wp2_with fail
 go_loopw [8] (fun kk wr => ∃ t : Nat, t ≤ n ∧ kk = .int .i64 t ∧ memI l x t = false ∧ Below w.heap.size w wr) (fun kk _ => n - (intOf kk).toNat)
 case atStart => exact ⟨0, by omega, rfl, rfl, belowB⟩
 case round =>
  obtain ⟨t, ht, rfl, hw, B⟩ := hrel
  rcases Nat.lt_or_ge t n with tn | tn
  ·
   have hlt : decide ((t : Int) < (n : Int)) = true := decide_eq_true (by omega)
   obtain ⟨b, of, rfl, hbl, h0⟩ := HC.out.at' (t := t) (by have := HL.out; omega)
   have c0 : wr.cell? ⟨b, of + t, none⟩ = some (.int .i64 (l.getD t 0)) := (B.cell (p := ⟨b, _, none⟩) hbl).trans h0
   have YES : (x == l.getD t 0) = true → memI l x n = true := fun e => memI_stay (i := t + 1) (by unfold memI; rw [e, Bool.or_true]) n (by omega)
   have NO : (x == l.getD t 0) = false → memI l x (t + 1) = false := fun e => by unfold memI; rw [hw, e]; rfl
   obtain ⟨y, hy⟩ : ∃ y, l.getD t 0 = y := ⟨_, rfl⟩
   rw [hy] at c0 YES NO
   clear h0 hy
   cases hxy : (x == y) with
   | true =>
    have Y := YES hxy
    clear YES NO
    go_wp2
    go_returns
    exact ⟨_, rfl, by rw [Y]; simp, B⟩
   | false =>
    have N := NO hxy
    clear YES NO
    go_wp2
    go_roundw
    case rel => exact ⟨t + 1, by omega, by go_num, N, B⟩
    case measure => simp [intOf]; omega
  ·
   obtain rfl : t = n := by omega
   go_wp2
   go_returns
   exact ⟨_, rfl, by rw [hw]; rfl, B⟩
theorem scontains {v : Value} {l : List Int} (x : Int) (w : World) (h : IntsR w v l) (hl : l.length ≤ 100000) :
  Calls Tryz.prog 91 #[v, .int .i64 x] w fun e w' => e = .returned (.bool (memI l x l.length)) ∧ Steps w w' := by
 have ix := sindex x w h hl
 obtain ⟨ao, cap, rfl⟩ := h.shape
 clear h hl
 generalize memI l x l.length = L at *
 go_enter Tryz.func91, Tryz.ntmps91
 go_wp2_with fail
 refine ix.mono ?_
 rintro e w1 ⟨i, rfl, hi, hs⟩
 clear ix
 cases L with
 | true =>
  have g1 : 0 ≤ i := by simpa using hi
  go_wp2
  go_returns
  exact ⟨rfl, hs⟩
 | false =>
  have g1 : ¬ 0 ≤ i := by simpa using hi
  go_wp2
  go_returns
  exact ⟨rfl, hs⟩
def okK (l : List Int) (n : Int) : Nat → Bool
 | 0 => true
 | t + 1 => okK l n t && decide (-1 ≤ l.getD t 0 ∧ l.getD t 0 < n)
theorem okK_stay {l : List Int} {n : Int} {i : Nat} (h : okK l n i = false) : ∀ m, i ≤ m → okK l n m = false := by
 intro m hm
 induction m with
 | zero =>
      obtain rfl : i = 0 := by omega
      exact h
 | succ m ih =>
  rcases Nat.lt_or_ge m i with g | g
  ·
   obtain rfl : i = m + 1 := by omega
   exact h
  · unfold okK; rw [ih g]; rfl
theorem modds1 {g : Nat} {tg : TypeId} (k n : Int) (w : World) (hb : Blk w g tg #[.int .i64 n]) :
  Calls Tryz.prog 49 #[.int .i64 k, .pointer (some ⟨g, 0, none⟩)] w fun e w' => e = .returned (.bool (!decide (-1 ≤ k ∧ k < n))) ∧ Steps w w' := by
 have hl := hb.lt
 have cc := hb.q0
 clear hb
 by_cases h1 : k < -1
 ·
  rw [decide_eq_false (by omega)]
  go_enter Tryz.func49, Tryz.ntmps49
  go_wp2
  go_returns
  exact ⟨rfl, belowB⟩
 ·
  by_cases h2 : n ≤ k
  ·
   rw [decide_eq_false (by omega)]
   go_enter Tryz.func49, Tryz.ntmps49
   go_wp2
   go_returns
   exact ⟨rfl, belowB⟩
  ·
   rw [decide_eq_true (by omega)]
   go_enter Tryz.func49, Tryz.ntmps49
   go_wp2
   go_returns
   exact ⟨rfl, belowB⟩
theorem oindex {v : Value} {l : List Int} {g : Nat} {tg : TypeId} (N : Int) (w : World) (h : IntsR w v l) (hb : Blk w g tg #[.int .i64 N]) (hl : l.length ≤ 100000) :
  Calls Tryz.prog 89 #[v, .func (.func 49) #[] #[.pointer (some ⟨g, 0, none⟩)]] w fun e w' => ∃ i, e = .returned (.int .i64 i) ∧ decide (0 ≤ i) = !okK l N l.length ∧ Steps w w' := by
 obtain ⟨ao, cap, rfl⟩ := h.shape
 have HC := Hid.mk_ h
 obtain ⟨n, hn⟩ : ∃ n, l.length = n := ⟨_, rfl⟩
 have HL := Hid.mk_ hn
 rw [hn] at HC hl ⊢
 have CL : ∀ w', Steps w w' → ∀ k, Calls Tryz.prog 49 #[.int .i64 k, .pointer (some ⟨g, 0, none⟩)] w' fun e w2 => e = .returned (.bool (!decide (-1 ≤ k ∧ k < N))) ∧ Steps w' w2 := fun w' s k => modds1 k N w' (hb.steps s)
 clear h hn hb
 go_enter Tryz.func89, Tryz.ntmps89
 go_wp2_with fail
 go_loopw [8] (fun kk wr => ∃ t : Nat, t ≤ n ∧ kk = .int .i64 t ∧ okK l N t = true ∧ Below w.heap.size w wr) (fun kk _ => n - (intOf kk).toNat)
 case atStart => exact ⟨0, by omega, rfl, rfl, belowB⟩
 case round =>
  obtain ⟨t, ht, rfl, hw, B⟩ := hrel
  rcases Nat.lt_or_ge t n with tn | tn
  ·
   have hlt : decide ((t : Int) < (n : Int)) = true := decide_eq_true (by omega)
   obtain ⟨b, of, rfl, hbl, h0⟩ := HC.out.at' (t := t) (by have := HL.out; omega)
   have c0 : wr.cell? ⟨b, of + t, none⟩ = some (.int .i64 (l.getD t 0)) := (B.cell (p := ⟨b, _, none⟩) hbl).trans h0
   have ck := fun w' (s : Steps w w') => CL w' s (l.getD t 0)
   have NO : decide (-1 ≤ l.getD t 0 ∧ l.getD t 0 < N) = false → okK l N n = false := fun e => okK_stay (i := t + 1) (by unfold okK; rw [e, Bool.and_false]) n (by omega)
   have YES : decide (-1 ≤ l.getD t 0 ∧ l.getD t 0 < N) = true → okK l N (t + 1) = true := fun e => by unfold okK; rw [hw, e]; rfl
   obtain ⟨s, hs⟩ : ∃ s, decide (-1 ≤ l.getD t 0 ∧ l.getD t 0 < N) = s := ⟨_, rfl⟩
   rw [hs] at ck NO YES
   obtain ⟨y, hy⟩ : ∃ y, l.getD t 0 = y := ⟨_, rfl⟩
   rw [hy] at c0 ck
   clear h0 hy hs CL
   go_wp2_with fail
   refine (ck _ belowB).mono ?_
   rintro e w1 ⟨rfl, hs1⟩
   have B1 : Below w.heap.size w w1 := belowA hs1
   clear ck hs1 B c0
   cases s with
   | false =>
    have N0 := NO rfl
    clear NO YES
    rw [show (!false) = true from rfl]
    go_wp2
    go_returns
    exact ⟨_, rfl, by rw [N0]; simp, B1⟩
   | true =>
    have Y0 := YES rfl
    clear NO YES
    rw [show (!true) = false from rfl]
    go_wp2
    go_roundw
    case rel => exact ⟨t + 1, by omega, by go_num, Y0, B1⟩
    case measure => simp [intOf]; omega
  ·
   obtain rfl : t = n := by omega
   go_wp2
   go_returns
   exact ⟨_, rfl, by rw [hw]; rfl, B⟩
theorem ocontains {v : Value} {l : List Int} {g : Nat} {tg : TypeId} (N : Int) (w : World) (h : IntsR w v l) (hb : Blk w g tg #[.int .i64 N]) (hl : l.length ≤ 100000) :
  Calls Tryz.prog 48 #[v, .func (.func 49) #[] #[.pointer (some ⟨g, 0, none⟩)]] w fun e w' => e = .returned (.bool (!okK l N l.length)) ∧ Steps w w' := by
 have ix := oindex N w h hb hl
 obtain ⟨ao, cap, rfl⟩ := h.shape
 clear h hl hb
 generalize okK l N l.length = L at *
 go_enter Tryz.func48, Tryz.ntmps48
 go_wp2_with fail
 refine ix.mono ?_
 rintro e w1 ⟨i, rfl, hi, hs⟩
 clear ix
 cases L with
 | true =>
  have g1 : ¬ 0 ≤ i := by simpa using hi
  go_wp2
  go_returns
  exact ⟨rfl, hs⟩
 | false =>
  have g1 : 0 ≤ i := by simpa using hi
  go_wp2
  go_returns
  exact ⟨rfl, hs⟩
theorem oddsQ_sz {w s : Rat} (hw : sz w 20) (hs : sz s 20) (l : List Int) (out : Nat → Bool) : ∀ n, sz (oddsQ w s l out n) (20 * n + 2)
 | 0 => sz_one
 | n + 1 => by
  unfold oddsQ
  have h := oddsQ_sz hw hs l out n
  split
  · exact h.mono (by omega)
  ·
   split
   · exact (h.mul hw).mono (by omega)
   · exact (h.mul hs).mono (by omega)
theorem odds_out {w s : Rat} {l : List Int} {out : Nat → Bool} {i : Nat} (h : out i = true) : oddsQ w s l out (i + 1) = oddsQ w s l out i := by
 show (if out i = true then _ else _) = _
 rw [if_pos h]
theorem odds_with {w s : Rat} {l : List Int} {out : Nat → Bool} {i : Nat} (h : out i = false) (h2 : 0 ≤ l.getD i 0) : oddsQ w s l out (i + 1) = oddsQ w s l out i * w := by
 show (if out i = true then _ else _) = _
 rw [if_neg (by rw [h]; decide), if_pos h2]
theorem odds_less {w s : Rat} {l : List Int} {out : Nat → Bool} {i : Nat} (h : out i = false) (h2 : ¬ 0 ≤ l.getD i 0) : oddsQ w s l out (i + 1) = oddsQ w s l out i * s := by
 show (if out i = true then _ else _) = _
 rw [if_neg (by rw [h]; decide), if_neg h2]
theorem sz_with {s h : Rat} (ss : sz s 2) (sh : sz h 2) (h0 : h ≠ 0) : sz (withQ s h) 20 := by
 unfold withQ
 exact ((((sz_one.sub ss).add (ss.mul sh)).div sh h0).mono (by omega))
theorem modds {ua1 ua5 ub1 ub5 uc1 uc5 : Bool} {ua2 ua6 ub2 ub6 uc2 uc6 : Option Addr} {ua3 ua4 ua7 ua8 ub3 ub4 ub7 ub8 uc3 uc4 uc7 uc8 : Nat} {R A n : Int} {gc : Nat} {tc : TypeId} {s : Rat} {vp vo : Value} {l lo : List Int} (w : World) (hc : Blk w gc tc #[.int .i64 0]) (hub : FR w (.agg #[.bool ub1, .slice ub2 ub3 ub4, .bool ub5, .slice ub6 ub7 ub8]) s) (ss : sz s 2) (r0 : 1 ≤ R) (r1 : R ≤ 65536) (a0 : 1 ≤ A) (a1 : A ≤ 17592186044416) (n2 : 1 ≤ n) (n1 : n ≤ 200) (hl : IntsR w vp l) (ho : IntsR w vo lo) (l0 : l.length ≤ 200) (l1 : lo.length ≤ 100000) :
  Calls Tryz.prog 51 #[.pointer (some ⟨gc, 0, none⟩), .agg #[.bool ua1, .slice ua2 ua3 ua4, .bool ua5, .slice ua6 ua7 ua8, .int .i64 R, .int .i64 A, .bool ub1, .slice ub2 ub3 ub4, .bool ub5, .slice ub6 ub7 ub8, .bool uc1, .slice uc2 uc3 uc4, .bool uc5, .slice uc6 uc7 uc8], vp, .int .i64 n, vo] w fun e w' => ∃ v, e = .returned v ∧ FR w' v (oddsQ (withQ s (chanceQ R A n)) s l (fun i => memI lo i lo.length) l.length) ∧ Steps w w' := by
 have sc := (sz_chance r0 r1 a0 a1 (show 0 ≤ n by omega) n1).1
 have hp := chance_pos r0 a0 n2
 have hne : chanceQ R A n ≠ 0 := Rat.ne_of_gt hp
 have sw := sz_with ss sc hne
 have KC : ∀ w', Below w.heap.size w w' → Blk w' gc tc #[.int .i64 0] := fun w' s => hc.steps s
 have CH := fun (w' : World) (s : Below w.heap.size w w') => mchance (ua1 := ua1) (ua2 := ua2) (ua3 := ua3) (ua4 := ua4) (ua5 := ua5) (ua6 := ua6) (ua7 := ua7) (ua8 := ua8) (ub1 := ub1) (ub2 := ub2) (ub3 := ub3) (ub4 := ub4) (ub5 := ub5) (ub6 := ub6) (ub7 := ub7) (ub8 := ub8) (uc1 := uc1) (uc2 := uc2) (uc3 := uc3) (uc4 := uc4) (uc5 := uc5) (uc6 := uc6) (uc7 := uc7) (uc8 := uc8) R A n w' (KC w' s) r0 r1 a0 a1 (by omega) n1
 have O1 : ∀ w', Below w.heap.size w w' → Calls Tryz.prog 66 #[.pointer (some ⟨gc, 0, none⟩), .int .i64 1] w' fun e w2 => ∃ v, e = .returned v ∧ FR w2 v (1 : Rat) ∧ Steps w' w2 := fun w' s => by have := mof 1 w' (KC w' s) (by decide) (by decide); rw [one_cast] at this; exact this
 have s1 : sz (1 : Rat) 2 := sz_one
 have CT := fun (w' : World) (s : Steps w w') (x : Int) => scontains x w' (ho.steps s) l1
 have OS := fun k => oddsQ_sz (w := withQ s (chanceQ R A n)) (s := s) sw (ss.mono (by omega)) l (fun i => memI lo i lo.length) k
 have OO := fun k => odds_out (w := withQ s (chanceQ R A n)) (s := s) (l := l) (out := fun i => memI lo i lo.length) (i := k)
 have OW := fun k => odds_with (w := withQ s (chanceQ R A n)) (s := s) (l := l) (out := fun i => memI lo i lo.length) (i := k)
 have OL := fun k => odds_less (w := withQ s (chanceQ R A n)) (s := s) (l := l) (out := fun i => memI lo i lo.length) (i := k)
 have OZ : oddsQ (withQ s (chanceQ R A n)) s l (fun i => memI lo i lo.length) 0 = 1 := rfl
 have eW : withQ s (chanceQ R A n) = (1 - s + s * chanceQ R A n) / chanceQ R A n := rfl
 generalize hOF : oddsQ (withQ s (chanceQ R A n)) s l (fun i => memI lo i lo.length) = OF at *
 (try dsimp only at OO OW OL)
 generalize hWQ : withQ s (chanceQ R A n) = wq at *
 generalize decide (chanceQ R A n < 1) = bl at *
 generalize chanceQ R A n = q at *
 have Fb := Hid.mk_ hub
 obtain ⟨ao, cap, rfl⟩ := hl.shape
 obtain ⟨ao', cap', rfl⟩ := ho.shape
 have HP := Hid.mk_ hl
 obtain ⟨N, hN⟩ : ∃ m, l.length = m := ⟨_, rfl⟩
 have HL := Hid.mk_ hN
 rw [hN] at HP l0 ⊢
 clear r0 r1 a0 a1 n2 n1 hp hub hl ho hc hOF hWQ hN
 go_enter Tryz.func51, Tryz.ntmps51
 go_wp2_with (first
  | (
    (with_reducible show wpList _ _ _ (⟨some 19, _, _, _, _, _⟩ :: _) _ _)
    refine load_big rfl 45 (.tmp 6) rfl (w.heap.size) rfl 45 #[.bool ua1, .slice ua2 ua3 ua4, .bool ua5, .slice ua6 ua7 ua8, .int .i64 R, .int .i64 A, .bool ub1, .slice ub2 ub3 ub4, .bool ub5, .slice ub6 ub7 ub8, .bool uc1, .slice uc2 uc3 uc4, .bool uc5, .slice uc6 uc7 uc8] _ ownK Tryz.underlying45 rfl (by kernel_rfl) ?_
    skip)
  )
 refine (CH _ belowB).mono ?_
 rintro e w1 ⟨vh_, rfl, hvh_, hb1⟩
 have st : Steps _ w1 := hb1
 have B : Below w.heap.size w w1 := belowA st
 have kp : Keeps w w1 := Keeps.then_ keepsB st
 have ou : Blk w1 (w.heap.size) 45 #[.bool ua1, .slice ua2 ua3 ua4, .bool ua5, .slice ua6 ua7 ua8, .int .i64 R, .int .i64 A, .bool ub1, .slice ub2 ub3 ub4, .bool ub5, .slice ub6 ub7 ub8, .bool uc1, .slice uc2 uc3 uc4, .bool uc5, .slice uc6 uc7 uc8] := Blk.stepsK st
 have or : Blk w1 (w.heap.size + 1) 28 #[.bool false, .slice none 0 0, .bool false, .slice none 0 0] := Blk.stepsK st
 replace Fb := Hid.mk_ (Fb.out.keeps kp)
 clear kp
 clear st
 obtain ⟨cu0, cu1, cu2, cu3, cu4, cu5, cu6, cu7, cu8, cu9, cu10, cu11, cu12, cu13⟩ := ou.r13
 have lu := ou.lt
 have lr := or.lt
 obtain ⟨h_1, h_2, h_3, h_4, h_5, h_6, h_7, h_8, rfl⟩ := hvh_.shape
 have Fh_ := Hid.mk_ hvh_
 clear hvh_
 have zr_1 : w.heap.size + 1 < w1.heap.size := or.lt
 have zz1 := B.size
 go_wp2_with fail
 go_upto_region 2 with fail
 refine Reg.wp_chain_n (fun N0 D v W => Below w.heap.size w W ∧ Keeps w1 W ∧ N0 ≤ W.heap.size ∧ Blk W (w.heap.size) 45 #[.bool ua1, .slice ua2 ua3 ua4, .bool ua5, .slice ua6 ua7 ua8, .int .i64 R, .int .i64 A, .bool ub1, .slice ub2 ub3 ub4, .bool ub5, .slice ub6 ub7 ub8, .bool uc1, .slice uc2 uc3 uc4, .bool uc5, .slice uc6 uc7 uc8] ∧ Blk W (w.heap.size + 1) 28 #[.bool false, .slice none 0 0, .bool false, .slice none 0 0] ∧ Blk W (w1.heap.size) 28 #[.bool h_1, .slice h_2 h_3 h_4, .bool h_5, .slice h_6 h_7 h_8] ∧ (D 19 = true → ∃ g : Nat, v 19 = .pointer (some ⟨g, 0, none⟩) ∧ N0 ≤ g ∧ g < W.heap.size ∧ (D 20 = false → Blk W g 28 #[.bool false, .slice none 0 0, .bool false, .slice none 0 0]) ∧ (D 20 = true → D 18 = true ∧ ∃ cs, v 18 = .agg cs ∧ Blk W g 28 cs)))
  (Reg.inl [4, 7, 12, 13, 15, 18, 19, 20]) (Reg.gv [(4, IsFr), (7, IsFr), (12, IsFr), (13, IsFr), (15, IsFrE 0), (18, IsFr), (19, IsPtr)]) (gw [(4, GFr (1)), (7, GFr ((1 - s))), (12, GFr ((s * q))), (13, GFr (((1 - s) + (s * q)))), (15, GFrE ((((1 - s) + (s * q)) / q)) 0), (18, GFr ((((1 - s) + (s * q)) / q)))]) (fun _ => Keeps) (fun _ _ => False) (Reg.pl [(7, [(4, some 28)]), (13, [(7, some 31), (12, some 36)]), (15, [(13, some 37)]), (18, [(15, some 39)]), (20, [(18, some 42), (19, some 13)]), (21, [(4, some 28), (7, some 31), (12, some 36), (13, some 37), (15, some 39), (18, some 42), (19, some 13)])]) (Reg.pl [(19, [20]), (18, [20])])
  (by kernel_rfl) (by kernel_rfl) (by kernel_rfl) (Reg.gvA _) (fun N0 hN0 => ⟨fun v => ?_, fun D v v' W hv hj => ?_, fun D v k j W W' x _ _ _ _ hk hg => gwA hk hg, fun _ _ _ _ h => h.elim, fun ops' Q' hops hQ => ?_⟩)
 · exact ⟨belowB, keepsB, by first | with_reducible exact Nat.le_of_eq hN0.out | (simp only [World.size_drew]; with_reducible exact Nat.le_of_eq hN0.out), ownK, ownK, ownK, (fun h => Bool.noConfusion h)⟩
 ·
  obtain ⟨j0, jk, jn, b_u, b_r, b_vh, a_19⟩ := hj
  exact ⟨j0, jk, jn, b_u, b_r, b_vh, fun h => by obtain ⟨g, e1, e2, e3, e4, e5⟩ := a_19 h; exact ⟨g, (hv 19 h) ▸ e1, e2, e3, e4, fun h => by obtain ⟨d, cs, e, hb⟩ := e5 h; exact ⟨d, cs, (hv 18 d) ▸ e, hb⟩⟩⟩
 have eN := hN0.out
 try simp only [World.size_alloc, World.size_setCell, World.size_drew, World.heap_drewN] at eN
 have i_u : w.heap.size < N0 := by first | omega | (have h := ou.lt; omega)
 have i_r : w.heap.size + 1 < N0 := by first | omega | (have h := or.lt; omega)
 have i_vh : w1.heap.size < N0 := by first | omega | (have h := ovh.lt; omega)
 have iw : w.heap.size ≤ N0 := by first | omega | (have h := B.size; omega)
 clear cu0 cu1 cu2 cu3 cu4 cu5 cu6 cu7 cu8 cu9 cu10 cu11 cu12 cu13 lu lr
 clear hN0
 refine Reg.RP0 24 ?_
 refine Reg.RP0 25 ?_
 refine Reg.RP0 26 ?_
 refine Reg.RP0 27 ?_
 refine Reg.RC_call rfl (tlt rfl) rfl (fun D v' W' hc hj hf K hK => ?_) ?_
 ·
  obtain ⟨j0, jk, jn, b_u, b_r, b_vh, a_19⟩ := hj
  clear hf
  go_step
  refine (O1 W' j0).mono ?_
  rintro e W2 ⟨u, rfl, hu, hs⟩
  obtain ⟨k_1, k_2, k_3, k_4, k_5, k_6, k_7, k_8, rfl⟩ := hu.shape
  exact hK.out _ W2 (Keeps.steps hs) ⟨jst j0 hs, jk.then_ hs, jsz jn hs, b_u.steps hs, b_r.steps hs, b_vh.steps hs, fun h => by obtain ⟨g, e1, e2, e3, e4, e5⟩ := a_19 h; exact ⟨g, e1, e2, Nat.lt_of_lt_of_le e3 (hs).size, fun h => (e4 h).steps hs, fun h => by obtain ⟨d, cs, e, hb⟩ := e5 h; exact ⟨d, cs, e, hb.steps hs⟩⟩⟩ hu ⟨_, _, _, _, _, _, _, _, rfl⟩
 rintro _ ⟨k_1, k_2, k_3, k_4, k_5, k_6, k_7, k_8, rfl⟩
 refine Reg.at70 rfl ?_
 refine Reg.RP0 29 ?_
 apply Reg.RP rfl rfl rfl 30 rfl rfl
 ·
  intro D v' W' hc hj hf K hK
  obtain ⟨j0, jk, jn, b_u, b_r, b_vh, a_19⟩ := hj
  have c6 := b_u.q6
  have c7 := b_u.q7
  have c8 := b_u.q8
  have c9 := b_u.q9
  go_step
  exact hK.out
 · rfl
 refine Reg.RC_call rfl (tlt rfl) rfl (fun D v' W' hc hj hf K hK => ?_) ?_
 ·
  obtain ⟨j0, jk, jn, b_u, b_r, b_vh, a_19⟩ := hj
  have g4 : GFr (1) _ W' := (hf (4, some 28) (.head _) rfl).2.2
  have g4 : FR W' _ (1) := g4
  clear hf
  go_step
  refine (msub W' (KC _ j0) g4 (Fb.out.keeps jk) s1 ss (by omega)).mono ?_
  rintro e W2 ⟨u, rfl, hu, hs⟩
  obtain ⟨xa1, xa2, xa3, xa4, xa5, xa6, xa7, xa8, rfl⟩ := hu.shape
  exact hK.out _ W2 (Keeps.steps hs) ⟨jst j0 hs, jk.then_ hs, jsz jn hs, b_u.steps hs, b_r.steps hs, b_vh.steps hs, fun h => by obtain ⟨g, e1, e2, e3, e4, e5⟩ := a_19 h; exact ⟨g, e1, e2, Nat.lt_of_lt_of_le e3 (hs).size, fun h => (e4 h).steps hs, fun h => by obtain ⟨d, cs, e, hb⟩ := e5 h; exact ⟨d, cs, e, hb.steps hs⟩⟩⟩ hu ⟨_, _, _, _, _, _, _, _, rfl⟩
 rintro _ ⟨xa1, xa2, xa3, xa4, xa5, xa6, xa7, xa8, rfl⟩
 refine Reg.at70 rfl ?_
 refine Reg.RP0 32 ?_
 refine Reg.RP0 33 ?_
 apply Reg.RP rfl rfl rfl 34 rfl rfl
 ·
  intro D v' W' hc hj hf K hK
  obtain ⟨j0, jk, jn, b_u, b_r, b_vh, a_19⟩ := hj
  have c6 := b_u.q6
  have c7 := b_u.q7
  have c8 := b_u.q8
  have c9 := b_u.q9
  go_step
  exact hK.out
 · rfl
 apply Reg.RP rfl rfl rfl 35 rfl rfl
 ·
  intro D v' W' hc hj hf K hK
  obtain ⟨j0, jk, jn, b_u, b_r, b_vh, a_19⟩ := hj
  obtain ⟨c0, c1, c2, c3⟩ := b_vh.r3
  go_step
  exact hK.out
 · rfl
 refine Reg.RC_call rfl (tlt rfl) rfl (fun D v' W' hc hj hf K hK => ?_) ?_
 ·
  obtain ⟨j0, jk, jn, b_u, b_r, b_vh, a_19⟩ := hj
  clear hf
  go_step
  refine (mmul W' (KC _ j0) (Fb.out.keeps jk) (Fh_.out.keeps jk) ss sc (by omega)).mono ?_
  rintro e W2 ⟨u, rfl, hu, hs⟩
  obtain ⟨xb1, xb2, xb3, xb4, xb5, xb6, xb7, xb8, rfl⟩ := hu.shape
  exact hK.out _ W2 (Keeps.steps hs) ⟨jst j0 hs, jk.then_ hs, jsz jn hs, b_u.steps hs, b_r.steps hs, b_vh.steps hs, fun h => by obtain ⟨g, e1, e2, e3, e4, e5⟩ := a_19 h; exact ⟨g, e1, e2, Nat.lt_of_lt_of_le e3 (hs).size, fun h => (e4 h).steps hs, fun h => by obtain ⟨d, cs, e, hb⟩ := e5 h; exact ⟨d, cs, e, hb.steps hs⟩⟩⟩ hu ⟨_, _, _, _, _, _, _, _, rfl⟩
 rintro _ ⟨xb1, xb2, xb3, xb4, xb5, xb6, xb7, xb8, rfl⟩
 refine Reg.at70 rfl ?_
 refine Reg.RC_call rfl (tlt rfl) rfl (fun D v' W' hc hj hf K hK => ?_) ?_
 ·
  obtain ⟨j0, jk, jn, b_u, b_r, b_vh, a_19⟩ := hj
  have g7 : GFr ((1 - s)) _ W' := (hf (7, some 31) (.head _) rfl).2.2
  have g7 : FR W' _ ((1 - s)) := g7
  have g12 : GFr ((s * q)) _ W' := (hf (12, some 36) (.tail _ (.head _)) rfl).2.2
  have g12 : FR W' _ ((s * q)) := g12
  clear hf
  go_step
  refine (madd W' (KC _ j0) g7 g12 (s1.sub ss) (ss.mul sc) (by omega)).mono ?_
  rintro e W2 ⟨u, rfl, hu, hs⟩
  obtain ⟨xc1, xc2, xc3, xc4, xc5, xc6, xc7, xc8, rfl⟩ := hu.shape
  exact hK.out _ W2 (Keeps.steps hs) ⟨jst j0 hs, jk.then_ hs, jsz jn hs, b_u.steps hs, b_r.steps hs, b_vh.steps hs, fun h => by obtain ⟨g, e1, e2, e3, e4, e5⟩ := a_19 h; exact ⟨g, e1, e2, Nat.lt_of_lt_of_le e3 (hs).size, fun h => (e4 h).steps hs, fun h => by obtain ⟨d, cs, e, hb⟩ := e5 h; exact ⟨d, cs, e, hb.steps hs⟩⟩⟩ hu ⟨_, _, _, _, _, _, _, _, rfl⟩
 rintro _ ⟨xc1, xc2, xc3, xc4, xc5, xc6, xc7, xc8, rfl⟩
 refine Reg.at70 rfl ?_
 apply Reg.RP rfl rfl rfl 38 rfl rfl
 ·
  intro D v' W' hc hj hf K hK
  obtain ⟨j0, jk, jn, b_u, b_r, b_vh, a_19⟩ := hj
  obtain ⟨c0, c1, c2, c3⟩ := b_vh.r3
  go_step
  exact hK.out
 · rfl
 refine Reg.RC_call rfl (tlt rfl) rfl (fun D v' W' hc hj hf K hK => ?_) ?_
 ·
  obtain ⟨j0, jk, jn, b_u, b_r, b_vh, a_19⟩ := hj
  have g13 : GFr (((1 - s) + (s * q))) _ W' := (hf (13, some 37) (.head _) rfl).2.2
  have g13 : FR W' _ (((1 - s) + (s * q))) := g13
  clear hf
  go_step
  refine (fDivQ W' g13 (Fh_.out.keeps jk) ((s1.sub ss).add (ss.mul sc)) sc (by omega) hne).mono ?_
  rintro e W2 ⟨u, rfl, hu, hs⟩
  obtain ⟨xd1, xd2, xd3, xd4, xd5, xd6, xd7, xd8, rfl⟩ := hu.shape
  exact hK.out _ W2 (Keeps.steps hs) ⟨jst j0 hs, jk.then_ hs, jsz jn hs, b_u.steps hs, b_r.steps hs, b_vh.steps hs, fun h => by obtain ⟨g, e1, e2, e3, e4, e5⟩ := a_19 h; exact ⟨g, e1, e2, Nat.lt_of_lt_of_le e3 (hs).size, fun h => (e4 h).steps hs, fun h => by obtain ⟨d, cs, e, hb⟩ := e5 h; exact ⟨d, cs, e, hb.steps hs⟩⟩⟩ ⟨_, rfl, hu⟩ ⟨_, _, _, _, _, _, _, _, rfl⟩
 rintro _ ⟨xd1, xd2, xd3, xd4, xd5, xd6, xd7, xd8, rfl⟩
 refine Reg.at70 rfl ?_
 refine Reg.RP0 40 ?_
 refine Reg.RP0 41 ?_
 refine Reg.RC_call rfl (tlt rfl) rfl (fun D v' W' hc hj hf K hK => ?_) ?_
 ·
  obtain ⟨j0, jk, jn, b_u, b_r, b_vh, a_19⟩ := hj
  have g15 : GFrE ((((1 - s) + (s * q)) / q)) 0 _ W' := (hf (15, some 39) (.head _) rfl).2.2
  have g15 := g15.get
  clear hf
  go_step
  refine (mkeepQ W' (KC _ j0) g15).mono ?_
  rintro e W2 ⟨u, rfl, hu, hs⟩
  obtain ⟨wi1, wi2, wi3, wi4, wi5, wi6, wi7, wi8, rfl⟩ := hu.shape
  exact hK.out _ W2 (Keeps.steps hs) ⟨jst j0 hs, jk.then_ hs, jsz jn hs, b_u.steps hs, b_r.steps hs, b_vh.steps hs, fun h => by obtain ⟨g, e1, e2, e3, e4, e5⟩ := a_19 h; exact ⟨g, e1, e2, Nat.lt_of_lt_of_le e3 (hs).size, fun h => (e4 h).steps hs, fun h => Bool.noConfusion ((hc.2 20 (by decide)).symm.trans h)⟩⟩ hu ⟨_, _, _, _, _, _, _, _, rfl⟩
 rintro _ ⟨wi1, wi2, wi3, wi4, wi5, wi6, wi7, wi8, rfl⟩
 refine Reg.at70 rfl ?_
 refine Reg.RC_call rfl (tlt rfl) rfl (fun D v' W' hc hj hf K hK => ?_) ?_
 ·
  obtain ⟨j0, jk, jn, b_u, b_r, b_vh, a_19⟩ := hj
  go_step
  have hs : ∀ o : Obj, Steps W' (W'.alloc o) := fun o => (Below.refl _ _).alloc (Nat.le_refl _) o
  exact hK.out _ _ (Keeps.steps (hs _)) ⟨jst j0 (hs _), jk.then_ (hs _), jsz jn (hs _), b_u.steps (hs _), b_r.steps (hs _), b_vh.steps (hs _), fun _ => ⟨W'.heap.size, rfl, jn, by rw [World.size_alloc]; omega, fun _ => Blk.new _ _ _, fun h => Bool.noConfusion ((hc.2 20 (by decide)).symm.trans h)⟩⟩ trivial ⟨_, rfl⟩
 rintro _ ⟨p13, rfl⟩
 refine Reg.at70 rfl ?_
 refine Reg.RC_call rfl (by intro t ht; cases ht) rfl (fun D v' W' hc hj hf K hK => ?_) (fun _ _ => Reg.RC_at (b := ⟨_, _⟩) rfl ?_)
 ·
  obtain ⟨j0, jk, jn, b_u, b_r, b_vh, a_19⟩ := hj
  have f := hf (19, some 13) (.tail _ (.head _)) rfl
  have e6 : v' 19 = .pointer (some ⟨p13, 0, none⟩) := f.2.1
  obtain ⟨g, e1, e2, e3, e4, e5⟩ := a_19 f.1
  obtain rfl : p13 = g := Reg.ptr_eq (e6.symm.trans e1)
  have hb := e4 hc.1
  clear e4 e5
  have fc := hf (18, some 42) (.head _) rfl
  have ec : v' 18 = .agg #[.bool wi1, .slice wi2 wi3 wi4, .bool wi5, .slice wi6 wi7 wi8] := fc.2.1
  have ff := hb.fr
  obtain ⟨cc0, cc1, cc2, cc3⟩ := hb.r3
  go_step
  exact hK.out undef _ (keeps4 hb rfl) ⟨(below4 j0 (by show w.heap.size ≤ p13; omega)), jk.trans (keeps4 hb rfl), by simpa using jn, (b_u).far4 (show w.heap.size ≠ p13 by omega), (b_r).far4 (show w.heap.size + 1 ≠ p13 by omega), (b_vh).far4 (show w1.heap.size ≠ p13 by omega), fun _ => ⟨p13, e1, e2, by simpa using e3, fun h => Bool.noConfusion h, fun _ => ⟨fc.1, _, ec, (Blk.set2 (cs' := #[.bool wi1, .slice wi2 wi3 wi4, .bool wi5, .slice wi6 wi7 wi8]) (Blk.set2 (cs' := #[.bool wi1, .slice wi2 wi3 wi4, .bool wi5, .slice none 0 0]) (Blk.set2 (cs' := #[.bool wi1, .slice wi2 wi3 wi4, .bool false, .slice none 0 0]) (Blk.set2 (cs' := #[.bool wi1, .slice none 0 0, .bool false, .slice none 0 0]) hb (i := 0) rfl) (i := 1) rfl) (i := 2) rfl) (i := 3) rfl)⟩⟩⟩ trivial trivial
 refine Reg.RC_end (fun Dn v' w2 hd hj hf => ?_)
 obtain ⟨j0, jk, jn, b_u, b_r, b_vh, a_19⟩ := hj
 have B := j0
 have ou := b_u
 clear b_u
 have or := b_r
 clear b_r
 have ovh := b_vh
 clear b_vh
 have f := hf (19, some 13) (.tail _ (.tail _ (.tail _ (.tail _ (.tail _ (.tail _ (.head _))))))) rfl
 have e6_ : v' 19 = .pointer (some ⟨p13, 0, none⟩) := f.2.1
 obtain ⟨g, e1_, zvw, -, -, e5_⟩ := a_19 f.1
 obtain rfl : p13 = g := Reg.ptr_eq (e6_.symm.trans e1_)
 obtain ⟨-, cs_, ee, ovw⟩ := e5_ (hd 20 (Nat.le_of_ble_eq_true rfl))
 have ef : v' 18 = .agg #[.bool wi1, .slice wi2 wi3 wi4, .bool wi5, .slice wi6 wi7 wi8] := (hf (18, some 42) (.tail _ (.tail _ (.tail _ (.tail _ (.tail _ (.head _)))))) rfl).2.1
 obtain rfl : #[.bool wi1, .slice wi2 wi3 wi4, .bool wi5, .slice wi6 wi7 wi8] = cs_ := by have := ef.symm.trans ee; simpa only [Value.tuple.injEq, Value.agg.injEq, Array.mk.injEq, List.cons.injEq, and_true, true_and] using this
 clear ee ef f e5_ e1_ e6_
 have Fwi : Hid (FR w2 (.agg #[.bool wi1, .slice wi2 wi3 wi4, .bool wi5, .slice wi6 wi7 wi8]) ((((1 - s) + (s * q)) / q))) := (hf (18, some 42) (.tail _ (.tail _ (.tail _ (.tail _ (.tail _ (.head _)))))) rfl).2.2
 replace Fb := Hid.mk_ (Fb.out.keeps jk)
 replace Fh_ := Hid.mk_ (Fh_.out.keeps jk)
 clear hd hf jk j0
 refine hQ _ _ ?_
 clear hQ hops Q' ops'
 rw [← eW] at Fwi
 go_wp2_with fail
 refine (O1 _ belowB).mono ?_
 rintro e w3 ⟨vp_, rfl, hvp_, hb3⟩
 have st : Steps _ w3 := hb3
 have sk : Below w2.heap.size w2 w3 := belowA st
 replace B := below_steps B (Nat.le_refl _) sk
 replace ou := ou.steps sk
 replace or := or.steps sk
 replace ovh := ovh.steps sk
 replace ovw := ovw.steps sk
 replace Fb := Hid.mk_ (Fb.out.steps sk)
 replace Fh_ := Hid.mk_ (Fh_.out.steps sk)
 replace Fwi := Hid.mk_ (Fwi.out.steps sk)
 clear st sk
 obtain ⟨p_1, p_2, p_3, p_4, p_5, p_6, p_7, p_8, rfl⟩ := hvp_.shape
 have Fp_ := Hid.mk_ hvp_
 clear hvp_
 have zvw_3 : p13 < w3.heap.size := ovw.lt
 have zz3 := B.size
 go_wp2_with fail
 have OZ' : Hid (FR _ (.agg #[.bool p_1, .slice p_2 p_3 p_4, .bool p_5, .slice p_6 p_7 p_8]) (OF 0)) := Hid.mk_ (by rw [OZ]; exact Fp_.out)
 go_loopw [47] (fun sl0 wr => ∃ (i : Nat) (y1 : Bool) (y2 : Option Addr) (y3 y4 : Nat) (y5 : Bool) (y6 : Option Addr) (y7 y8 : Nat), i ≤ N ∧ sl0 = .int .i64 i ∧ Blk wr (w3.heap.size) 28 #[.bool y1, .slice y2 y3 y4, .bool y5, .slice y6 y7 y8] ∧ FR wr (.agg #[.bool y1, .slice y2 y3 y4, .bool y5, .slice y6 y7 y8]) (OF i) ∧ Blk wr (w.heap.size) 45 #[.bool ua1, .slice ua2 ua3 ua4, .bool ua5, .slice ua6 ua7 ua8, .int .i64 R, .int .i64 A, .bool ub1, .slice ub2 ub3 ub4, .bool ub5, .slice ub6 ub7 ub8, .bool uc1, .slice uc2 uc3 uc4, .bool uc5, .slice uc6 uc7 uc8] ∧ Blk wr (w.heap.size + 1) 28 #[.bool false, .slice none 0 0, .bool false, .slice none 0 0] ∧ Blk wr (w1.heap.size) 28 #[.bool h_1, .slice h_2 h_3 h_4, .bool h_5, .slice h_6 h_7 h_8] ∧ Blk wr (p13) 28 #[.bool wi1, .slice wi2 wi3 wi4, .bool wi5, .slice wi6 wi7 wi8] ∧ Below w.heap.size w wr ∧ Keeps w3 wr) (fun sl0 _ => N - (intOf sl0).toNat)
 case atStart => exact ⟨0, _, _, _, _, _, _, _, _, by omega, rfl, ownK, OZ'.out.keeps keepsB, ownK, ownK, ownK, ownK, belowB, keepsB⟩
 case round =>
  clear OZ' Fp_
  clear ou or ovh ovw
  clear B
  obtain ⟨i, y1, y2, y3, y4, y5, y6, y7, y8, hi, rfl, ovp, fy, ou, or, ovh, ovw, B, kk⟩ := hrel
  replace Fb := Hid.mk_ (Fb.out.keeps kk)
  replace Fh_ := Hid.mk_ (Fh_.out.keeps kk)
  replace Fwi := Hid.mk_ (Fwi.out.keeps kk)
  have Fy := Hid.mk_ fy
  clear fy
  have OSi := OS i
  have lu := ou.lt
  obtain ⟨cr0, cr1, cr2, cr3, fr, lr⟩ := or.s3
  obtain ⟨cvp0, cvp1, cvp2, cvp3⟩ := ovp.r3
  have lvp := ovp.lt
  rcases Nat.lt_or_ge i N with i4 | i4
  ·
   have hlt : decide ((i : Int) < (N : Int)) = true := decide_eq_true (by omega)
   obtain ⟨b, of, rfl, hbl, h0⟩ := HP.out.at' (t := i) (by have := HL.out; omega)
   have c0 : wr.cell? ⟨b, of + i, none⟩ = some (.int .i64 (l.getD i 0)) := (B.cell (p := ⟨b, _, none⟩) hbl).trans h0
   have ct := fun (w' : World) (s : Below w.heap.size w w') => CT w' s (i : Int)
   have oo := OO i
   have ow := OW i
   have ol := OL i
   generalize memI lo (i : Int) lo.length = m at ct oo ow ol
   generalize l.getD i 0 = y at c0 ow ol
   clear h0 CT OO OW OL OS
   go_wp2_with fail
   refine (ct _ belowB).mono ?_
   rintro e w4 ⟨rfl, hb4⟩
   have st : Steps _ w4 := hb4
   have sk : Below wr.heap.size wr w4 := belowA st
   replace B := below_steps B (Nat.le_refl _) sk
   replace ou := ou.steps sk
   replace or := or.steps sk
   replace ovh := ovh.steps sk
   replace ovw := ovw.steps sk
   replace ovp := ovp.steps sk
   replace Fb := Hid.mk_ (Fb.out.steps sk)
   replace Fh_ := Hid.mk_ (Fh_.out.steps sk)
   replace Fwi := Hid.mk_ (Fwi.out.steps sk)
   replace Fy := Hid.mk_ (Fy.out.steps sk)
   replace kk := kk.then_ sk
   clear st sk lu cr0 cr1 cr2 cr3 fr lr cvp0 cvp1 cvp2 cvp3 lvp
   obtain ⟨cu0, cu1, cu2, cu3, cu4, cu5, cu6, cu7, cu8, cu9, cu10, cu11, cu12, cu13⟩ := ou.r13
   have lu := ou.lt
   have lr := or.lt
   obtain ⟨cvw0, cvw1, cvw2, cvw3⟩ := ovw.r3
   have lvw := ovw.lt
   obtain ⟨cvp0, cvp1, cvp2, cvp3⟩ := ovp.r3
   have lvp := ovp.lt
   cases m with
   | true =>
    have e0 := oo rfl
    clear oo ow ol c0
    go_wp2_with fail
    go_roundw
    case rel => exact ⟨i + 1, _, _, _, _, _, _, _, _, by omega, by go_num, ownK, (by rw [e0]; exact Fy.out.keeps keepsB), ownK, ownK, ownK, ownK, belowB, kk.trans keepsB⟩
    case measure => simp [intOf]; omega
   | false =>
    by_cases h0 : 0 ≤ y
    ·
     have e0 := ow rfl (by omega)
     clear oo ow ol
     go_wp2_with fail
     refine (mmul _ (KC _ belowB) (Fy.out.keeps keepsB) (Fwi.out.keeps keepsB) OSi sw (by omega)).mono ?_
     rintro e w5 ⟨vxf, rfl, hvxf, hb5⟩
     have st : Steps _ w5 := hb5
     have sk : Below w4.heap.size w4 w5 := belowA st
     replace B := below_steps B (Nat.le_refl _) sk
     replace ou := ou.steps sk
     replace or := or.steps sk
     replace ovh := ovh.steps sk
     replace ovw := ovw.steps sk
     replace ovp := ovp.steps sk
     replace Fb := Hid.mk_ (Fb.out.steps sk)
     replace Fh_ := Hid.mk_ (Fh_.out.steps sk)
     replace Fwi := Hid.mk_ (Fwi.out.steps sk)
     replace Fy := Hid.mk_ (Fy.out.steps sk)
     replace kk := kk.then_ sk
     clear st sk cu0 cu1 cu2 cu3 cu4 cu5 cu6 cu7 cu8 cu9 cu10 cu11 cu12 cu13 lu lr cvw0 cvw1 cvw2 cvw3 lvw cvp0 cvp1 cvp2 cvp3 lvp
     obtain ⟨cvp0, cvp1, cvp2, cvp3, fvp, lvp⟩ := ovp.s3
     obtain ⟨xf1, xf2, xf3, xf4, xf5, xf6, xf7, xf8, rfl⟩ := hvxf.shape
     have Fxf := Hid.mk_ hvxf
     clear hvxf
     go_wp2_with fail
     go_roundw
     case rel => exact ⟨i + 1, _, _, _, _, _, _, _, _, by omega, by go_num, ownK, (by rw [e0]; exact Fxf.out.keeps keepsB), ownK, ownK, ownK, ownK, belowB, kk.trans keepsB⟩
     case measure => simp [intOf]; omega
    ·
     have e0 := ol rfl (by omega)
     clear oo ow ol
     go_wp2_with fail
     refine (mmul _ (KC _ belowB) (Fy.out.keeps keepsB) (Fb.out.keeps keepsB) OSi ss (by omega)).mono ?_
     rintro e w5 ⟨vxh, rfl, hvxh, hb5⟩
     have st : Steps _ w5 := hb5
     have sk : Below w4.heap.size w4 w5 := belowA st
     replace B := below_steps B (Nat.le_refl _) sk
     replace ou := ou.steps sk
     replace or := or.steps sk
     replace ovh := ovh.steps sk
     replace ovw := ovw.steps sk
     replace ovp := ovp.steps sk
     replace Fb := Hid.mk_ (Fb.out.steps sk)
     replace Fh_ := Hid.mk_ (Fh_.out.steps sk)
     replace Fwi := Hid.mk_ (Fwi.out.steps sk)
     replace Fy := Hid.mk_ (Fy.out.steps sk)
     replace kk := kk.then_ sk
     clear st sk cu0 cu1 cu2 cu3 cu4 cu5 cu6 cu7 cu8 cu9 cu10 cu11 cu12 cu13 lu lr cvw0 cvw1 cvw2 cvw3 lvw cvp0 cvp1 cvp2 cvp3 lvp
     obtain ⟨cvp0, cvp1, cvp2, cvp3, fvp, lvp⟩ := ovp.s3
     obtain ⟨xh1, xh2, xh3, xh4, xh5, xh6, xh7, xh8, rfl⟩ := hvxh.shape
     have Fxh := Hid.mk_ hvxh
     clear hvxh
     go_wp2_with fail
     go_roundw
     case rel => exact ⟨i + 1, _, _, _, _, _, _, _, _, by omega, by go_num, ownK, (by rw [e0]; exact Fxh.out.keeps keepsB), ownK, ownK, ownK, ownK, belowB, kk.trans keepsB⟩
     case measure => simp [intOf]; omega
  ·
   obtain rfl : i = N := by omega
   go_wp2_with fail
   refine bodyPost_ret (by simp [results, Tryz.results51, go_sem, lu, cr0, cr1, cr2, cr3, fr, lr, cvp0, cvp1, cvp2, cvp3, lvp]; rfl) rfl ?_
   exact ⟨_, rfl, Fy.out.keeps keepsB, belowB⟩
def oddsE (K : Bool) (N : Nat) (ok : Bool) (n : Int) (less : Bool) : Int := if K = false then 8 else if 200 < N then 4 else if (n < 1 ∨ 200 < n) ∨ ok = false then 2 else if less = false then 2 else 0
def oddsR (e : Int) (r : Rat) : Option Rat := if e = 0 then some r else none
theorem mOdds {ua1 ua5 ub1 ub5 uc1 uc5 : Bool} {ua2 ua6 ub2 ub6 uc2 uc6 : Option Addr} {ua3 ua4 ua7 ua8 ub3 ub4 ub7 ub8 uc3 uc4 uc7 uc8 : Nat} {R A n : Int} {O : Nat → Option Rat} {vp : Value} {l : List Int} (w : World) (b0 : FB w (.agg #[.bool ua1, .slice ua2 ua3 ua4, .bool ua5, .slice ua6 ua7 ua8]) (O 0)) (b1 : FB w (.agg #[.bool ub1, .slice ub2 ub3 ub4, .bool ub5, .slice ub6 ub7 ub8]) (O 1)) (b2 : FB w (.agg #[.bool uc1, .slice uc2 uc3 uc4, .bool uc5, .slice uc6 uc7 uc8]) (O 2)) (fw : FewL O (f4v ua3 ub3 uc3 uc3) (f4v ua7 ub7 uc7 uc7) 3) (hl : IntsR w vp l) :
  Calls Tryz.prog 19 #[.agg #[.bool ua1, .slice ua2 ua3 ua4, .bool ua5, .slice ua6 ua7 ua8, .int .i64 R, .int .i64 A, .bool ub1, .slice ub2 ub3 ub4, .bool ub5, .slice ub6 ub7 ub8, .bool uc1, .slice uc2 uc3 uc4, .bool uc5, .slice uc6 uc7 uc8], vp, .int .i64 n] w fun e w' => ∃ v, e = .returned (.tuple #[v, .int .i64 (oddsE (ruleOk O (f4v ua3 ub3 uc3 uc3) (f4v ua7 ub7 uc7 uc7) R A ua1) l.length (okK l n l.length) n (decide (chanceQ R A n < 1)))]) ∧ FO w' v (oddsR (oddsE (ruleOk O (f4v ua3 ub3 uc3 uc3) (f4v ua7 ub7 uc7 uc7) R A ua1) l.length (okK l n l.length) n (decide (chanceQ R A n < 1))) (oddsQ (withQ ((O 1).getD 0) (chanceQ R A n)) ((O 1).getD 0) l noOut l.length)) ∧ Steps w w' := by
 have CK : ∀ w', Keeps w w' → Calls Tryz.prog 26 #[.agg #[.bool ua1, .slice ua2 ua3 ua4, .bool ua5, .slice ua6 ua7 ua8, .int .i64 R, .int .i64 A, .bool ub1, .slice ub2 ub3 ub4, .bool ub5, .slice ub6 ub7 ub8, .bool uc1, .slice uc2 uc3 uc4, .bool uc5, .slice uc6 uc7 uc8]] w' fun e w2 => e = .returned (.int .i64 (apErr (ruleOk O (f4v ua3 ub3 uc3 uc3) (f4v ua7 ub7 uc7 uc7) R A ua1))) ∧ Steps w' w2 := fun w' k => mCheck w' (b0.keeps k) (b1.keeps k) (b2.keeps k) fw
 have RK : ruleOk O (f4v ua3 ub3 uc3 uc3) (f4v ua7 ub7 uc7 uc7) R A ua1 = true → (1 ≤ R ∧ R ≤ 65536 ∧ 1 ≤ A ∧ A ≤ 17592186044416) ∧ ∃ r, O 1 = some r ∧ (O 1).getD 0 = r ∧ sz r 2 := fun h => by
  obtain ⟨hL, hR, _⟩ := ruleOk_iff.1 h
  obtain ⟨r1, e1, z1⟩ := limL_sz hL fw 1 (by omega)
  exact ⟨hR, r1, e1, by rw [e1]; rfl, z1⟩
 have CH : (1 ≤ R ∧ R ≤ 65536 ∧ 1 ≤ A ∧ A ≤ 17592186044416) → 1 ≤ n → n ≤ 200 → ∀ w' g, Blk w' g 89 #[.int .i64 0] → Calls Tryz.prog 50 #[.pointer (some ⟨g, 0, none⟩), .agg #[.bool ua1, .slice ua2 ua3 ua4, .bool ua5, .slice ua6 ua7 ua8, .int .i64 R, .int .i64 A, .bool ub1, .slice ub2 ub3 ub4, .bool ub5, .slice ub6 ub7 ub8, .bool uc1, .slice uc2 uc3 uc4, .bool uc5, .slice uc6 uc7 uc8], .int .i64 n] w' fun e w2 => ∃ v, e = .returned (.tuple #[v, .bool (decide (chanceQ R A n < 1))]) ∧ FR w2 v (chanceQ R A n) ∧ Steps w' w2 := fun hr n0 n1 w' g hb => mchance (ua1 := ua1) (ua2 := ua2) (ua3 := ua3) (ua4 := ua4) (ua5 := ua5) (ua6 := ua6) (ua7 := ua7) (ua8 := ua8) (ub1 := ub1) (ub2 := ub2) (ub3 := ub3) (ub4 := ub4) (ub5 := ub5) (ub6 := ub6) (ub7 := ub7) (ub8 := ub8) (uc1 := uc1) (uc2 := uc2) (uc3 := uc3) (uc4 := uc4) (uc5 := uc5) (uc6 := uc6) (uc7 := uc7) (uc8 := uc8) R A n w' hb hr.1 hr.2.1 hr.2.2.1 hr.2.2.2 (by omega) n1
 have OC := fun (w' : World) (g : Nat) (s : Steps w w') (hN : l.length ≤ 200) (hb : Blk w' g 3 #[.int .i64 n]) => ocontains n w' (hl.steps s) hb (by omega)
 have OD : (1 ≤ R ∧ R ≤ 65536 ∧ 1 ≤ A ∧ A ≤ 17592186044416) → 1 ≤ n → n ≤ 200 → l.length ≤ 200 → ∀ r, O 1 = some r → (O 1).getD 0 = r → sz r 2 → ∀ w' g, Keeps w w' → Steps w w' → Blk w' g 89 #[.int .i64 0] → Calls Tryz.prog 51 #[.pointer (some ⟨g, 0, none⟩), .agg #[.bool ua1, .slice ua2 ua3 ua4, .bool ua5, .slice ua6 ua7 ua8, .int .i64 R, .int .i64 A, .bool ub1, .slice ub2 ub3 ub4, .bool ub5, .slice ub6 ub7 ub8, .bool uc1, .slice uc2 uc3 uc4, .bool uc5, .slice uc6 uc7 uc8], vp, .int .i64 n, .slice none 0 0] w' fun e w2 => ∃ v, e = .returned v ∧ FR w2 v (oddsQ (withQ ((O 1).getD 0) (chanceQ R A n)) ((O 1).getD 0) l noOut l.length) ∧ Steps w' w2 := fun hr n0 n1 hN r e1 e2 z w' g k s hb => by
  rw [e2]
  exact modds w' hb (by have := b1.keeps k; rw [e1] at this; exact this) z hr.1 hr.2.1 hr.2.2.1 hr.2.2.2 n0 n1 (hl.steps s) (IntsR.nil w') hN (by simp)
 obtain ⟨ao, cap, rfl⟩ := hl.shape
 generalize hK : ruleOk O (f4v ua3 ub3 uc3 uc3) (f4v ua7 ub7 uc7 uc7) R A ua1 = K at *
 generalize okK l n l.length = okb at *
 generalize decide (chanceQ R A n < 1) = less at *
 generalize oddsQ (withQ ((O 1).getD 0) (chanceQ R A n)) ((O 1).getD 0) l noOut l.length = Q at *
 generalize chanceQ R A n = cq at *
 obtain ⟨N, hN⟩ : ∃ m, l.length = m := ⟨_, rfl⟩
 rw [hN] at OC OD ⊢
 clear hl b0 b1 b2 fw hK hN
 cases K with
 | false =>
  have eE : oddsE false N okb n less = 8 := by simp [oddsE]
  rw [eE]
  clear RK CH OC OD
  have eA : apErr false = 8 := rfl
  rw [eA] at CK
  show Calls _ _ _ _ fun e w' => ∃ v, e = _ ∧ FO w' v none ∧ _
  go_enter Tryz.func19, Tryz.ntmps19
  have kk := Keeps.refl w
  go_wp2_with fail
  refine (CK _ (kk.trans keepsB)).mono ?_
  rintro e w1 ⟨rfl, hb1⟩
  have st : Steps _ w1 := hb1
  have B : Below w.heap.size w w1 := belowA st
  have kp : Keeps w w1 := Keeps.then_ keepsB st
  replace kk := kk.trans kp
  have ou : Blk w1 (w.heap.size) 45 #[.bool ua1, .slice ua2 ua3 ua4, .bool ua5, .slice ua6 ua7 ua8, .int .i64 R, .int .i64 A, .bool ub1, .slice ub2 ub3 ub4, .bool ub5, .slice ub6 ub7 ub8, .bool uc1, .slice uc2 uc3 uc4, .bool uc5, .slice uc6 uc7 uc8] := Blk.stepsK st
  have on : Blk w1 (w.heap.size + 1) 3 #[.int .i64 n] := Blk.stepsK st
  have or : Blk w1 (w.heap.size + 1 + 1) 28 #[.bool false, .slice none 0 0, .bool false, .slice none 0 0] := Blk.stepsK st
  clear kp
  clear st
  have lu := ou.lt
  have ln := on.lt
  obtain ⟨cr0, cr1, cr2, cr3, fr, lr⟩ := or.s3
  dsimp only; repeat' (first | go_values | go_skip | go_guarded | go_step | go_upon)
  refine bodyPost_ret (by simp [results, Tryz.results19, go_sem, lu, ln, cr0, cr1, cr2, cr3, fr, lr]; rfl) rfl ?_
  exact ⟨_, rfl, rfl, belowB⟩
 | true =>
  have eA : apErr true = 0 := rfl
  rw [eA] at CK
  obtain ⟨hR, r1, e1, e2, z1⟩ := RK rfl
  clear RK
  rcases (show 200 < N ∨ (¬ 200 < N ∧ n < 1) ∨ (¬ 200 < N ∧ ¬ n < 1 ∧ 200 < n) ∨ (¬ 200 < N ∧ ¬ n < 1 ∧ ¬ 200 < n) by omega) with g1 | ⟨g1, g2⟩ | ⟨g1, g2, g3⟩ | ⟨g1, g2, g3⟩
  ·
   have eE : oddsE true N okb n less = 4 := by simp [oddsE, g1]
   have hlt : decide ((200 : Int) < (N : Int)) = true := decide_eq_true (by omega)
   rw [eE]
   clear CH OC OD
   show Calls _ _ _ _ fun e w' => ∃ v, e = _ ∧ FO w' v none ∧ _
   go_enter Tryz.func19, Tryz.ntmps19
   have kk := Keeps.refl w
   go_wp2_with fail
   refine (CK _ (kk.trans keepsB)).mono ?_
   rintro e w1 ⟨rfl, hb1⟩
   have st : Steps _ w1 := hb1
   have B : Below w.heap.size w w1 := belowA st
   have kp : Keeps w w1 := Keeps.then_ keepsB st
   replace kk := kk.trans kp
   have ou : Blk w1 (w.heap.size) 45 #[.bool ua1, .slice ua2 ua3 ua4, .bool ua5, .slice ua6 ua7 ua8, .int .i64 R, .int .i64 A, .bool ub1, .slice ub2 ub3 ub4, .bool ub5, .slice ub6 ub7 ub8, .bool uc1, .slice uc2 uc3 uc4, .bool uc5, .slice uc6 uc7 uc8] := Blk.stepsK st
   have on : Blk w1 (w.heap.size + 1) 3 #[.int .i64 n] := Blk.stepsK st
   have or : Blk w1 (w.heap.size + 1 + 1) 28 #[.bool false, .slice none 0 0, .bool false, .slice none 0 0] := Blk.stepsK st
   clear kp
   clear st
   have lu := ou.lt
   have ln := on.lt
   obtain ⟨cr0, cr1, cr2, cr3, fr, lr⟩ := or.s3
   dsimp only; repeat' (first | go_values | go_skip | go_guarded | go_step | go_upon)
   refine bodyPost_ret (by simp [results, Tryz.results19, go_sem, lu, ln, cr0, cr1, cr2, cr3, fr, lr]; rfl) rfl ?_
   exact ⟨_, rfl, rfl, belowB⟩
  ·
   have eE : oddsE true N okb n less = 2 := by simp [oddsE, g1, g2]
   have hlt : decide ((200 : Int) < (N : Int)) = false := decide_eq_false (by omega)
   rw [eE]
   clear CH OC OD
   show Calls _ _ _ _ fun e w' => ∃ v, e = _ ∧ FO w' v none ∧ _
   go_enter Tryz.func19, Tryz.ntmps19
   have kk := Keeps.refl w
   go_wp2_with fail
   refine (CK _ (kk.trans keepsB)).mono ?_
   rintro e w1 ⟨rfl, hb1⟩
   have st : Steps _ w1 := hb1
   have B : Below w.heap.size w w1 := belowA st
   have kp : Keeps w w1 := Keeps.then_ keepsB st
   replace kk := kk.trans kp
   have ou : Blk w1 (w.heap.size) 45 #[.bool ua1, .slice ua2 ua3 ua4, .bool ua5, .slice ua6 ua7 ua8, .int .i64 R, .int .i64 A, .bool ub1, .slice ub2 ub3 ub4, .bool ub5, .slice ub6 ub7 ub8, .bool uc1, .slice uc2 uc3 uc4, .bool uc5, .slice uc6 uc7 uc8] := Blk.stepsK st
   have on : Blk w1 (w.heap.size + 1) 3 #[.int .i64 n] := Blk.stepsK st
   have or : Blk w1 (w.heap.size + 1 + 1) 28 #[.bool false, .slice none 0 0, .bool false, .slice none 0 0] := Blk.stepsK st
   clear kp
   clear st
   have lu := ou.lt
   have cn0 := on.q0
   have ln := on.lt
   obtain ⟨cr0, cr1, cr2, cr3, fr, lr⟩ := or.s3
   dsimp only; repeat' (first | go_values | go_skip | go_guarded | go_step | go_upon)
   refine bodyPost_ret (by simp [results, Tryz.results19, go_sem, lu, cn0, ln, cr0, cr1, cr2, cr3, fr, lr]; rfl) rfl ?_
   exact ⟨_, rfl, rfl, belowB⟩
  ·
   have eE : oddsE true N okb n less = 2 := by simp [oddsE, g1, g2, g3]
   have hlt : decide ((200 : Int) < (N : Int)) = false := decide_eq_false (by omega)
   rw [eE]
   clear CH OC OD
   show Calls _ _ _ _ fun e w' => ∃ v, e = _ ∧ FO w' v none ∧ _
   go_enter Tryz.func19, Tryz.ntmps19
   have kk := Keeps.refl w
   go_wp2_with fail
   refine (CK _ (kk.trans keepsB)).mono ?_
   rintro e w1 ⟨rfl, hb1⟩
   have st : Steps _ w1 := hb1
   have B : Below w.heap.size w w1 := belowA st
   have kp : Keeps w w1 := Keeps.then_ keepsB st
   replace kk := kk.trans kp
   have ou : Blk w1 (w.heap.size) 45 #[.bool ua1, .slice ua2 ua3 ua4, .bool ua5, .slice ua6 ua7 ua8, .int .i64 R, .int .i64 A, .bool ub1, .slice ub2 ub3 ub4, .bool ub5, .slice ub6 ub7 ub8, .bool uc1, .slice uc2 uc3 uc4, .bool uc5, .slice uc6 uc7 uc8] := Blk.stepsK st
   have on : Blk w1 (w.heap.size + 1) 3 #[.int .i64 n] := Blk.stepsK st
   have or : Blk w1 (w.heap.size + 1 + 1) 28 #[.bool false, .slice none 0 0, .bool false, .slice none 0 0] := Blk.stepsK st
   clear kp
   clear st
   have lu := ou.lt
   have cn0 := on.q0
   have ln := on.lt
   obtain ⟨cr0, cr1, cr2, cr3, fr, lr⟩ := or.s3
   dsimp only; repeat' (first | go_values | go_skip | go_guarded | go_step | go_upon)
   refine bodyPost_ret (by simp [results, Tryz.results19, go_sem, lu, cn0, ln, cr0, cr1, cr2, cr3, fr, lr]; rfl) rfl ?_
   exact ⟨_, rfl, rfl, belowB⟩
  ·
   have hlt : decide ((200 : Int) < (N : Int)) = false := decide_eq_false (by omega)
   replace CH := CH hR (by omega) (by omega)
   replace OD := OD hR (by omega) (by omega) (by omega) r1 e1 e2 z1
   clear hR e1 e2 z1
   cases okb with
   | false =>
    have OC' : ∀ (w' : World) (g : Nat) (s : Steps w w') (hN : N ≤ 200) (hb : Blk w' g 3 #[.int .i64 n]), _ := OC
    have eE : oddsE true N false n less = 2 := by simp [oddsE, g1]
    rw [eE]
    clear CH OD OC'
    show Calls _ _ _ _ fun e w' => ∃ v, e = _ ∧ FO w' v none ∧ _
    have eN : (!false) = true := rfl
    rw [eN] at OC
    go_enter Tryz.func19, Tryz.ntmps19
    have kk := Keeps.refl w
    go_wp2_with fail
    refine (CK _ (kk.trans keepsB)).mono ?_
    rintro e w1 ⟨rfl, hb1⟩
    have st : Steps _ w1 := hb1
    have B : Below w.heap.size w w1 := belowA st
    have kp : Keeps w w1 := Keeps.then_ keepsB st
    replace kk := kk.trans kp
    have ou : Blk w1 (w.heap.size) 45 #[.bool ua1, .slice ua2 ua3 ua4, .bool ua5, .slice ua6 ua7 ua8, .int .i64 R, .int .i64 A, .bool ub1, .slice ub2 ub3 ub4, .bool ub5, .slice ub6 ub7 ub8, .bool uc1, .slice uc2 uc3 uc4, .bool uc5, .slice uc6 uc7 uc8] := Blk.stepsK st
    have on : Blk w1 (w.heap.size + 1) 3 #[.int .i64 n] := Blk.stepsK st
    have or : Blk w1 (w.heap.size + 1 + 1) 28 #[.bool false, .slice none 0 0, .bool false, .slice none 0 0] := Blk.stepsK st
    clear kp
    clear st
    have lu := ou.lt
    have cn0 := on.q0
    have ln := on.lt
    have lr := or.lt
    go_wp2_with fail
    refine (OC _ _ belowB (by omega) ownK).mono ?_
    rintro e w2 ⟨rfl, hb2⟩
    have st : Steps _ w2 := hb2
    have sk : Below w1.heap.size w1 w2 := belowA st
    replace B := below_steps B (Nat.le_refl _) sk
    replace ou := ou.steps sk
    replace on := on.steps sk
    replace or := or.steps sk
    replace kk := kk.then_ sk
    clear st sk lu cn0 ln lr
    have lu := ou.lt
    have ln := on.lt
    obtain ⟨cr0, cr1, cr2, cr3, fr, lr⟩ := or.s3
    dsimp only; repeat' (first | go_values | go_skip | go_guarded | go_step | go_upon)
    refine bodyPost_ret (by simp [results, Tryz.results19, go_sem, lu, ln, cr0, cr1, cr2, cr3, fr, lr]; rfl) rfl ?_
    exact ⟨_, rfl, rfl, belowB⟩
   | true =>
    have eN : (!true) = false := rfl
    rw [eN] at OC
    cases less with
    | false =>
     have eE : oddsE true N true n false = 2 := by simp [oddsE, g1, g2, g3]
     rw [eE]
     clear OD
     show Calls _ _ _ _ fun e w' => ∃ v, e = _ ∧ FO w' v none ∧ _
     go_enter Tryz.func19, Tryz.ntmps19
     have kk := Keeps.refl w
     go_wp2_with fail
     refine (CK _ (kk.trans keepsB)).mono ?_
     rintro e w1 ⟨rfl, hb1⟩
     have st : Steps _ w1 := hb1
     have B : Below w.heap.size w w1 := belowA st
     have kp : Keeps w w1 := Keeps.then_ keepsB st
     replace kk := kk.trans kp
     have ou : Blk w1 (w.heap.size) 45 #[.bool ua1, .slice ua2 ua3 ua4, .bool ua5, .slice ua6 ua7 ua8, .int .i64 R, .int .i64 A, .bool ub1, .slice ub2 ub3 ub4, .bool ub5, .slice ub6 ub7 ub8, .bool uc1, .slice uc2 uc3 uc4, .bool uc5, .slice uc6 uc7 uc8] := Blk.stepsK st
     have on : Blk w1 (w.heap.size + 1) 3 #[.int .i64 n] := Blk.stepsK st
     have or : Blk w1 (w.heap.size + 1 + 1) 28 #[.bool false, .slice none 0 0, .bool false, .slice none 0 0] := Blk.stepsK st
     clear kp
     clear st
     have lu := ou.lt
     have cn0 := on.q0
     have ln := on.lt
     have lr := or.lt
     go_wp2_with fail
     refine (OC _ _ belowB (by omega) ownK).mono ?_
     rintro e w2 ⟨rfl, hb2⟩
     have st : Steps _ w2 := hb2
     have sk : Below w1.heap.size w1 w2 := belowA st
     replace B := below_steps B (Nat.le_refl _) sk
     replace ou := ou.steps sk
     replace on := on.steps sk
     replace or := or.steps sk
     replace kk := kk.then_ sk
     clear st sk lu cn0 ln lr
     obtain ⟨cu0, cu1, cu2, cu3, cu4, cu5, cu6, cu7, cu8, cu9, cu10, cu11, cu12, cu13⟩ := ou.r13
     have lu := ou.lt
     have cn0 := on.q0
     have ln := on.lt
     have lr := or.lt
     have zr_2 : w.heap.size + 1 + 1 < w2.heap.size := or.lt
     have zz2 := B.size
     go_wp2_with fail
     refine (CH _ (w2.heap.size) ownK).mono ?_
     rintro e w3 ⟨vh_, rfl, hvh_, hb3⟩
     have st : Steps _ w3 := hb3
     have sk : Below w2.heap.size w2 w3 := belowA st
     replace B := below_steps B (Nat.le_refl _) sk
     have ovc : Blk w3 (w2.heap.size) 89 #[.int .i64 0] := Blk.stepsK st
     replace ou := ou.steps sk
     replace on := on.steps sk
     replace or := or.steps sk
     replace kk := kk.then_ sk
     clear st sk cu0 cu1 cu2 cu3 cu4 cu5 cu6 cu7 cu8 cu9 cu10 cu11 cu12 cu13 lu cn0 ln lr
     have lu := ou.lt
     have ln := on.lt
     obtain ⟨cr0, cr1, cr2, cr3, fr, lr⟩ := or.s3
     obtain ⟨h_1, h_2, h_3, h_4, h_5, h_6, h_7, h_8, rfl⟩ := hvh_.shape
     have Fh_ := Hid.mk_ hvh_
     clear hvh_
     have zvc_3 : w2.heap.size < w3.heap.size := ovc.lt
     have zz3 := B.size
     dsimp only; repeat' (first | go_values | go_skip | go_guarded | go_step | go_upon)
     refine bodyPost_ret (by simp [results, Tryz.results19, go_sem, lu, ln, cr0, cr1, cr2, cr3, fr, lr]; rfl) rfl ?_
     exact ⟨_, rfl, rfl, belowB⟩
    | true =>
     have eE : oddsE true N true n true = 0 := by simp [oddsE, g1, g2, g3]
     rw [eE]
     show Calls _ _ _ _ fun e w' => ∃ v, e = _ ∧ FO w' v (some Q) ∧ _
     go_enter Tryz.func19, Tryz.ntmps19
     have kk := Keeps.refl w
     go_wp2_with fail
     refine (CK _ (kk.trans keepsB)).mono ?_
     rintro e w1 ⟨rfl, hb1⟩
     have st : Steps _ w1 := hb1
     have B : Below w.heap.size w w1 := belowA st
     have kp : Keeps w w1 := Keeps.then_ keepsB st
     replace kk := kk.trans kp
     have ou : Blk w1 (w.heap.size) 45 #[.bool ua1, .slice ua2 ua3 ua4, .bool ua5, .slice ua6 ua7 ua8, .int .i64 R, .int .i64 A, .bool ub1, .slice ub2 ub3 ub4, .bool ub5, .slice ub6 ub7 ub8, .bool uc1, .slice uc2 uc3 uc4, .bool uc5, .slice uc6 uc7 uc8] := Blk.stepsK st
     have on : Blk w1 (w.heap.size + 1) 3 #[.int .i64 n] := Blk.stepsK st
     have or : Blk w1 (w.heap.size + 1 + 1) 28 #[.bool false, .slice none 0 0, .bool false, .slice none 0 0] := Blk.stepsK st
     clear kp
     clear st
     have lu := ou.lt
     have cn0 := on.q0
     have ln := on.lt
     have lr := or.lt
     go_wp2_with fail
     refine (OC _ _ belowB (by omega) ownK).mono ?_
     rintro e w2 ⟨rfl, hb2⟩
     have st : Steps _ w2 := hb2
     have sk : Below w1.heap.size w1 w2 := belowA st
     replace B := below_steps B (Nat.le_refl _) sk
     replace ou := ou.steps sk
     replace on := on.steps sk
     replace or := or.steps sk
     replace kk := kk.then_ sk
     clear st sk lu cn0 ln lr
     obtain ⟨cu0, cu1, cu2, cu3, cu4, cu5, cu6, cu7, cu8, cu9, cu10, cu11, cu12, cu13⟩ := ou.r13
     have lu := ou.lt
     have cn0 := on.q0
     have ln := on.lt
     have lr := or.lt
     have zr_2 : w.heap.size + 1 + 1 < w2.heap.size := or.lt
     have zz2 := B.size
     go_wp2_with fail
     refine (CH _ (w2.heap.size) ownK).mono ?_
     rintro e w3 ⟨vh_, rfl, hvh_, hb3⟩
     have st : Steps _ w3 := hb3
     have sk : Below w2.heap.size w2 w3 := belowA st
     replace B := below_steps B (Nat.le_refl _) sk
     have ovc : Blk w3 (w2.heap.size) 89 #[.int .i64 0] := Blk.stepsK st
     replace ou := ou.steps sk
     replace on := on.steps sk
     replace or := or.steps sk
     replace kk := kk.then_ sk
     clear st sk cu0 cu1 cu2 cu3 cu4 cu5 cu6 cu7 cu8 cu9 cu10 cu11 cu12 cu13 lu cn0 ln lr
     obtain ⟨cu0, cu1, cu2, cu3, cu4, cu5, cu6, cu7, cu8, cu9, cu10, cu11, cu12, cu13⟩ := ou.r13
     have lu := ou.lt
     have cn0 := on.q0
     have ln := on.lt
     have lr := or.lt
     obtain ⟨h_1, h_2, h_3, h_4, h_5, h_6, h_7, h_8, rfl⟩ := hvh_.shape
     have Fh_ := Hid.mk_ hvh_
     clear hvh_
     have zvc_3 : w2.heap.size < w3.heap.size := ovc.lt
     have zz3 := B.size
     go_wp2_with fail
     refine (OD _ (w2.heap.size) (kk.trans keepsB) belowB ownK).mono ?_
     rintro e w4 ⟨vp_, rfl, hvp_, hb4⟩
     have st : Steps _ w4 := hb4
     have sk : Below w3.heap.size w3 w4 := belowA st
     replace B := below_steps B (Nat.le_refl _) sk
     have ovx : Blk w4 (w3.heap.size) 28 #[.bool h_1, .slice h_2 h_3 h_4, .bool h_5, .slice h_6 h_7 h_8] := Blk.stepsK st
     replace ou := ou.steps sk
     replace on := on.steps sk
     replace or := or.steps sk
     replace ovc := ovc.steps sk
     replace Fh_ := Hid.mk_ (Fh_.out.steps sk)
     replace kk := kk.then_ sk
     clear st sk cu0 cu1 cu2 cu3 cu4 cu5 cu6 cu7 cu8 cu9 cu10 cu11 cu12 cu13 lu cn0 ln lr
     have lu := ou.lt
     have ln := on.lt
     obtain ⟨cr0, cr1, cr2, cr3, fr, lr⟩ := or.s3
     have cvc0 := ovc.q0
     have lvc := ovc.lt
     obtain ⟨p_1, p_2, p_3, p_4, p_5, p_6, p_7, p_8, rfl⟩ := hvp_.shape
     have Fp_ := Hid.mk_ hvp_
     clear hvp_
     have zvx_4 : w3.heap.size < w4.heap.size := ovx.lt
     have zz4 := B.size
     go_wp2_with fail
     refine bodyPost_ret (by simp [results, Tryz.results19, go_sem, lu, ln, cr0, cr1, cr2, cr3, fr, lr, cvc0, lvc]; rfl) rfl ?_
     exact ⟨_, rfl, Fp_.out.keeps keepsB, belowB⟩
theorem SimO.keeps {w w' : World} {v : Value} {o : Option (Nat → Rat)} (h : SimO w v o) (k : Keeps w w') : SimO w' v o := by
 cases o with
 | none => exact h
 | some t => exact SimR.keeps h k
theorem SimO.shape {w : World} {v : Value} {o : Option (Nat → Rat)} (h : SimO w v o) : ∃ ka1 ka2 ka3 ka4 ka5 ka6 ka7 ka8 kb1 kb2 kb3 kb4 kb5 kb6 kb7 kb8 kc1 kc2 kc3 kc4 kc5 kc6 kc7 kc8 kd1 kd2 kd3 kd4 kd5 kd6 kd7 kd8, v = .agg #[.bool ka1, .slice ka2 ka3 ka4, .bool ka5, .slice ka6 ka7 ka8, .bool kb1, .slice kb2 kb3 kb4, .bool kb5, .slice kb6 kb7 kb8, .bool kc1, .slice kc2 kc3 kc4, .bool kc5, .slice kc6 kc7 kc8, .bool kd1, .slice kd2 kd3 kd4, .bool kd5, .slice kd6 kd7 kd8] := by
 cases o with
 | none => exact ⟨_, _, _, _, _, _, _, _, _, _, _, _, _, _, _, _, _, _, _, _, _, _, _, _, _, _, _, _, _, _, _, _, h⟩
 | some t => obtain ⟨ka1, ka2, ka3, ka4, ka5, ka6, ka7, ka8, kb1, kb2, kb3, kb4, kb5, kb6, kb7, kb8, kc1, kc2, kc3, kc4, kc5, kc6, kc7, kc8, kd1, kd2, kd3, kd4, kd5, kd6, kd7, kd8, rfl, _⟩ := h; exact ⟨ka1, ka2, ka3, ka4, ka5, ka6, ka7, ka8, kb1, kb2, kb3, kb4, kb5, kb6, kb7, kb8, kc1, kc2, kc3, kc4, kc5, kc6, kc7, kc8, kd1, kd2, kd3, kd4, kd5, kd6, kd7, kd8, rfl⟩
theorem FO.shape {w : World} {v : Value} {o : Option Rat} (h : FO w v o) : ∃ a s n c b t m d, v = .agg #[.bool a, .slice s n c, .bool b, .slice t m d] := by
 cases o with
 | none => exact ⟨_, _, _, _, _, _, _, _, h⟩
 | some r => exact FR.shape h
theorem FR.frn' {w : World} {a b c d : Value} {r : Rat} (h : FR w (.agg #[a, b, c, d]) r) : Frn w r.num r.den a b c d ∧ fits r.num ∧ fits (r.den : Int) := by
 have f := FR.fit h
 obtain ⟨a2, a3, a4, a6, a7, a8, e, h1, h2, _⟩ := FR.nums h
 simp only [Value.agg.injEq, Array.mk.injEq, List.cons.injEq, and_true] at e
 obtain ⟨rfl, rfl, rfl, rfl⟩ := e
 exact ⟨⟨h1, h2⟩, f.1, f.2⟩
theorem frn_zero (w : World) : Frn w 0 0 (.bool false) (.slice none 0 0) (.bool false) (.slice none 0 0) := ⟨Num.zero w, Num.zero w⟩
theorem fits_0 : fits 0 := fits_small64 (by decide) (by decide)
theorem rsameFO {va vb : Value} {o : Option Rat} (w : World) (h : FO w va o) (h' : FO w vb o) : Calls Tryz.prog 16 #[va, vb] w fun e w' => e = .returned (.bool true) ∧ Steps w w' := by
 cases o with
 | none =>
  obtain rfl : va = _ := h
  obtain rfl : vb = _ := h'
  exact rsameF w (frn_zero w) (frn_zero w) fits_0 fits_0
 | some r =>
  obtain ⟨a1, a2, a3, a4, a5, a6, a7, a8, rfl⟩ := FR.shape h
  obtain ⟨b1, b2, b3, b4, b5, b6, b7, b8, rfl⟩ := FR.shape h'
  obtain ⟨f1, g1, g2⟩ := FR.frn' h
  exact rsameF w f1 (FR.frn' h').1 g1 g2
theorem rsame4S {ka1 ka5 kb1 kb5 kc1 kc5 kd1 kd5 : Bool} {ka2 ka6 kb2 kb6 kc2 kc6 kd2 kd6 : Option Addr} {ka3 ka4 ka7 ka8 kb3 kb4 kb7 kb8 kc3 kc4 kc7 kc8 kd3 kd4 kd7 kd8 : Nat} {ma1 ma5 mb1 mb5 mc1 mc5 md1 md5 : Bool} {ma2 ma6 mb2 mb6 mc2 mc6 md2 md6 : Option Addr} {ma3 ma4 ma7 ma8 mb3 mb4 mb7 mb8 mc3 mc4 mc7 mc8 md3 md4 md7 md8 : Nat} (w : World) (S0 : ∀ w', Keeps w w' → Calls Tryz.prog 16 #[.agg #[.bool ka1, .slice ka2 ka3 ka4, .bool ka5, .slice ka6 ka7 ka8], .agg #[.bool ma1, .slice ma2 ma3 ma4, .bool ma5, .slice ma6 ma7 ma8]] w' fun e w2 => e = .returned (.bool true) ∧ Steps w' w2) (S1 : ∀ w', Keeps w w' → Calls Tryz.prog 16 #[.agg #[.bool kb1, .slice kb2 kb3 kb4, .bool kb5, .slice kb6 kb7 kb8], .agg #[.bool mb1, .slice mb2 mb3 mb4, .bool mb5, .slice mb6 mb7 mb8]] w' fun e w2 => e = .returned (.bool true) ∧ Steps w' w2) (S2 : ∀ w', Keeps w w' → Calls Tryz.prog 16 #[.agg #[.bool kc1, .slice kc2 kc3 kc4, .bool kc5, .slice kc6 kc7 kc8], .agg #[.bool mc1, .slice mc2 mc3 mc4, .bool mc5, .slice mc6 mc7 mc8]] w' fun e w2 => e = .returned (.bool true) ∧ Steps w' w2) (S3 : ∀ w', Keeps w w' → Calls Tryz.prog 16 #[.agg #[.bool kd1, .slice kd2 kd3 kd4, .bool kd5, .slice kd6 kd7 kd8], .agg #[.bool md1, .slice md2 md3 md4, .bool md5, .slice md6 md7 md8]] w' fun e w2 => e = .returned (.bool true) ∧ Steps w' w2) :
  Calls Tryz.prog 15 #[.agg #[.bool ka1, .slice ka2 ka3 ka4, .bool ka5, .slice ka6 ka7 ka8, .bool kb1, .slice kb2 kb3 kb4, .bool kb5, .slice kb6 kb7 kb8, .bool kc1, .slice kc2 kc3 kc4, .bool kc5, .slice kc6 kc7 kc8, .bool kd1, .slice kd2 kd3 kd4, .bool kd5, .slice kd6 kd7 kd8], .agg #[.bool ma1, .slice ma2 ma3 ma4, .bool ma5, .slice ma6 ma7 ma8, .bool mb1, .slice mb2 mb3 mb4, .bool mb5, .slice mb6 mb7 mb8, .bool mc1, .slice mc2 mc3 mc4, .bool mc5, .slice mc6 mc7 mc8, .bool md1, .slice md2 md3 md4, .bool md5, .slice md6 md7 md8]] w fun e w' => e = .returned (.bool true) ∧ Steps w w' := by
 go_enter Tryz.func15, Tryz.ntmps15
 have kk := Keeps.refl w
 go_wp2_with fail
 refine (S0 _ (kk.trans keepsB)).mono ?_
 rintro e w1 ⟨rfl, hb1⟩
 have st : Steps _ w1 := hb1
 have B : Below w.heap.size w w1 := belowA st
 have kp : Keeps w w1 := Keeps.then_ keepsB st
 replace kk := kk.trans kp
 have ot : Blk w1 (w.heap.size) 30 #[.bool ka1, .slice ka2 ka3 ka4, .bool ka5, .slice ka6 ka7 ka8, .bool kb1, .slice kb2 kb3 kb4, .bool kb5, .slice kb6 kb7 kb8, .bool kc1, .slice kc2 kc3 kc4, .bool kc5, .slice kc6 kc7 kc8, .bool kd1, .slice kd2 kd3 kd4, .bool kd5, .slice kd6 kd7 kd8] := Blk.stepsK st
 have ou : Blk w1 (w.heap.size + 1) 30 #[.bool ma1, .slice ma2 ma3 ma4, .bool ma5, .slice ma6 ma7 ma8, .bool mb1, .slice mb2 mb3 mb4, .bool mb5, .slice mb6 mb7 mb8, .bool mc1, .slice mc2 mc3 mc4, .bool mc5, .slice mc6 mc7 mc8, .bool md1, .slice md2 md3 md4, .bool md5, .slice md6 md7 md8] := Blk.stepsK st
 clear kp
 clear st
 obtain ⟨ct0, ct1, ct2, ct3, ct4, ct5, ct6, ct7, ct8, ct9, ct10, ct11, ct12, ct13, ct14, ct15⟩ := ot.r15
 have lt := ot.lt
 obtain ⟨cu0, cu1, cu2, cu3, cu4, cu5, cu6, cu7, cu8, cu9, cu10, cu11, cu12, cu13, cu14, cu15⟩ := ou.r15
 have lu := ou.lt
 go_wp2_with fail
 refine (S1 _ (kk.trans keepsB)).mono ?_
 rintro e w2 ⟨rfl, hb2⟩
 have st : Steps _ w2 := hb2
 have sk : Below w1.heap.size w1 w2 := belowA st
 replace B := below_steps B (Nat.le_refl _) sk
 replace ot := ot.steps sk
 replace ou := ou.steps sk
 replace kk := kk.then_ sk
 clear st sk ct0 ct1 ct2 ct3 ct4 ct5 ct6 ct7 ct8 ct9 ct10 ct11 ct12 ct13 ct14 ct15 lt cu0 cu1 cu2 cu3 cu4 cu5 cu6 cu7 cu8 cu9 cu10 cu11 cu12 cu13 cu14 cu15 lu
 obtain ⟨ct0, ct1, ct2, ct3, ct4, ct5, ct6, ct7, ct8, ct9, ct10, ct11, ct12, ct13, ct14, ct15⟩ := ot.r15
 have lt := ot.lt
 obtain ⟨cu0, cu1, cu2, cu3, cu4, cu5, cu6, cu7, cu8, cu9, cu10, cu11, cu12, cu13, cu14, cu15⟩ := ou.r15
 have lu := ou.lt
 go_wp2_with fail
 refine (S2 _ (kk.trans keepsB)).mono ?_
 rintro e w3 ⟨rfl, hb3⟩
 have st : Steps _ w3 := hb3
 have sk : Below w2.heap.size w2 w3 := belowA st
 replace B := below_steps B (Nat.le_refl _) sk
 replace ot := ot.steps sk
 replace ou := ou.steps sk
 replace kk := kk.then_ sk
 clear st sk ct0 ct1 ct2 ct3 ct4 ct5 ct6 ct7 ct8 ct9 ct10 ct11 ct12 ct13 ct14 ct15 lt cu0 cu1 cu2 cu3 cu4 cu5 cu6 cu7 cu8 cu9 cu10 cu11 cu12 cu13 cu14 cu15 lu
 obtain ⟨ct0, ct1, ct2, ct3, ct4, ct5, ct6, ct7, ct8, ct9, ct10, ct11, ct12, ct13, ct14, ct15⟩ := ot.r15
 have lt := ot.lt
 obtain ⟨cu0, cu1, cu2, cu3, cu4, cu5, cu6, cu7, cu8, cu9, cu10, cu11, cu12, cu13, cu14, cu15⟩ := ou.r15
 have lu := ou.lt
 go_wp2_with fail
 refine (S3 _ (kk.trans keepsB)).mono ?_
 rintro e w4 ⟨rfl, hb4⟩
 have st : Steps _ w4 := hb4
 have sk : Below w3.heap.size w3 w4 := belowA st
 replace B := below_steps B (Nat.le_refl _) sk
 replace ot := ot.steps sk
 replace ou := ou.steps sk
 replace kk := kk.then_ sk
 clear st sk ct0 ct1 ct2 ct3 ct4 ct5 ct6 ct7 ct8 ct9 ct10 ct11 ct12 ct13 ct14 ct15 lt cu0 cu1 cu2 cu3 cu4 cu5 cu6 cu7 cu8 cu9 cu10 cu11 cu12 cu13 cu14 cu15 lu
 go_wp2_with fail
 refine bodyPost_ret (by simp [results, Tryz.results15, go_sem, ]; rfl) rfl ?_
 exact ⟨rfl, belowB⟩
theorem rsameSim {va vb : Value} {o : Option (Nat → Rat)} (w : World) (h : SimO w va o) (h' : SimO w vb o) : Calls Tryz.prog 15 #[va, vb] w fun e w' => e = .returned (.bool true) ∧ Steps w w' := by
 cases o with
 | none =>
  obtain rfl : va = _ := h
  obtain rfl : vb = _ := h'
  have z := fun (w' : World) (k : Keeps w w') => rsameF w' (frn_zero w') (frn_zero w') fits_0 fits_0
  exact rsame4S w z z z z
 | some t =>
  obtain ⟨ka1, ka2, ka3, ka4, ka5, ka6, ka7, ka8, kb1, kb2, kb3, kb4, kb5, kb6, kb7, kb8, kc1, kc2, kc3, kc4, kc5, kc6, kc7, kc8, kd1, kd2, kd3, kd4, kd5, kd6, kd7, kd8, rfl, h0, h1, h2, h3⟩ := h
  obtain ⟨ma1, ma2, ma3, ma4, ma5, ma6, ma7, ma8, mb1, mb2, mb3, mb4, mb5, mb6, mb7, mb8, mc1, mc2, mc3, mc4, mc5, mc6, mc7, mc8, md1, md2, md3, md4, md5, md6, md7, md8, rfl, g0, g1, g2, g3⟩ := h'
  exact rsame4S w (fun w' k => rsameFO (o := some (t 0)) w' (h0.keeps k) (g0.keeps k)) (fun w' k => rsameFO (o := some (t 1)) w' (h1.keeps k) (g1.keeps k)) (fun w' k => rsameFO (o := some (t 2)) w' (h2.keeps k) (g2.keeps k)) (fun w' k => rsameFO (o := some (t 3)) w' (h3.keeps k) (g3.keeps k))
def grL (LA LB : Nat → Nat) : Nat → Bool
 | 0 => false
 | t + 1 => grL LA LB t || decide ((20 : Int) < max (LA t : Int) (LB t : Int))
def ruleC (c : Array Value) : Value → Value → Array Value
 | .agg a, .agg b => #[a.getD 0 (.bool false), a.getD 1 (.bool false), a.getD 2 (.bool false), a.getD 3 (.bool false), .int .i64 1, .int .i64 400, b.getD 0 (.bool false), b.getD 1 (.bool false), b.getD 2 (.bool false), b.getD 3 (.bool false), c.getD 0 (.bool false), c.getD 1 (.bool false), c.getD 2 (.bool false), c.getD 3 (.bool false)]
 | _, _ => #[]
theorem lof21 (x y : Int) (w : World) (x0 : -9223372036854775808 ≤ x) (x1 : x ≤ 9223372036854775807) (y0 : -9223372036854775808 ≤ y) (y1 : y ≤ 9223372036854775807) (hy : y ≠ 0) :
  Calls Tryz.prog 29 #[.int .i64 x, .int .i64 y] w fun e w' => ∃ v, e = .returned v ∧ FR w' v ((x : Rat) / (y : Rat)) ∧ Steps w w' := by
 have OF := fun w' => rofF x y w' x0 x1 y0 y1 hy
 generalize (x : Rat) / (y : Rat) = q at *
 clear x0 x1 y0 y1 hy
 go_enter Tryz.func29, Tryz.ntmps29
 go_wp2_with fail
 refine (OF _).mono ?_
 rintro e w1 ⟨vp_, rfl, hvp_, hb1⟩
 have st : Steps _ w1 := hb1
 have B : Below w.heap.size w w1 := belowA st
 have or : Blk w1 (w.heap.size) 28 #[.bool false, .slice none 0 0, .bool false, .slice none 0 0] := Blk.stepsK st
 clear st
 obtain ⟨cr0, cr1, cr2, cr3, fr, lr⟩ := or.s3
 obtain ⟨p_1, p_2, p_3, p_4, p_5, p_6, p_7, p_8, rfl⟩ := hvp_.shape
 have Fp_ := Hid.mk_ hvp_
 clear hvp_
 have zr_1 : w.heap.size < w1.heap.size := or.lt
 have zz1 := B.size
 go_wp2_with fail
 refine bodyPost_ret (by simp [results, Tryz.results29, go_sem, cr0, cr1, cr2, cr3, fr, lr]; rfl) rfl ?_
 exact ⟨_, rfl, Fp_.out.keeps keepsB, belowB⟩
theorem lrule {uc1 uc5 : Bool} {uc2 uc6 : Option Addr} {uc3 uc4 uc7 uc8 : Nat} (w : World) :
  Calls Tryz.prog 35 #[.agg #[.bool uc1, .slice uc2 uc3 uc4, .bool uc5, .slice uc6 uc7 uc8]] w fun e w' => ∃ ua1 ua2 ua3 ua4 ua5 ua6 ua7 ua8 ub1 ub2 ub3 ub4 ub5 ub6 ub7 ub8, e = .returned (.agg #[.bool ua1, .slice ua2 ua3 ua4, .bool ua5, .slice ua6 ua7 ua8, .int .i64 1, .int .i64 400, .bool ub1, .slice ub2 ub3 ub4, .bool ub5, .slice ub6 ub7 ub8, .bool uc1, .slice uc2 uc3 uc4, .bool uc5, .slice uc6 uc7 uc8]) ∧ FR w' (.agg #[.bool ua1, .slice ua2 ua3 ua4, .bool ua5, .slice ua6 ua7 ua8]) 0 ∧ FR w' (.agg #[.bool ub1, .slice ub2 ub3 ub4, .bool ub5, .slice ub6 ub7 ub8]) (((1 : Int) : Rat) / ((10 : Int) : Rat)) ∧ Steps w w' := by
 have OA : ∀ w', Calls Tryz.prog 29 #[.int .i64 0, .int .i64 1] w' fun e w2 => ∃ v, e = .returned v ∧ FR w2 v 0 ∧ Steps w' w2 := fun w' => by have := lof21 0 1 w' (by decide) (by decide) (by decide) (by decide) (by decide); rw [one_divQ, zero_cast] at this; exact this
 have OB := fun w' => lof21 1 10 w' (by decide) (by decide) (by decide) (by decide) (by decide)
 generalize ((1 : Int) : Rat) / ((10 : Int) : Rat) = q at *
 go_enter Tryz.func35, Tryz.ntmps35
 go_upto_region 1 with fail
 refine Reg.wp_chain_n (fun N0 D v W => Below w.heap.size w W ∧ Keeps w W ∧ N0 ≤ W.heap.size ∧ Blk W (w.heap.size) 28 #[.bool uc1, .slice uc2 uc3 uc4, .bool uc5, .slice uc6 uc7 uc8] ∧ ((D 4 = false → Blk W (w.heap.size + 1) 45 #[.bool false, .slice none 0 0, .bool false, .slice none 0 0, .int .i64 0, .int .i64 0, .bool false, .slice none 0 0, .bool false, .slice none 0 0, .bool false, .slice none 0 0, .bool false, .slice none 0 0]) ∧ (D 4 = true → D 0 = true ∧ D 1 = true ∧ Blk W (w.heap.size + 1) 45 (ruleC #[.bool uc1, .slice uc2 uc3 uc4, .bool uc5, .slice uc6 uc7 uc8] (v 0) (v 1)))))
  (Reg.inl [0, 1, 4]) (Reg.gv [(0, IsFr), (1, IsFr)]) (gw [(0, GFr (0)), (1, GFr (q))]) (fun _ => Keeps) (fun _ _ => False) (Reg.pl [(4, [(0, some 3), (1, some 4)]), (5, [(0, some 3), (1, some 4)])]) (Reg.pl [(0, [4]), (1, [4])])
  (by kernel_rfl) (by kernel_rfl) (by kernel_rfl) (Reg.gvA _) (fun N0 hN0 => ⟨fun v => ?_, fun D v v' W hv hj => ?_, fun D v k j W W' x _ _ _ _ hk hg => gwA hk hg, fun _ _ _ _ h => h.elim, fun ops' Q' hops hQ => ?_⟩)
 · exact ⟨belowB, keepsB, by first | with_reducible exact Nat.le_of_eq hN0.out | (simp only [World.size_drew]; with_reducible exact Nat.le_of_eq hN0.out), ownK, ⟨fun _ => ownK, (fun h => Bool.noConfusion h)⟩⟩
 ·
  obtain ⟨j0, jk, jn, b_x, b_r⟩ := hj
  exact ⟨j0, jk, jn, b_x, ⟨b_r.1, fun h => by obtain ⟨d_0, d_1, hb⟩ := b_r.2 h; refine ⟨d_0, d_1, ?_⟩; first | (rw [hv 0 d_0, hv 1 d_1]; exact hb) | (rw [← hv 0 d_0, ← hv 1 d_1]; exact hb)⟩⟩
 have eN := hN0.out
 try simp only [World.size_alloc, World.size_setCell, World.size_drew, World.heap_drewN] at eN
 have i_x : w.heap.size < N0 := by first | omega | (have h := ox.lt; omega)
 have i_r : w.heap.size + 1 < N0 := by first | omega | (have h := or.lt; omega)
 have iw : w.heap.size ≤ N0 := by first | omega | (have h := B.size; omega)
 clear hN0 eN
 refine Reg.RC_call rfl (tlt rfl) rfl (fun D v' W' hc hj hf K hK => ?_) ?_
 ·
  obtain ⟨j0, jk, jn, b_x, b_r⟩ := hj
  clear hf
  go_step
  refine (OA W').mono ?_
  rintro e W2 ⟨u, rfl, hu, hs⟩
  obtain ⟨i_1, i_2, i_3, i_4, i_5, i_6, i_7, i_8, rfl⟩ := hu.shape
  exact hK.out _ W2 (Keeps.steps hs) ⟨jst j0 hs, jk.then_ hs, jsz jn hs, b_x.steps hs, ⟨fun h => (b_r.1 h).steps hs, fun h => Bool.noConfusion ((hc.2 4 (by decide)).symm.trans h)⟩⟩ hu ⟨_, _, _, _, _, _, _, _, rfl⟩
 rintro _ ⟨i_1, i_2, i_3, i_4, i_5, i_6, i_7, i_8, rfl⟩
 refine Reg.RC_at (b := ⟨#[_,_,_,_,_,_,_], _⟩) rfl ?_
 refine Reg.RC_call rfl (tlt rfl) rfl (fun D v' W' hc hj hf K hK => ?_) ?_
 ·
  obtain ⟨j0, jk, jn, b_x, b_r⟩ := hj
  clear hf
  go_step
  refine (OB W').mono ?_
  rintro e W2 ⟨u, rfl, hu, hs⟩
  obtain ⟨k_1, k_2, k_3, k_4, k_5, k_6, k_7, k_8, rfl⟩ := hu.shape
  exact hK.out _ W2 (Keeps.steps hs) ⟨jst j0 hs, jk.then_ hs, jsz jn hs, b_x.steps hs, ⟨fun h => (b_r.1 h).steps hs, fun h => Bool.noConfusion ((hc.2 4 (by decide)).symm.trans h)⟩⟩ hu ⟨_, _, _, _, _, _, _, _, rfl⟩
 rintro _ ⟨k_1, k_2, k_3, k_4, k_5, k_6, k_7, k_8, rfl⟩
 refine Reg.RC_at (b := ⟨#[_,_,_,_,_,_,_], _⟩) rfl ?_
 apply Reg.RP rfl rfl rfl 5 rfl rfl
 ·
  intro D v' W' hc hj hf K hK
  obtain ⟨j0, jk, jn, b_x, b_r⟩ := hj
  obtain ⟨c0, c1, c2, c3⟩ := b_x.r3
  go_step
  exact hK.out
 · rfl
 refine Reg.RP0 6 ?_
 refine Reg.RC_call rfl (by intro t ht; cases ht) rfl (fun D v' W' hc hj hf K hK => ?_) (fun _ _ => Reg.RC_at (b := ⟨_, _⟩) rfl ?_)
 ·
  obtain ⟨j0, jk, jn, b_x, b_r⟩ := hj
  have hb := b_r.1 hc.1
  have e2 : w.heap.size ≤ w.heap.size + 1 := by omega
  have ff := hb.fr
  have fc_0 := hf (0, some 3) (.head _) rfl
  have ec_0 : v' 0 = .agg #[.bool i_1, .slice i_2 i_3 i_4, .bool i_5, .slice i_6 i_7 i_8] := fc_0.2.1
  have fc_1 := hf (1, some 4) (.tail _ (.head _)) rfl
  have ec_1 : v' 1 = .agg #[.bool k_1, .slice k_2 k_3 k_4, .bool k_5, .slice k_6 k_7 k_8] := fc_1.2.1
  obtain ⟨cc0, cc1, cc2, cc3, cc4, cc5, cc6, cc7, cc8, cc9, cc10, cc11, cc12, cc13⟩ := hb.r13
  go_step
  have nb2 : Blk ((((((((((((((W'.setCell ⟨w.heap.size + 1, 0, none⟩ (.bool i_1)).setCell ⟨w.heap.size + 1, 1, none⟩ (.slice i_2 i_3 i_4)).setCell ⟨w.heap.size + 1, 2, none⟩ (.bool i_5)).setCell ⟨w.heap.size + 1, 3, none⟩ (.slice i_6 i_7 i_8)).setCell ⟨w.heap.size + 1, 4, none⟩ (.int .i64 1)).setCell ⟨w.heap.size + 1, 5, none⟩ (.int .i64 400)).setCell ⟨w.heap.size + 1, 6, none⟩ (.bool k_1)).setCell ⟨w.heap.size + 1, 7, none⟩ (.slice k_2 k_3 k_4)).setCell ⟨w.heap.size + 1, 8, none⟩ (.bool k_5)).setCell ⟨w.heap.size + 1, 9, none⟩ (.slice k_6 k_7 k_8)).setCell ⟨w.heap.size + 1, 10, none⟩ (.bool uc1)).setCell ⟨w.heap.size + 1, 11, none⟩ (.slice uc2 uc3 uc4)).setCell ⟨w.heap.size + 1, 12, none⟩ (.bool uc5)).setCell ⟨w.heap.size + 1, 13, none⟩ (.slice uc6 uc7 uc8)) (w.heap.size + 1) 45 (ruleC #[.bool uc1, .slice uc2 uc3 uc4, .bool uc5, .slice uc6 uc7 uc8] (v' 0) (v' 1)) := by rw [ec_0, ec_1]; exact (Blk.set2 (cs' := #[.bool i_1, .slice i_2 i_3 i_4, .bool i_5, .slice i_6 i_7 i_8, .int .i64 1, .int .i64 400, .bool k_1, .slice k_2 k_3 k_4, .bool k_5, .slice k_6 k_7 k_8, .bool uc1, .slice uc2 uc3 uc4, .bool uc5, .slice uc6 uc7 uc8]) (Blk.set2 (cs' := #[.bool i_1, .slice i_2 i_3 i_4, .bool i_5, .slice i_6 i_7 i_8, .int .i64 1, .int .i64 400, .bool k_1, .slice k_2 k_3 k_4, .bool k_5, .slice k_6 k_7 k_8, .bool uc1, .slice uc2 uc3 uc4, .bool uc5, .slice none 0 0]) (Blk.set2 (cs' := #[.bool i_1, .slice i_2 i_3 i_4, .bool i_5, .slice i_6 i_7 i_8, .int .i64 1, .int .i64 400, .bool k_1, .slice k_2 k_3 k_4, .bool k_5, .slice k_6 k_7 k_8, .bool uc1, .slice uc2 uc3 uc4, .bool false, .slice none 0 0]) (Blk.set2 (cs' := #[.bool i_1, .slice i_2 i_3 i_4, .bool i_5, .slice i_6 i_7 i_8, .int .i64 1, .int .i64 400, .bool k_1, .slice k_2 k_3 k_4, .bool k_5, .slice k_6 k_7 k_8, .bool uc1, .slice none 0 0, .bool false, .slice none 0 0]) (Blk.set2 (cs' := #[.bool i_1, .slice i_2 i_3 i_4, .bool i_5, .slice i_6 i_7 i_8, .int .i64 1, .int .i64 400, .bool k_1, .slice k_2 k_3 k_4, .bool k_5, .slice k_6 k_7 k_8, .bool false, .slice none 0 0, .bool false, .slice none 0 0]) (Blk.set2 (cs' := #[.bool i_1, .slice i_2 i_3 i_4, .bool i_5, .slice i_6 i_7 i_8, .int .i64 1, .int .i64 400, .bool k_1, .slice k_2 k_3 k_4, .bool k_5, .slice none 0 0, .bool false, .slice none 0 0, .bool false, .slice none 0 0]) (Blk.set2 (cs' := #[.bool i_1, .slice i_2 i_3 i_4, .bool i_5, .slice i_6 i_7 i_8, .int .i64 1, .int .i64 400, .bool k_1, .slice k_2 k_3 k_4, .bool false, .slice none 0 0, .bool false, .slice none 0 0, .bool false, .slice none 0 0]) (Blk.set2 (cs' := #[.bool i_1, .slice i_2 i_3 i_4, .bool i_5, .slice i_6 i_7 i_8, .int .i64 1, .int .i64 400, .bool k_1, .slice none 0 0, .bool false, .slice none 0 0, .bool false, .slice none 0 0, .bool false, .slice none 0 0]) (Blk.set2 (cs' := #[.bool i_1, .slice i_2 i_3 i_4, .bool i_5, .slice i_6 i_7 i_8, .int .i64 1, .int .i64 400, .bool false, .slice none 0 0, .bool false, .slice none 0 0, .bool false, .slice none 0 0, .bool false, .slice none 0 0]) (Blk.set2 (cs' := #[.bool i_1, .slice i_2 i_3 i_4, .bool i_5, .slice i_6 i_7 i_8, .int .i64 1, .int .i64 0, .bool false, .slice none 0 0, .bool false, .slice none 0 0, .bool false, .slice none 0 0, .bool false, .slice none 0 0]) (Blk.set2 (cs' := #[.bool i_1, .slice i_2 i_3 i_4, .bool i_5, .slice i_6 i_7 i_8, .int .i64 0, .int .i64 0, .bool false, .slice none 0 0, .bool false, .slice none 0 0, .bool false, .slice none 0 0, .bool false, .slice none 0 0]) (Blk.set2 (cs' := #[.bool i_1, .slice i_2 i_3 i_4, .bool i_5, .slice none 0 0, .int .i64 0, .int .i64 0, .bool false, .slice none 0 0, .bool false, .slice none 0 0, .bool false, .slice none 0 0, .bool false, .slice none 0 0]) (Blk.set2 (cs' := #[.bool i_1, .slice i_2 i_3 i_4, .bool false, .slice none 0 0, .int .i64 0, .int .i64 0, .bool false, .slice none 0 0, .bool false, .slice none 0 0, .bool false, .slice none 0 0, .bool false, .slice none 0 0]) (Blk.set2 (cs' := #[.bool i_1, .slice none 0 0, .bool false, .slice none 0 0, .int .i64 0, .int .i64 0, .bool false, .slice none 0 0, .bool false, .slice none 0 0, .bool false, .slice none 0 0, .bool false, .slice none 0 0]) hb (i := 0) rfl) (i := 1) rfl) (i := 2) rfl) (i := 3) rfl) (i := 4) rfl) (i := 5) rfl) (i := 6) rfl) (i := 7) rfl) (i := 8) rfl) (i := 9) rfl) (i := 10) rfl) (i := 11) rfl) (i := 12) rfl) (i := 13) rfl)
  exact hK.out undef _ (Keeps.only hb rfl ((Only.refl _ _).set.set.set.set.set.set.set.set.set.set.set.set.set.set)) ⟨(Below.setCell (p := ⟨w.heap.size + 1, 13, none⟩) (Below.setCell (p := ⟨w.heap.size + 1, 12, none⟩) (Below.setCell (p := ⟨w.heap.size + 1, 11, none⟩) (Below.setCell (p := ⟨w.heap.size + 1, 10, none⟩) (Below.setCell (p := ⟨w.heap.size + 1, 9, none⟩) (Below.setCell (p := ⟨w.heap.size + 1, 8, none⟩) (Below.setCell (p := ⟨w.heap.size + 1, 7, none⟩) (Below.setCell (p := ⟨w.heap.size + 1, 6, none⟩) (Below.setCell (p := ⟨w.heap.size + 1, 5, none⟩) (Below.setCell (p := ⟨w.heap.size + 1, 4, none⟩) (Below.setCell (p := ⟨w.heap.size + 1, 3, none⟩) (Below.setCell (p := ⟨w.heap.size + 1, 2, none⟩) (Below.setCell (p := ⟨w.heap.size + 1, 1, none⟩) (Below.setCell (p := ⟨w.heap.size + 1, 0, none⟩) j0 (by show w.heap.size ≤ w.heap.size + 1; omega) _) (by show w.heap.size ≤ w.heap.size + 1; omega) _) (by show w.heap.size ≤ w.heap.size + 1; omega) _) (by show w.heap.size ≤ w.heap.size + 1; omega) _) (by show w.heap.size ≤ w.heap.size + 1; omega) _) (by show w.heap.size ≤ w.heap.size + 1; omega) _) (by show w.heap.size ≤ w.heap.size + 1; omega) _) (by show w.heap.size ≤ w.heap.size + 1; omega) _) (by show w.heap.size ≤ w.heap.size + 1; omega) _) (by show w.heap.size ≤ w.heap.size + 1; omega) _) (by show w.heap.size ≤ w.heap.size + 1; omega) _) (by show w.heap.size ≤ w.heap.size + 1; omega) _) (by show w.heap.size ≤ w.heap.size + 1; omega) _) (by show w.heap.size ≤ w.heap.size + 1; omega) _), jk.trans (Keeps.only hb rfl ((Only.refl _ _).set.set.set.set.set.set.set.set.set.set.set.set.set.set)), by simpa using jn, ((((((((((((((b_x).far' (show w.heap.size ≠ w.heap.size + 1 by omega)).far' (show w.heap.size ≠ w.heap.size + 1 by omega)).far' (show w.heap.size ≠ w.heap.size + 1 by omega)).far' (show w.heap.size ≠ w.heap.size + 1 by omega)).far' (show w.heap.size ≠ w.heap.size + 1 by omega)).far' (show w.heap.size ≠ w.heap.size + 1 by omega)).far' (show w.heap.size ≠ w.heap.size + 1 by omega)).far' (show w.heap.size ≠ w.heap.size + 1 by omega)).far' (show w.heap.size ≠ w.heap.size + 1 by omega)).far' (show w.heap.size ≠ w.heap.size + 1 by omega)).far' (show w.heap.size ≠ w.heap.size + 1 by omega)).far' (show w.heap.size ≠ w.heap.size + 1 by omega)).far' (show w.heap.size ≠ w.heap.size + 1 by omega)).far' (show w.heap.size ≠ w.heap.size + 1 by omega), ⟨fun h => Bool.noConfusion h, fun _ => ⟨fc_0.1, fc_1.1, nb2⟩⟩⟩ trivial trivial
 refine Reg.RC_end (fun Dn v' w1 hd hj hf => ?_)
 obtain ⟨j0, jk, jn, b_x, b_r⟩ := hj
 have B := j0
 have ox := b_x
 clear b_x
 obtain ⟨-, -, or⟩ := b_r.2 (hd 4 (Nat.le_of_ble_eq_true rfl))
 have ef0 : v' 0 = .agg #[.bool i_1, .slice i_2 i_3 i_4, .bool i_5, .slice i_6 i_7 i_8] := (hf (0, some 3) (.head _) rfl).2.1
 have ef1 : v' 1 = .agg #[.bool k_1, .slice k_2 k_3 k_4, .bool k_5, .slice k_6 k_7 k_8] := (hf (1, some 4) (.tail _ (.head _)) rfl).2.1
 rw [ef0, ef1] at or
 replace or : Blk _ _ _ #[.bool i_1, .slice i_2 i_3 i_4, .bool i_5, .slice i_6 i_7 i_8, .int .i64 1, .int .i64 400, .bool k_1, .slice k_2 k_3 k_4, .bool k_5, .slice k_6 k_7 k_8, .bool uc1, .slice uc2 uc3 uc4, .bool uc5, .slice uc6 uc7 uc8] := or
 clear b_r ef0 ef1
 have Fi_ : Hid (FR w1 (.agg #[.bool i_1, .slice i_2 i_3 i_4, .bool i_5, .slice i_6 i_7 i_8]) (0)) := (hf (0, some 3) (.head _) rfl).2.2
 have Fk_ : Hid (FR w1 (.agg #[.bool k_1, .slice k_2 k_3 k_4, .bool k_5, .slice k_6 k_7 k_8]) (q)) := (hf (1, some 4) (.tail _ (.head _)) rfl).2.2
 clear hd hf jk j0
 refine hQ _ _ ?_
 clear hQ hops Q' ops'
 have lx := ox.lt
 obtain ⟨cr0, cr1, cr2, cr3, cr4, cr5, cr6, cr7, cr8, cr9, cr10, cr11, cr12, cr13⟩ := or.r13
 have lr := or.lt
 go_wp2_with fail
 refine bodyPost_ret (by simp [results, Tryz.results35, go_sem, lx, cr0, cr1, cr2, cr3, cr4, cr5, cr6, cr7, cr8, cr9, cr10, cr11, cr12, cr13, lr]; rfl) rfl ?_
 exact ⟨_, _, _, _, _, _, _, _, _, _, _, _, _, _, _, _, rfl, Fi_.out.keeps keepsB, Fk_.out.keeps keepsB, belowB⟩
theorem SimO.steps {w w' : World} {v : Value} {o : Option (Nat → Rat)} (h : SimO w v o) (s : Steps w w') : SimO w' v o := h.keeps (Keeps.steps s)
theorem FO.steps {w w' : World} {v : Value} {o : Option Rat} (h : FO w v o) (s : Steps w w') : FO w' v o := h.keeps (Keeps.steps s)
theorem FR.lens {w : World} {a1 a5 : Bool} {a2 a6 : Option Addr} {p q a4 a8 : Nat} {r : Rat} (h : FR w (.agg #[.bool a1, .slice a2 p a4, .bool a5, .slice a6 q a8]) r) : p = (limbs (absN r.num)).length ∧ q = (limbs (absN (r.den : Int))).length := by
 obtain ⟨x2, x3, x4, x6, x7, x8, e, n1, n2, -⟩ := h.nums
 simp only [Value.agg.injEq, Array.mk.injEq, List.cons.injEq, and_true, Value.slice.injEq, Value.bool.injEq] at e
 obtain ⟨e1, ⟨rfl, rfl, rfl⟩, e2, rfl, rfl, rfl⟩ := e
 obtain ⟨_, _, f1, _⟩ := n1.parts
 obtain ⟨_, _, f2, _⟩ := n2.parts
 simp only [Value.agg.injEq, Array.mk.injEq, List.cons.injEq, and_true, Value.slice.injEq, Value.bool.injEq] at f1 f2
 exact ⟨f1.2.2.1, f2.2.2.1⟩
theorem absN_nn (x : Int) : 0 ≤ absN x := by unfold absN; omega
theorem FR.limF {w : World} {a1 a5 : Bool} {a2 a6 : Option Addr} {p q a4 a8 : Nat} {r : Rat} (h : FR w (.agg #[.bool a1, .slice a2 p a4, .bool a5, .slice a6 q a8]) r) (most : Nat) (h1 : absN r.num < bp most) (h2 : absN (r.den : Int) < bp most) : limF most (some r) p q = true := by
 obtain ⟨rfl, rfl⟩ := h.lens
 unfold Go.Proofs.YtffmbepfbienaaaGreat.limF
 rw [decide_eq_true ((limbs_length (absN_nn _) most).2 h1), decide_eq_true ((limbs_length (absN_nn _) most).2 h2)]
 rfl
theorem FR.few {w : World} {a1 a5 : Bool} {a2 a6 : Option Addr} {p q a4 a8 : Nat} {r : Rat} (h : FR w (.agg #[.bool a1, .slice a2 p a4, .bool a5, .slice a6 q a8]) r) : ∀ s, some r = some s → absN s.num ≤ bp p ∧ (s.den : Int) ≤ bp q := by
 intro s e
 injection e with e
 subst e
 obtain ⟨rfl, rfl⟩ := h.lens
 have h1 := (limbs_length (absN_nn r.num) _).1 (Nat.le_refl _)
 have h2 := (limbs_length (absN_nn (r.den : Int)) _).1 (Nat.le_refl _)
 have e3 : absN (r.den : Int) = (r.den : Int) := by unfold absN; omega
 rw [e3] at h2 ⊢
 exact ⟨Int.le_of_lt h1, Int.le_of_lt h2⟩
theorem mkS {ka1 ka5 : Bool} {ka2 ka6 : Option Addr} {ka3 ka4 ka7 ka8 : Nat} {kb1 kb5 : Bool} {kb2 kb6 : Option Addr} {kb3 kb4 kb7 kb8 : Nat} {kc1 kc5 : Bool} {kc2 kc6 : Option Addr} {kc3 kc4 kc7 kc8 : Nat} {kd1 kd5 : Bool} {kd2 kd6 : Option Addr} {kd3 kd4 kd7 kd8 : Nat} {w : World} {T : Nat → Rat} (h0 : FR w (.agg #[.bool ka1, .slice ka2 ka3 ka4, .bool ka5, .slice ka6 ka7 ka8]) (T 0)) (h1 : FR w (.agg #[.bool kb1, .slice kb2 kb3 kb4, .bool kb5, .slice kb6 kb7 kb8]) (T 1)) (h2 : FR w (.agg #[.bool kc1, .slice kc2 kc3 kc4, .bool kc5, .slice kc6 kc7 kc8]) (T 2)) (h3 : FR w (.agg #[.bool kd1, .slice kd2 kd3 kd4, .bool kd5, .slice kd6 kd7 kd8]) (T 3)) : SimO w (.agg #[.bool ka1, .slice ka2 ka3 ka4, .bool ka5, .slice ka6 ka7 ka8, .bool kb1, .slice kb2 kb3 kb4, .bool kb5, .slice kb6 kb7 kb8, .bool kc1, .slice kc2 kc3 kc4, .bool kc5, .slice kc6 kc7 kc8, .bool kd1, .slice kd2 kd3 kd4, .bool kd5, .slice kd6 kd7 kd8]) (some T) :=
 ⟨_, _, _, _, _, _, _, _, _, _, _, _, _, _, _, _, _, _, _, _, _, _, _, _, _, _, _, _, _, _, _, _, rfl, h0, h1, h2, h3⟩
theorem ints3 {w : World} {g : Nat} {t : TypeId} {x y z : Int} (h : Blk w g t #[.int .i64 x, .int .i64 y, .int .i64 z]) : IntsR w (.slice (some ⟨g, 0, none⟩) 3 3) [x, y, z] := by
 refine ⟨_, _, rfl, Nat.le_refl _, fun _ => ⟨g, 0, rfl, h.lt, fun k hk => ?_⟩⟩
 have hk' : k < 3 := hk
 rcases (show k = 0 ∨ k = 1 ∨ k = 2 by omega) with rfl | rfl | rfl
 · exact h.c 0 rfl
 · exact h.c 1 rfl
 · exact h.c 2 rfl
def simA : Nat → Rat := simT (0, 0) (1, 0) (1, 1) (1, 3)
theorem simA_eq : simA 0 = 0 ∧ simA 1 = 2 ∧ simA 2 = 1 ∧ simA 3 = 1 := by decide +kernel
theorem ofS_A : ofS (0, 0) (1, 0) (1, 1) (1, 3) = (0, some simA) := by
 unfold ofS
 rw [if_pos (by decide), if_neg (by decide)]
 rfl
def ruleA (i : Nat) : Option Rat := match i with | 0 => some 0 | 1 => some (1 / 10) | _ => some 1
theorem chance_A : chanceQ 1 400 10 = 1 / 10 := by decide +kernel
theorem odds_A : oddsQ (withQ (1 / 10) (1 / 10)) (1 / 10) [3, -1, 9] noOut 3 = ((8281 : Int) : Rat) / ((1000 : Int) : Rat) := by decide +kernel
theorem tenth : ((1 : Int) : Rat) / ((10 : Int) : Rat) = 1 / 10 := by decide +kernel
theorem odds_alive {ua1 ua5 ub1 ub5 uc1 uc5 : Bool} {ua2 ua6 ub2 ub6 uc2 uc6 : Option Addr} {ua3 ua4 ua7 ua8 ub3 ub4 ub7 ub8 uc3 uc4 uc7 uc8 : Nat} {g : Nat} {t : TypeId} (w : World) (h0 : FR w (.agg #[.bool ua1, .slice ua2 ua3 ua4, .bool ua5, .slice ua6 ua7 ua8]) 0) (h1 : FR w (.agg #[.bool ub1, .slice ub2 ub3 ub4, .bool ub5, .slice ub6 ub7 ub8]) (((1 : Int) : Rat) / ((10 : Int) : Rat))) (h2 : FR w (.agg #[.bool uc1, .slice uc2 uc3 uc4, .bool uc5, .slice uc6 uc7 uc8]) 1) (hb : Blk w g t #[.int .i64 3, .int .i64 (-1), .int .i64 9]) :
  Calls Tryz.prog 19 #[.agg #[.bool ua1, .slice ua2 ua3 ua4, .bool ua5, .slice ua6 ua7 ua8, .int .i64 1, .int .i64 400, .bool ub1, .slice ub2 ub3 ub4, .bool ub5, .slice ub6 ub7 ub8, .bool uc1, .slice uc2 uc3 uc4, .bool uc5, .slice uc6 uc7 uc8], .slice (some ⟨g, 0, none⟩) 3 3, .int .i64 10] w fun e w' => ∃ v, e = .returned (.tuple #[v, .int .i64 0]) ∧ FR w' v (((8281 : Int) : Rat) / ((1000 : Int) : Rat)) ∧ Steps w w' := by
 rw [tenth] at h1
 have a1 : ua1 = false := by
  obtain ⟨x2, x3, x4, x6, x7, x8, e, -, -, -⟩ := h0.nums
  simp only [Value.agg.injEq, Array.mk.injEq, List.cons.injEq, and_true, Value.slice.injEq, Value.bool.injEq] at e
  rw [e.1]; decide
 subst a1
 have fw : FewL ruleA (f4v ua3 ub3 uc3 uc3) (f4v ua7 ub7 uc7 uc7) 3 := fun i hi => by
  rcases (show i = 0 ∨ i = 1 ∨ i = 2 by omega) with rfl | rfl | rfl
  · exact h0.few
  · exact h1.few
  · exact h2.few
 have rk : ruleOk ruleA (f4v ua3 ub3 uc3 uc3) (f4v ua7 ub7 uc7 uc7) 1 400 false = true := by
  rw [ruleOk_iff]
  refine ⟨?_, by decide, rfl, by decide +kernel, by decide +kernel, by decide +kernel⟩
  rw [limL3, show limF 2 (ruleA 0) (f4v ua3 ub3 uc3 uc3 0) (f4v ua7 ub7 uc7 uc7 0) = true from h0.limF 2 (by decide +kernel) (by decide +kernel), show limF 2 (ruleA 1) (f4v ua3 ub3 uc3 uc3 1) (f4v ua7 ub7 uc7 uc7 1) = true from h1.limF 2 (by decide +kernel) (by decide +kernel), show limF 2 (ruleA 2) (f4v ua3 ub3 uc3 uc3 2) (f4v ua7 ub7 uc7 uc7 2) = true from h2.limF 2 (by decide +kernel) (by decide +kernel)]
  rfl
 have := mOdds (R := 1) (A := 400) (n := 10) (O := ruleA) w h0 h1 h2 fw (ints3 hb)
 rw [rk, show okK [3, -1, 9] 10 [(3 : Int), -1, 9].length = true by decide, chance_A, decide_eq_true (show (1 / 10 : Rat) < 1 by decide +kernel)] at this
 rw [show oddsE true [(3 : Int), -1, 9].length true 10 true = 0 by decide, show (ruleA 1).getD 0 = 1 / 10 from rfl] at this
 refine this.mono ?_
 rintro e w2 ⟨v, rfl, hv, hs⟩
 refine ⟨v, rfl, ?_, hs⟩
 rw [← odds_A]
 exact hv
theorem lalive21 (w : World) : Calls Tryz.prog 17 #[] w fun e w' => e = .returned (.bool true) ∧ Steps w w' := by
 have PO : ∀ w', Calls Tryz.prog 11 #[.agg #[.int .i64 0, .int .i64 0], .agg #[.int .i64 1, .int .i64 0], .agg #[.int .i64 1, .int .i64 1], .agg #[.int .i64 1, .int .i64 3]] w' fun e w2 => ∃ v, e = .returned (.tuple #[v, .int .i64 0]) ∧ SimO w2 v (some simA) ∧ Steps w' w2 := fun w' => by
  have := mOf 0 0 1 0 1 1 1 3 w' (by decide) (by decide) (by decide) (by decide)
  rw [ofS_A] at this
  exact this
 have L1 : ∀ (x : Int) (r : Rat), -9223372036854775808 ≤ x → x ≤ 9223372036854775807 → (x : Rat) = r → ∀ w', Calls Tryz.prog 29 #[.int .i64 x, .int .i64 1] w' fun e w2 => ∃ v, e = .returned v ∧ FR w2 v r ∧ Steps w' w2 := fun x r h0 h1 e w' => by have := lof21 x 1 w' h0 h1 (by decide) (by decide) (by decide); rw [one_divQ, e] at this; exact this
 have Z0 := L1 0 (simA 0) (by decide) (by decide) (by rw [simA_eq.1]; rfl)
 have Z1 := L1 2 (simA 1) (by decide) (by decide) (by rw [simA_eq.2.1]; rfl)
 have Z2 := L1 1 (simA 2) (by decide) (by decide) (by rw [simA_eq.2.2.1]; rfl)
 have Z3 := L1 1 (simA 3) (by decide) (by decide) (by rw [simA_eq.2.2.2]; rfl)
 have Z5 := L1 1 1 (by decide) (by decide) rfl
 have Z4 := fun w' => lof21 8281 1000 w' (by decide) (by decide) (by decide) (by decide) (by decide)
 have OQ := @odds_alive
 generalize ((8281 : Int) : Rat) / ((1000 : Int) : Rat) = q at *
 clear L1
 have RU := @lrule
 generalize ((1 : Int) : Rat) / ((10 : Int) : Rat) = tn at *
 generalize simA = T at *
 go_enter Tryz.func17, Tryz.ntmps17
 go_wp2_with fail
 refine (PO _).mono ?_
 rintro e w1 ⟨vsa, rfl, hvsa, hb1⟩
 have st : Steps _ w1 := hb1
 have B : Below w.heap.size w w1 := belowA st
 clear st
 obtain ⟨saka1, saka2, saka3, saka4, saka5, saka6, saka7, saka8, sakb1, sakb2, sakb3, sakb4, sakb5, sakb6, sakb7, sakb8, sakc1, sakc2, sakc3, sakc4, sakc5, sakc6, sakc7, sakc8, sakd1, sakd2, sakd3, sakd4, sakd5, sakd6, sakd7, sakd8, rfl⟩ := SimO.shape hvsa
 have Fsa := Hid.mk_ hvsa
 clear hvsa
 have zz1 := B.size
 go_wp2_with fail
 refine (Z5 _).mono ?_
 rintro e w2 ⟨vo_, rfl, hvo_, hb2⟩
 have st : Steps _ w2 := hb2
 have sk : Below w1.heap.size w1 w2 := belowA st
 replace B := below_steps B (Nat.le_refl _) sk
 have ovs : Blk w2 (w1.heap.size) 30 #[.bool saka1, .slice saka2 saka3 saka4, .bool saka5, .slice saka6 saka7 saka8, .bool sakb1, .slice sakb2 sakb3 sakb4, .bool sakb5, .slice sakb6 sakb7 sakb8, .bool sakc1, .slice sakc2 sakc3 sakc4, .bool sakc5, .slice sakc6 sakc7 sakc8, .bool sakd1, .slice sakd2 sakd3 sakd4, .bool sakd5, .slice sakd6 sakd7 sakd8] := Blk.stepsK st
 replace Fsa := Hid.mk_ (Fsa.out.steps sk)
 clear st sk
 obtain ⟨o_1, o_2, o_3, o_4, o_5, o_6, o_7, o_8, rfl⟩ := hvo_.shape
 have Fo_ := Hid.mk_ hvo_
 clear hvo_
 go_wp2_with fail
 refine (RU _).mono ?_
 rintro e w3 ⟨ra1, ra2, ra3, ra4, ra5, ra6, ra7, ra8, rb1, rb2, rb3, rb4, rb5, rb6, rb7, rb8, rfl, hvra, hvrb, hb3⟩
 have st : Steps _ w3 := hb3
 have sk : Below w2.heap.size w2 w3 := belowA st
 replace B := below_steps B (Nat.le_refl _) sk
 replace ovs := ovs.steps sk
 replace Fsa := Hid.mk_ (Fsa.out.steps sk)
 replace Fo_ := Hid.mk_ (Fo_.out.steps sk)
 clear st sk
 have Fra := Hid.mk_ hvra
 clear hvra
 have Frb := Hid.mk_ hvrb
 clear hvrb
 have zvs_3 : w1.heap.size < w3.heap.size := ovs.lt
 have zz3 := B.size
 go_wp2_with fail
 refine (OQ _ (Fra.out.keeps keepsB) (Frb.out.keeps keepsB) (Fo_.out.keeps keepsB) ownK).mono ?_
 rintro e w4 ⟨vx_, rfl, hvx_, hb4⟩
 have st : Steps _ w4 := hb4
 have sk : Below w3.heap.size w3 w4 := belowA st
 replace B := below_steps B (Nat.le_refl _) sk
 replace ovs := ovs.steps sk
 replace Fsa := Hid.mk_ (Fsa.out.steps sk)
 replace Fo_ := Hid.mk_ (Fo_.out.steps sk)
 replace Fra := Hid.mk_ (Fra.out.steps sk)
 replace Frb := Hid.mk_ (Frb.out.steps sk)
 clear st sk
 obtain ⟨cvs0, cvs1, cvs2, cvs3, cvs4, cvs5, cvs6, cvs7, cvs8, cvs9, cvs10, cvs11, cvs12, cvs13, cvs14, cvs15⟩ := ovs.r15
 have lvs := ovs.lt
 obtain ⟨x_1, x_2, x_3, x_4, x_5, x_6, x_7, x_8, rfl⟩ := hvx_.shape
 have Fx_ := Hid.mk_ hvx_
 clear hvx_
 have zvs_4 : w1.heap.size < w4.heap.size := ovs.lt
 have zz4 := B.size
 go_wp2_with fail
 go_upto_region 3 with fail
 refine Reg.wp_chain_n (fun N0 D v W => Below w.heap.size w W ∧ Keeps w4 W ∧ N0 ≤ W.heap.size ∧ Blk W (w1.heap.size) 30 #[.bool saka1, .slice saka2 saka3 saka4, .bool saka5, .slice saka6 saka7 saka8, .bool sakb1, .slice sakb2 sakb3 sakb4, .bool sakb5, .slice sakb6 sakb7 sakb8, .bool sakc1, .slice sakc2 sakc3 sakc4, .bool sakc5, .slice sakc6 sakc7 sakc8, .bool sakd1, .slice sakd2 sakd3 sakd4, .bool sakd5, .slice sakd6 sakd7 sakd8] ∧ Blk W (w4.heap.size) 28 #[.bool x_1, .slice x_2 x_3 x_4, .bool x_5, .slice x_6 x_7 x_8])
  (Reg.inl [4, 5, 6, 7, 9, 17, 18]) (Reg.gv [(4, IsFr), (5, IsFr), (6, IsFr), (7, IsFr), (9, fun z_ => z_ = .bool true), (17, IsFr), (18, fun z_ => z_ = .bool true)]) (gw [(4, GFr ((T 0))), (5, GFr ((T 1))), (6, GFr ((T 2))), (7, GFr ((T 3))), (17, GFr (q))]) (fun _ => Keeps) (fun _ _ => False) (Reg.pl [(9, [(4, some 24), (5, some 25), (6, some 26), (7, some 27)]), (18, [(17, some 37)]), (21, [(4, some 24), (5, some 25), (6, some 26), (7, some 27), (9, some 29), (17, some 37), (18, some 38)])]) (Reg.pl [])
  (by kernel_rfl) (by kernel_rfl) (by kernel_rfl) (Reg.gvA _) (fun N0 hN0 => ⟨fun v => ?_, fun D v v' W hv hj => ?_, fun D v k j W W' x _ _ _ _ hk hg => gwA hk hg, fun _ _ _ _ h => h.elim, fun ops' Q' hops hQ => ?_⟩)
 · exact ⟨belowB, keepsB, by first | with_reducible exact Nat.le_of_eq hN0.out | (simp only [World.size_drew]; with_reducible exact Nat.le_of_eq hN0.out), ownK, ownK⟩
 ·
  obtain ⟨j0, jk, jn, b_vs, b_vx⟩ := hj
  exact ⟨j0, jk, jn, b_vs, b_vx⟩
 have eN := hN0.out
 try simp only [World.size_alloc, World.size_setCell, World.size_drew, World.heap_drewN] at eN
 have i_vs : w1.heap.size < N0 := by first | omega | (have h := ovs.lt; omega)
 have i_vx : w4.heap.size < N0 := by first | omega | (have h := ovx.lt; omega)
 have iw : w.heap.size ≤ N0 := by first | omega | (have h := B.size; omega)
 clear cvs0 cvs1 cvs2 cvs3 cvs4 cvs5 cvs6 cvs7 cvs8 cvs9 cvs10 cvs11 cvs12 cvs13 cvs14 cvs15 lvs
 clear hN0
 refine Reg.RP0 20 ?_
 refine Reg.RP0 21 ?_
 refine Reg.RP0 22 ?_
 apply Reg.RP rfl rfl (by rw [hops]; rfl) 23 rfl rfl
 ·
  intro D v' W' hc hj hf K hK
  obtain ⟨j0, jk, jn, b_vs, b_vx⟩ := hj
  obtain ⟨c0, c1, c2, c3, c4, c5, c6, c7, c8, c9, c10, c11, c12, c13, c14, c15⟩ := b_vs.r15
  go_step
  exact hK.out
 · rfl
 refine Reg.RC_call rfl (tlt rfl) (by rw [hops]; rfl) (fun D v' W' hc hj hf K hK => ?_) ?_
 ·
  obtain ⟨j0, jk, jn, b_vs, b_vx⟩ := hj
  clear hf
  go_step
  refine (Z0 W').mono ?_
  rintro e W2 ⟨u, rfl, hu, hs⟩
  obtain ⟨za_1, za_2, za_3, za_4, za_5, za_6, za_7, za_8, rfl⟩ := hu.shape
  exact hK.out _ W2 (Keeps.steps hs) ⟨jst j0 hs, jk.then_ hs, jsz jn hs, b_vs.steps hs, b_vx.steps hs⟩ hu ⟨_, _, _, _, _, _, _, _, rfl⟩
 rintro _ ⟨za_1, za_2, za_3, za_4, za_5, za_6, za_7, za_8, rfl⟩
 refine Reg.at40 rfl ?_
 refine Reg.RC_call rfl (tlt rfl) (by rw [hops]; rfl) (fun D v' W' hc hj hf K hK => ?_) ?_
 ·
  obtain ⟨j0, jk, jn, b_vs, b_vx⟩ := hj
  clear hf
  go_step
  refine (Z1 W').mono ?_
  rintro e W2 ⟨u, rfl, hu, hs⟩
  obtain ⟨zb_1, zb_2, zb_3, zb_4, zb_5, zb_6, zb_7, zb_8, rfl⟩ := hu.shape
  exact hK.out _ W2 (Keeps.steps hs) ⟨jst j0 hs, jk.then_ hs, jsz jn hs, b_vs.steps hs, b_vx.steps hs⟩ hu ⟨_, _, _, _, _, _, _, _, rfl⟩
 rintro _ ⟨zb_1, zb_2, zb_3, zb_4, zb_5, zb_6, zb_7, zb_8, rfl⟩
 refine Reg.at40 rfl ?_
 refine Reg.RC_call rfl (tlt rfl) (by rw [hops]; rfl) (fun D v' W' hc hj hf K hK => ?_) ?_
 ·
  obtain ⟨j0, jk, jn, b_vs, b_vx⟩ := hj
  clear hf
  go_step
  refine (Z2 W').mono ?_
  rintro e W2 ⟨u, rfl, hu, hs⟩
  obtain ⟨zc_1, zc_2, zc_3, zc_4, zc_5, zc_6, zc_7, zc_8, rfl⟩ := hu.shape
  exact hK.out _ W2 (Keeps.steps hs) ⟨jst j0 hs, jk.then_ hs, jsz jn hs, b_vs.steps hs, b_vx.steps hs⟩ hu ⟨_, _, _, _, _, _, _, _, rfl⟩
 rintro _ ⟨zc_1, zc_2, zc_3, zc_4, zc_5, zc_6, zc_7, zc_8, rfl⟩
 refine Reg.at40 rfl ?_
 refine Reg.RC_call rfl (tlt rfl) (by rw [hops]; rfl) (fun D v' W' hc hj hf K hK => ?_) ?_
 ·
  obtain ⟨j0, jk, jn, b_vs, b_vx⟩ := hj
  clear hf
  go_step
  refine (Z3 W').mono ?_
  rintro e W2 ⟨u, rfl, hu, hs⟩
  obtain ⟨zd_1, zd_2, zd_3, zd_4, zd_5, zd_6, zd_7, zd_8, rfl⟩ := hu.shape
  exact hK.out _ W2 (Keeps.steps hs) ⟨jst j0 hs, jk.then_ hs, jsz jn hs, b_vs.steps hs, b_vx.steps hs⟩ hu ⟨_, _, _, _, _, _, _, _, rfl⟩
 rintro _ ⟨zd_1, zd_2, zd_3, zd_4, zd_5, zd_6, zd_7, zd_8, rfl⟩
 refine Reg.at40 rfl ?_
 apply Reg.RP rfl rfl (by rw [hops]; rfl) 28 rfl rfl
 ·
  intro D v' W' hc hj hf K hK
  go_step
  exact hK.out
 · rfl
 refine Reg.RC_call rfl (tlt rfl) (by rw [hops]; rfl) (fun D v' W' hc hj hf K hK => ?_) ?_
 ·
  obtain ⟨j0, jk, jn, b_vs, b_vx⟩ := hj
  have g4 : GFr ((T 0)) _ W' := (hf (4, some 24) (.head _) rfl).2.2
  have g4 : FR W' _ ((T 0)) := g4
  have g5 : GFr ((T 1)) _ W' := (hf (5, some 25) (.tail _ (.head _)) rfl).2.2
  have g5 : FR W' _ ((T 1)) := g5
  have g6 : GFr ((T 2)) _ W' := (hf (6, some 26) (.tail _ (.tail _ (.head _))) rfl).2.2
  have g6 : FR W' _ ((T 2)) := g6
  have g7 : GFr ((T 3)) _ W' := (hf (7, some 27) (.tail _ (.tail _ (.tail _ (.head _)))) rfl).2.2
  have g7 : FR W' _ ((T 3)) := g7
  clear hf
  go_step
  refine (rsameSim W' (Fsa.out.keeps jk) (mkS g4 g5 g6 g7)).mono ?_
  rintro e W2 ⟨rfl, hs⟩
  exact hK.out _ W2 (Keeps.steps hs) ⟨jst j0 hs, jk.then_ hs, jsz jn hs, b_vs.steps hs, b_vx.steps hs⟩ trivial rfl
 rintro _ rfl
 refine Reg.at40 rfl ?_
 refine Reg.RP0 30 ?_
 refine Reg.RP0 31 ?_
 apply Reg.RP rfl rfl (by rw [hops]; rfl) 32 rfl rfl
 ·
  intro D v' W' hc hj hf K hK
  go_step
  exact hK.out
 · rfl
 apply Reg.RP rfl rfl (by rw [hops]; rfl) 33 rfl rfl
 ·
  intro D v' W' hc hj hf K hK
  go_step
  exact hK.out
 · rfl
 refine Reg.RP0 34 ?_
 refine Reg.RP0 35 ?_
 apply Reg.RP rfl rfl (by rw [hops]; rfl) 36 rfl rfl
 ·
  intro D v' W' hc hj hf K hK
  obtain ⟨j0, jk, jn, b_vs, b_vx⟩ := hj
  obtain ⟨c0, c1, c2, c3⟩ := b_vx.r3
  go_step
  exact hK.out
 · rfl
 refine Reg.RC_call rfl (tlt rfl) (by rw [hops]; rfl) (fun D v' W' hc hj hf K hK => ?_) ?_
 ·
  obtain ⟨j0, jk, jn, b_vs, b_vx⟩ := hj
  clear hf
  go_step
  refine (Z4 W').mono ?_
  rintro e W2 ⟨u, rfl, hu, hs⟩
  obtain ⟨ze_1, ze_2, ze_3, ze_4, ze_5, ze_6, ze_7, ze_8, rfl⟩ := hu.shape
  exact hK.out _ W2 (Keeps.steps hs) ⟨jst j0 hs, jk.then_ hs, jsz jn hs, b_vs.steps hs, b_vx.steps hs⟩ hu ⟨_, _, _, _, _, _, _, _, rfl⟩
 rintro _ ⟨ze_1, ze_2, ze_3, ze_4, ze_5, ze_6, ze_7, ze_8, rfl⟩
 refine Reg.at40 rfl ?_
 refine Reg.RC_call rfl (tlt rfl) (by rw [hops]; rfl) (fun D v' W' hc hj hf K hK => ?_) ?_
 ·
  obtain ⟨j0, jk, jn, b_vs, b_vx⟩ := hj
  have g17 : GFr (q) _ W' := (hf (17, some 37) (.head _) rfl).2.2
  have g17 : FR W' _ (q) := g17
  clear hf
  go_step
  refine (rsameFO (o := some q) W' (Fx_.out.keeps jk) g17).mono ?_
  rintro e W2 ⟨rfl, hs⟩
  exact hK.out _ W2 (Keeps.steps hs) ⟨jst j0 hs, jk.then_ hs, jsz jn hs, b_vs.steps hs, b_vx.steps hs⟩ trivial rfl
 rintro _ rfl
 refine Reg.at40 rfl ?_
 refine Reg.RP0 39 ?_
 refine Reg.RP0 0 ?_
 refine Reg.RC_end (fun Dn v' w5 hd hj hf => ?_)
 obtain ⟨j0, jk, jn, b_vs, b_vx⟩ := hj
 have B := j0
 have ovs := b_vs
 clear b_vs
 have ovx := b_vx
 clear b_vx
 have Fza_ : Hid (FR w5 (.agg #[.bool za_1, .slice za_2 za_3 za_4, .bool za_5, .slice za_6 za_7 za_8]) ((T 0))) := (hf (4, some 24) (.head _) rfl).2.2
 have Fzb_ : Hid (FR w5 (.agg #[.bool zb_1, .slice zb_2 zb_3 zb_4, .bool zb_5, .slice zb_6 zb_7 zb_8]) ((T 1))) := (hf (5, some 25) (.tail _ (.head _)) rfl).2.2
 have Fzc_ : Hid (FR w5 (.agg #[.bool zc_1, .slice zc_2 zc_3 zc_4, .bool zc_5, .slice zc_6 zc_7 zc_8]) ((T 2))) := (hf (6, some 26) (.tail _ (.tail _ (.head _))) rfl).2.2
 have Fzd_ : Hid (FR w5 (.agg #[.bool zd_1, .slice zd_2 zd_3 zd_4, .bool zd_5, .slice zd_6 zd_7 zd_8]) ((T 3))) := (hf (7, some 27) (.tail _ (.tail _ (.tail _ (.head _)))) rfl).2.2
 have Fze_ : Hid (FR w5 (.agg #[.bool ze_1, .slice ze_2 ze_3 ze_4, .bool ze_5, .slice ze_6 ze_7 ze_8]) (q)) := (hf (17, some 37) (.tail _ (.tail _ (.tail _ (.tail _ (.tail _ (.head _)))))) rfl).2.2
 replace Fsa := Hid.mk_ (Fsa.out.keeps jk)
 replace Fo_ := Hid.mk_ (Fo_.out.keeps jk)
 replace Fra := Hid.mk_ (Fra.out.keeps jk)
 replace Frb := Hid.mk_ (Frb.out.keeps jk)
 replace Fx_ := Hid.mk_ (Fx_.out.keeps jk)
 clear hd hf jk j0
 refine hQ _ _ ?_
 clear hQ hops Q' ops'
 go_wp2_with fail
 refine bodyPost_ret (by simp [results, Tryz.results17, go_sem, ]; rfl) rfl ?_
 exact ⟨rfl, belowB⟩
theorem cur_get {cur : Array Value} {l : List Int} {n : Nat} (hn : l.length = n) (ht : cur.toList.take n = ints l) {k : Nat} (hk : k < n) : cur[k]? = some (.int .i64 (l.getD k 0)) := by
 subst hn
 have h1 : (cur.toList.take l.length)[k]? = (ints l)[k]? := by rw [ht]
 rw [List.getElem?_take, if_pos hk] at h1
 rw [← Array.getElem?_toList, h1]
 unfold ints
 rw [List.getElem?_map, List.getD_eq_getElem?_getD, List.getElem?_eq_getElem hk]
 rfl
theorem ints_of_cur {w : World} {b cap n : Nat} {t : TypeId} {cur : Array Value} {l : List Int} (hb : Blk w b t cur) (hn : l.length = n) (hc : n ≤ cap) (ht : cur.toList.take n = ints l) : IntsR w (.slice (some ⟨b, 0, none⟩) n cap) l := by
 subst hn
 refine ⟨_, cap, rfl, hc, fun _ => ⟨b, 0, rfl, hb.lt, fun k hk => ?_⟩⟩
 rw [Nat.zero_add, hb.cell k, cur_get rfl ht hk]
theorem chk_okP {l : PL} (h : chkP l = 0) (k : Nat) (hk : k < l.length) : okP (pt l k) := by
 have := chk_pts h k hk
 exact this
theorem chk_short {l : PL} (h : chkP l = 0) : l.length ≤ 200 := by
 unfold chkP at h
 rcases Nat.lt_or_ge 200 l.length with g | g
 · rw [if_pos g] at h; cases h
 · exact g
theorem sz_apX {t : Nat → Rat} {p : Int × Int} (ht : ∀ i, i < 4 → sz (t i) 16) (h : okP p) : sz (apX t p) 60 ∧ sz (apY t p) 60 := by
 have hx : sz (p.1 : Rat) 2 := sz_coord ⟨h.1, h.2.1⟩
 have hy : sz (p.2 : Rat) 2 := sz_coord ⟨h.2.2.1, h.2.2.2⟩
 refine ⟨?_, ?_⟩
 ·
  unfold apX
  exact (((((ht 0 (by omega)).mul hx).sub ((ht 1 (by omega)).mul hy)).add (ht 2 (by omega))).mono (by omega))
 ·
  unfold apY
  exact (((((ht 1 (by omega)).mul hx).add ((ht 0 (by omega)).mul hy)).add (ht 3 (by omega))).mono (by omega))
theorem prtP_sz {x y rad : Rat} {m : PL} {k : Nat} (hx : sz x k) (hy : sz y k) (hr : sz rad 2) (hm : chkP m = 0) : ∀ n, n ≤ m.length → sz (prtP x y rad m n).2 (k + 3)
 | 0, _ => hr.mono (by omega)
 | n + 1, h => by
  unfold prtP
  split
  · exact sz_apart hx hy (chk_okP hm n (by omega))
  · exact prtP_sz hx hy hr hm n (by omega)
theorem prtP_step {x y rad : Rat} {m : PL} {n : Nat} {c : Int} (hc : cmpQ (apartQ x y (pt m n)) (prtP x y rad m n).2 = c) :
  (c < 0 → prtP x y rad m (n + 1) = ((n : Int), apartQ x y (pt m n))) ∧ (c = 0 → (prtP x y rad m n).1 < 0 → prtP x y rad m (n + 1) = ((n : Int), apartQ x y (pt m n))) ∧ (¬ c < 0 → ¬ (c = 0 ∧ (prtP x y rad m n).1 < 0) → prtP x y rad m (n + 1) = prtP x y rad m n) := by
 subst hc
 refine ⟨fun h => if_pos (.inl (cmpQ_lt.1 h)), fun h g => if_pos (.inr ⟨cmpQ_eq.1 h, g⟩), fun h g => if_neg ?_⟩
 rintro (e | ⟨e, e2⟩)
 · exact h (cmpQ_lt.2 e)
 · exact g ⟨cmpQ_eq.2 e, e2⟩
theorem cur_next {cur : Array Value} {xs : List Int} {i : Nat} (hs : i < cur.size) (hl : xs.length = i) (ht : cur.toList.take i = ints xs) (x : Int) : (cur.setIfInBounds i (.int .i64 x)).toList.take (i + 1) = ints (xs ++ [x]) := by
 rw [Array.toList_setIfInBounds, List.take_set, List.take_succ_eq_append_getElem (by simpa using hs), ht, ints_snoc, List.set_append]
 have e : (ints xs).length = i := by unfold ints; rw [List.length_map, hl]
 rw [if_neg (by omega), e, Nat.sub_self]
 rfl
theorem infoI64 : (Tryz.prog.info? 3).map (fun i => (i.zero, i.size, i.bytes)) = some (some (.int .i64 0), 1, 8) := by kernel_rfl
theorem make_ints (n : Nat) (h : n ≤ 1000000000) (w : World) : (Instr.makeSlice 46 (.int .i64 (n : Int)) (.int .i64 (n : Int))).run Tryz.prog w = .ok (.slice (some ⟨w.heap.size, 0, none⟩) n n) (w.alloc (.cells (madeCells #[.int .i64 0] n) 3)) :=
 run_make_row' (P := Tryz.prog) 46 3 (.int .i64 0) 8 Tryz.underlying46 infoI64 rfl .i64 .i64 n (by omega) (by omega) w
theorem noU_set {cs : Array Value} (h : noU32 cs = true) (i : Nat) (x : Int) : noU32 (cs.setIfInBounds i (.int .i64 x)) = true := by
 unfold noU32 at h ⊢
 rw [Array.toList_setIfInBounds]
 rw [List.all_eq_true] at h ⊢
 intro v hv
 rcases List.mem_or_eq_of_mem_set hv with g | g
 · exact h v g
 · rw [g]
theorem noU_made (n : Nat) : noU32 (madeCells #[.int .i64 0] n) = true := by
 unfold noU32
 rw [List.all_eq_true]
 intro v hv
 unfold madeCells at hv
 rw [Array.toList_map, List.mem_map] at hv
 obtain ⟨a, -, rfl⟩ := hv
 rw [show (#[Value.int .i64 0] : Array Value).size = 1 from rfl, Nat.mod_one]
 rfl
theorem wp_seal {P : Program} {ops : Array Oper} {Q : Exit → Act → World → Prop} {rest : List Oper} {a : Act} {W : World} (J : World → Prop) (hJ : J W) (h : ∀ wx, J wx → wpList P ops Q rest a wx) : wpList P ops Q rest a W := h W hJ
end Go.Proofs.YtffmbepfbienaaaGreat
/- MatchNearest's plain law. -/
namespace Go.Proofs.YtffmbepfbienaaaGreat
theorem near_spec (x y rad : Rat) (m : PL) : (-1 ≤ (prtP x y rad m m.length).1 ∧ (prtP x y rad m m.length).1 < (m.length : Int)) ∧
  (0 ≤ (prtP x y rad m m.length).1 → apartQ x y (pt m (prtP x y rad m m.length).1.toNat) = (prtP x y rad m m.length).2) ∧
  ((prtP x y rad m m.length).1 < 0 → rad = (prtP x y rad m m.length).2) ∧ cmpQ (prtP x y rad m m.length).2 rad ≤ 0 ∧
  ∀ k, k < m.length → ∀ c, cmpQ (apartQ x y (pt m k)) (prtP x y rad m m.length).2 = c → ¬ c < 0 ∧ ¬ (c = 0 ∧ (k : Int) < (prtP x y rad m m.length).1) ∧ ¬ (c = 0 ∧ (prtP x y rad m m.length).1 < 0) := by
 obtain ⟨h1, h2, h3, h4, h5, h6⟩ := prtP_spec x y rad m m.length
 refine ⟨⟨h1, h2⟩, fun h => (h4 h).symm, fun h => (h3 h).symm, cmpQ_le.2 h5, fun k hk c hc => ?_⟩
 subst hc
 obtain ⟨q1, q2, q3⟩ := h6 k hk
 exact ⟨fun h => Rat.not_le.2 (cmpQ_lt.1 h) q1, fun ⟨h, g⟩ => q2 ⟨cmpQ_eq.1 h, g⟩, fun ⟨h, g⟩ => q3 ⟨cmpQ_eq.1 h, g⟩⟩
end Go.Proofs.YtffmbepfbienaaaGreat
