import Derived.Test.YtalnlnpnacfdfaaRefG
namespace Go.Proofs.Ytalnlnpnacfdfaa
open Go.RowKit
theorem rsize_b (x y : Int) (w : World) (h0 : -9223372036854775808 ≤ x) (h1 : x ≤ 9223372036854775807) (hy : absI x = y) :
    Calls Try.prog 64 #[.int .i64 x] w fun e w' => e = .returned (.int .u64 y) ∧ Below w.heap.size w w' :=
  (rsize x w h0 h1).mono (by rintro e w' ⟨rfl, rfl⟩; exact ⟨by rw [hy], Below.refl _ _⟩)
theorem Blk.three {w : World} {g : Nat} {t : TypeId} {x y z u v s : Value} (h : Blk w g t #[x, y, z]) : Blk (((w.setCell ⟨g, 0, none⟩ u).setCell ⟨g, 1, none⟩ v).setCell ⟨g, 2, none⟩ s) g t #[u, v, s] := ((h.set_ 0 u).set_ 1 v).set_ 2 s
theorem md_args {x y x' y' d : Int} (h1 : x = x') (h2 : y = y') : md (dn x d) (upq y d) = md (dn x' d) (upq y' d) := by rw [h1, h2]
theorem scale_p (a b num den : Int) (w : World) (n0 : -9223372036854775808 ≤ num) (n1 : num ≤ 9223372036854775807) (d0 : -9223372036854775808 ≤ den) (d1 : den ≤ 9223372036854775807) : Calls Try.prog 16 #[.agg #[.int .i64 a, .int .i64 b], .int .i64 num, .int .i64 den] w (G3 w (scaleS a b num den)) := by
  by_cases hq : V a b ∧ den ≠ 0
  · obtain ⟨⟨v0, v1, v2⟩, h⟩ := hq
    by_cases hd : 0 < den
    · exact scale_pp a b num den w v0 v1 v2 n0 n1 hd d1
    · exact scale_pn a b num den (den % 18446744073709551616) w v0 v1 v2 n0 n1 d0 (by omega) (IntKind.wrap_u64 _) (by rw [IntKind.wrap_u64]; omega) (by omega) (by omega)
  · exact scale_p0 a b num den w n0 n1 d0 d1 hq
set_option maxRecDepth 100000 in
set_option maxHeartbeats 20000000 in
theorem rscale (a b num den : Int) (w : World) (n0 : -9223372036854775808 ≤ num) (n1 : num ≤ 9223372036854775807) (d0 : -9223372036854775808 ≤ den) (d1 : den ≤ 9223372036854775807) : Calls Try.prog 17 #[.agg #[.int .i64 a, .int .i64 b], .int .i64 num, .int .i64 den] w (G3 w (scaleS a b num den)) := by
  by_cases hv : V a b
  · have H1 : Hid (errV (V a b) = 0) := if_pos hv
    have H9 : scaleS a b num den = scaleV a b num den := if_pos hv
    obtain ⟨v0, v1, v2⟩ := hv
    by_cases hz : den = 0
    · have H : Hid (scaleS a b num den = (0, 0, 18)) := by show scaleS a b num den = _; rw [H9]; exact if_pos hz
      clear H9
      subst hz
      go_enter Try.func17, Try.ntmps17
      go_wp2_with fail
      refine (rcheck a b _).mono ?_
      rintro e w1 ⟨rfl, hb1⟩
      have st : Steps _ w1 := hb1
      have Bn : Below w.heap.size w w1 := below_steps (by (repeat' first | with_reducible assumption | with_reducible exact Below.refl _ _ | with_reducible refine Below.alloc ?_ ?_ _ | with_reducible refine Below.drew ?_ | with_reducible refine belowN ?_ _ | with_reducible refine Below.setCell ?_ ?_ _ | go_size)) (Nat.le_refl _) st
      have nA : Blk w1 (w.heap.size) 23 #[.int .i64 (a), .int .i64 (b)] := Blk.steps (by (repeat' first | with_reducible assumption | (with_reducible refine Blk.new' ?_; first | with_reducible rfl | (simp only [World.size_alloc, World.size_setCell, World.size_drew]; done)) | with_reducible refine Blk.alloc ?_ _ | with_reducible refine Blk.drew ?_ | with_reducible refine Blk.drewN ?_ _ | with_reducible apply Blk.three | with_reducible apply Blk.both | with_reducible refine Blk.far' ?_ ?_ | (show _ ≠ _; omega))) st
      have nR : Blk w1 (w.heap.size + 1) 23 #[.int .i64 (0), .int .i64 (0)] := Blk.steps (by (repeat' first | with_reducible assumption | (with_reducible refine Blk.new' ?_; first | with_reducible rfl | (simp only [World.size_alloc, World.size_setCell, World.size_drew]; done)) | with_reducible refine Blk.alloc ?_ _ | with_reducible refine Blk.drew ?_ | with_reducible refine Blk.drewN ?_ _ | with_reducible apply Blk.three | with_reducible apply Blk.both | with_reducible refine Blk.far' ?_ ?_ | (show _ ≠ _; omega))) st
      clear st
      have B := Bn
      clear Bn
      have oA := nA
      clear nA
      have cA0 : World.cell? w1 ⟨w.heap.size, 0, none⟩ = some (.int .i64 (a)) := oA.c 0 rfl
      have cA1 : World.cell? w1 ⟨w.heap.size, 1, none⟩ = some (.int .i64 (b)) := oA.c 1 rfl
      have fA := oA.fr
      have lA := oA.lt
      have oR := nR
      clear nR
      have cR0 : World.cell? w1 ⟨w.heap.size + 1, 0, none⟩ = some (.int .i64 (0)) := oR.c 0 rfl
      have cR1 : World.cell? w1 ⟨w.heap.size + 1, 1, none⟩ = some (.int .i64 (0)) := oR.c 1 rfl
      have fR := oR.fr
      have lR := oR.lt
      rw [H1.out]
      go_wp2_with fail
      refine bodyPost_ret (by simp [results, Try.results17, go_sem, cR0, cR1, fR, lR]; rfl) rfl ?_
      show G3 w _ _ _
      rw [H.out]
      exact ⟨rfl, by (repeat' first | with_reducible assumption | with_reducible exact Below.refl _ _ | with_reducible refine Below.alloc ?_ ?_ _ | with_reducible refine Below.drew ?_ | with_reducible refine belowN ?_ _ | with_reducible refine Below.setCell ?_ ?_ _ | go_size)⟩
    · have hzb : (den == 0) = false := by simp; omega
      obtain ⟨p0, p1⟩ := prod_b (a := a) (b := num) (m := 2305843009213693952) (n := 9223372036854775808) (by omega) (by omega) (by omega) (by omega)
      obtain ⟨p2, p3⟩ := prod_b (a := b) (b := num) (m := 2305843009213693952) (n := 9223372036854775808) (by omega) (by omega) (by omega) (by omega)
      by_cases hd : den < 0
      · have habs : Hid (absI den = -den) := by show absI den = _; unfold absI; rw [if_pos hd]
        by_cases hs : b * num < a * num
        · have H : Hid (scaleS a b num den = md (dn (-(a * num)) (-den)) (upq (-(b * num)) (-den))) := by show scaleS a b num den = _; rw [H9]; unfold scaleV; rw [if_neg hz, if_pos hd]; exact md_args (by simp only [mn]; omega) (by simp only [mx]; omega)
          have D1 : Hid (decide (b * num < a * num) = true) := by show decide _ = _; simp <;> omega
          have s0 : -21267647932558653966460912964485513216 ≤ a * num := by omega
          have s1 : a * num ≤ 21267647932558653966460912964485513216 := by omega
          have s2 : -21267647932558653966460912964485513216 ≤ b * num := by omega
          have s3 : b * num ≤ 21267647932558653966460912964485513216 := by omega
          clear H9 hs p0 p1 p2 p3
          go_enter Try.func17, Try.ntmps17
          go_wp2_with fail
          refine (rcheck a b _).mono ?_
          rintro e w1 ⟨rfl, hb1⟩
          have st : Steps _ w1 := hb1
          have Bn : Below w.heap.size w w1 := below_steps (by (repeat' first | with_reducible assumption | with_reducible exact Below.refl _ _ | with_reducible refine Below.alloc ?_ ?_ _ | with_reducible refine Below.drew ?_ | with_reducible refine belowN ?_ _ | with_reducible refine Below.setCell ?_ ?_ _ | go_size)) (Nat.le_refl _) st
          have nA : Blk w1 (w.heap.size) 23 #[.int .i64 (a), .int .i64 (b)] := Blk.steps (by (repeat' first | with_reducible assumption | (with_reducible refine Blk.new' ?_; first | with_reducible rfl | (simp only [World.size_alloc, World.size_setCell, World.size_drew]; done)) | with_reducible refine Blk.alloc ?_ _ | with_reducible refine Blk.drew ?_ | with_reducible refine Blk.drewN ?_ _ | with_reducible apply Blk.three | with_reducible apply Blk.both | with_reducible refine Blk.far' ?_ ?_ | (show _ ≠ _; omega))) st
          have nR : Blk w1 (w.heap.size + 1) 23 #[.int .i64 (0), .int .i64 (0)] := Blk.steps (by (repeat' first | with_reducible assumption | (with_reducible refine Blk.new' ?_; first | with_reducible rfl | (simp only [World.size_alloc, World.size_setCell, World.size_drew]; done)) | with_reducible refine Blk.alloc ?_ _ | with_reducible refine Blk.drew ?_ | with_reducible refine Blk.drewN ?_ _ | with_reducible apply Blk.three | with_reducible apply Blk.both | with_reducible refine Blk.far' ?_ ?_ | (show _ ≠ _; omega))) st
          clear st
          have B := Bn
          clear Bn
          have oA := nA
          clear nA
          have cA0 : World.cell? w1 ⟨w.heap.size, 0, none⟩ = some (.int .i64 (a)) := oA.c 0 rfl
          have cA1 : World.cell? w1 ⟨w.heap.size, 1, none⟩ = some (.int .i64 (b)) := oA.c 1 rfl
          have fA := oA.fr
          have lA := oA.lt
          have oR := nR
          clear nR
          have cR0 : World.cell? w1 ⟨w.heap.size + 1, 0, none⟩ = some (.int .i64 (0)) := oR.c 0 rfl
          have cR1 : World.cell? w1 ⟨w.heap.size + 1, 1, none⟩ = some (.int .i64 (0)) := oR.c 1 rfl
          have fR := oR.fr
          have lR := oR.lt
          rw [H1.out]
          go_wp2_with fail
          clear cA0 cA1 fA lA cR0 cR1 fR lR
          refine Reg.wp_chain_n (fun N0 => fun D v W => Below w.heap.size w W ∧ Blk W (w.heap.size) 23 #[.int .i64 (a), .int .i64 (b)] ∧ Blk W (w.heap.size + 1) 23 #[.int .i64 (0), .int .i64 (0)] ∧ (D 8 = true → ∃ g : Nat, v 8 = .pointer (some ⟨g, 0, none⟩) ∧ N0 ≤ g ∧ Blk W g 77 #[Reg.sel (D 10) (.bool false) (.bool (negB (a * num))), Reg.sel (D 10) (.int .u64 0) (.int .u64 (aHi (a * num))), Reg.sel (D 10) (.int .u64 0) (.int .u64 (aLo (a * num)))]) ∧ (D 9 = true → ∃ g : Nat, v 9 = .pointer (some ⟨g, 0, none⟩) ∧ N0 ≤ g ∧ Blk W g 77 #[Reg.sel (D 11) (.bool false) (.bool (negB (b * num))), Reg.sel (D 11) (.int .u64 0) (.int .u64 (aHi (b * num))), Reg.sel (D 11) (.int .u64 0) (.int .u64 (aLo (b * num)))]) ∧ (D 8 = true → D 9 = true → v 8 ≠ v 9) ∧ N0 ≤ W.heap.size)
            (Reg.inl [3, 7, 8, 9, 10, 11]) (Reg.gv [(3, fun x => x = .agg #[.bool (negB (a * num)), .int .u64 (aHi (a * num)), .int .u64 (aLo (a * num))]), (7, fun x => x = .agg #[.bool (negB (b * num)), .int .u64 (aHi (b * num)), .int .u64 (aLo (b * num))]), (8, fun x => ∃ g : Nat, x = .pointer (some ⟨g, 0, none⟩)), (9, fun x => ∃ g : Nat, x = .pointer (some ⟨g, 0, none⟩))]) Reg.None_ (fun _ => Reg.Any) (fun _ _ => False) (Reg.pl [(10, [(8, some 8)]), (11, [(9, some 9)]), (12, [(8, some 8), (9, some 9)])]) (Reg.pl [(8, [10]), (9, [11])])
            (by kernel_rfl) (by kernel_rfl) (by kernel_rfl) (Reg.gv_some _ (fun p hp => by simp only [List.mem_cons, List.not_mem_nil, or_false] at hp; rcases hp with rfl | rfl | rfl | rfl; exact ⟨_, rfl⟩; exact ⟨_, rfl⟩; exact ⟨_, 0, rfl⟩; exact ⟨_, 0, rfl⟩)) (fun N0 hN0 => ⟨fun v => ?_, (fun D v v' W hv hj => ?_), fun _ _ _ _ _ _ _ _ _ _ _ _ _ => Reg.none_, fun _ _ _ _ h => h.elim, fun ops' Q' hops hQ => ?_⟩)
          · exact ⟨(by first | with_reducible exact Below.drew B | with_reducible exact Below.drew (belowN B _) | (repeat' first | with_reducible assumption | with_reducible exact Below.refl _ _ | with_reducible refine Below.alloc ?_ ?_ _ | with_reducible refine Below.drew ?_ | with_reducible refine belowN ?_ _ | with_reducible refine Below.setCell ?_ ?_ _ | go_size)), (show Blk _ _ _ #[.int .i64 (a), .int .i64 (b)] from (by first | with_reducible exact oA | (repeat' first | with_reducible assumption | (with_reducible refine Blk.new' ?_; first | with_reducible rfl | (simp only [World.size_alloc, World.size_setCell, World.size_drew]; done)) | with_reducible refine Blk.alloc ?_ _ | with_reducible refine Blk.drew ?_ | with_reducible refine Blk.drewN ?_ _ | with_reducible apply Blk.three | with_reducible apply Blk.both | with_reducible refine Blk.far' ?_ ?_ | (show _ ≠ _; omega)))), (show Blk _ _ _ #[.int .i64 (0), .int .i64 (0)] from (by first | with_reducible exact oR | (repeat' first | with_reducible assumption | (with_reducible refine Blk.new' ?_; first | with_reducible rfl | (simp only [World.size_alloc, World.size_setCell, World.size_drew]; done)) | with_reducible refine Blk.alloc ?_ _ | with_reducible refine Blk.drew ?_ | with_reducible refine Blk.drewN ?_ _ | with_reducible apply Blk.three | with_reducible apply Blk.both | with_reducible refine Blk.far' ?_ ?_ | (show _ ≠ _; omega)))), (fun h => by cases h), (fun h => by cases h), (fun h => by cases h), (Nat.le_of_eq hN0.out)⟩
          · obtain ⟨B, oA, oR, pa8, pa9, q8_9, zN0⟩ := hj
            exact ⟨B, oA, oR, (fun h => hv 8 h ▸ pa8 h), (fun h => hv 9 h ▸ pa9 h), (fun h h' => hv 8 h ▸ hv 9 h' ▸ q8_9 h h'), zN0⟩
          have iA : w.heap.size < N0 := by have h := oA.lt; have e := hN0.out; (try simp only [World.size_alloc, World.size_setCell, World.size_drew, World.heap_drewN] at e); omega
          have iR : w.heap.size + 1 < N0 := by have h := oR.lt; have e := hN0.out; (try simp only [World.size_alloc, World.size_setCell, World.size_drew, World.heap_drewN] at e); omega
          have uN0 : w.heap.size ≤ N0 := by have h := Below.size B; have e := hN0.out; (try simp only [World.size_alloc, World.size_setCell, World.size_drew, World.heap_drewN] at e); (try simp only [World.size_alloc, World.size_setCell, World.size_drew, World.heap_drewN] at h); omega
          clear B oA oR hN0
          apply Reg.RC_pure (hc := rfl) (hst := rfl) (hw := rfl) (t := 19) (hd := rfl) (ht := Nat.le_of_ble_eq_true rfl)
          · intro D v W hc hj hf K hK
            go_step
            exact hK.out
          · rfl
          apply Reg.RC_pure (hc := rfl) (hst := rfl) (hw := rfl) (t := 20) (hd := rfl) (ht := Nat.le_of_ble_eq_true rfl)
          · intro D v W hc hj hf K hK
            obtain ⟨B, oA, oR, pa8, pa9, q8_9, zN0⟩ := hj
            have cA0 : World.cell? W ⟨w.heap.size, 0, none⟩ = some (.int .i64 (a)) := oA.c 0 rfl
            have cA1 : World.cell? W ⟨w.heap.size, 1, none⟩ = some (.int .i64 (b)) := oA.c 1 rfl
            go_step
            exact hK.out
          · rfl
          apply Reg.RC_pure (hc := rfl) (hst := rfl) (hw := rfl) (t := 21) (hd := rfl) (ht := Nat.le_of_ble_eq_true rfl)
          · intro D v W hc hj hf K hK
            go_step
            exact hK.out
          · rfl
          refine Reg.RC_call rfl (by intro t ht; cases ht; exact Nat.le_of_ble_eq_true rfl) rfl (fun D v W hc hj hf K hK => ?_) (fun x hx => ?_)
          · obtain ⟨B, oA, oR, pa8, pa9, q8_9, zN0⟩ := hj
            go_step
            refine (rtimes_b _ _ _ (by omega) (by omega) (by omega) (by omega)).mono ?_
            rintro e W' ⟨rfl, hb⟩
            have st : Steps W W' := hb
            exact hK.out _ _ Reg.any ⟨below_steps B (Nat.le_refl _) st, oA.steps st, oR.steps st, (fun h => let ⟨g, h1, h2, h3⟩ := pa8 h; ⟨g, h1, h2, h3.steps st⟩), (fun h => let ⟨g, h1, h2, h3⟩ := pa9 h; ⟨g, h1, h2, h3.steps st⟩), (fun h h' => q8_9 h h'), (Nat.le_trans zN0 st.size)⟩ Reg.none_ rfl
          have hx : x = .agg #[.bool (negB (a * num)), .int .u64 (aHi (a * num)), .int .u64 (aLo (a * num))] := hx
          subst hx
          refine Reg.RC_at (b := ⟨#[_, _, _, _, _, _, _, _, _, _, _, _, _, _, _, _, _, _, _, _, _, _, _, _, _, _, _, _, _, _, _, _, _, _, _, _, _, _, _, _, _, _, _, _, _, _, _, _, _], []⟩) rfl ?_
          apply Reg.RC_pure (hc := rfl) (hst := rfl) (hw := rfl) (t := 23) (hd := rfl) (ht := Nat.le_of_ble_eq_true rfl)
          · intro D v W hc hj hf K hK
            go_step
            exact hK.out
          · rfl
          apply Reg.RC_pure (hc := rfl) (hst := rfl) (hw := rfl) (t := 24) (hd := rfl) (ht := Nat.le_of_ble_eq_true rfl)
          · intro D v W hc hj hf K hK
            obtain ⟨B, oA, oR, pa8, pa9, q8_9, zN0⟩ := hj
            have cA0 : World.cell? W ⟨w.heap.size, 0, none⟩ = some (.int .i64 (a)) := oA.c 0 rfl
            have cA1 : World.cell? W ⟨w.heap.size, 1, none⟩ = some (.int .i64 (b)) := oA.c 1 rfl
            go_step
            exact hK.out
          · rfl
          apply Reg.RC_pure (hc := rfl) (hst := rfl) (hw := rfl) (t := 25) (hd := rfl) (ht := Nat.le_of_ble_eq_true rfl)
          · intro D v W hc hj hf K hK
            go_step
            exact hK.out
          · rfl
          refine Reg.RC_call rfl (by intro t ht; cases ht; exact Nat.le_of_ble_eq_true rfl) rfl (fun D v W hc hj hf K hK => ?_) (fun x hx => ?_)
          · obtain ⟨B, oA, oR, pa8, pa9, q8_9, zN0⟩ := hj
            go_step
            refine (rtimes_b _ _ _ (by omega) (by omega) (by omega) (by omega)).mono ?_
            rintro e W' ⟨rfl, hb⟩
            have st : Steps W W' := hb
            exact hK.out _ _ Reg.any ⟨below_steps B (Nat.le_refl _) st, oA.steps st, oR.steps st, (fun h => let ⟨g, h1, h2, h3⟩ := pa8 h; ⟨g, h1, h2, h3.steps st⟩), (fun h => let ⟨g, h1, h2, h3⟩ := pa9 h; ⟨g, h1, h2, h3.steps st⟩), (fun h h' => q8_9 h h'), (Nat.le_trans zN0 st.size)⟩ Reg.none_ rfl
          have hx : x = .agg #[.bool (negB (b * num)), .int .u64 (aHi (b * num)), .int .u64 (aLo (b * num))] := hx
          subst hx
          refine Reg.RC_at (b := ⟨#[_, _, _, _, _, _, _, _, _, _, _, _, _, _, _, _, _, _, _, _, _, _, _, _, _, _, _, _, _, _, _, _, _, _, _, _, _, _, _, _, _, _, _, _, _, _, _, _, _], []⟩) rfl ?_
          refine Reg.RC_call rfl (by intro t ht; cases ht; exact Nat.le_of_ble_eq_true rfl) rfl (fun D v W hc hj hf K hK => ?_) (fun x hx => ?_)
          · obtain ⟨B, oA, oR, pa8, pa9, q8_9, zN0⟩ := hj
            have hs : D 10 = false := hc.2 10 (.head _)
            go_step
            exact hK.out _ _ Reg.any ⟨Below.alloc B B.size _, oA.alloc _, oR.alloc _, (fun _ => ⟨W.heap.size, rfl, zN0, (by show Blk _ _ _ #[Reg.sel (D 10) (.bool false) (.bool (negB (a * num))), Reg.sel (D 10) (.int .u64 0) (.int .u64 (aHi (a * num))), Reg.sel (D 10) (.int .u64 0) (.int .u64 (aLo (a * num)))]; simp only [hs, Reg.sel_false]; exact Blk.new W _ _)⟩), (fun h => let ⟨g, h1, h2, h3⟩ := pa9 h; ⟨g, h1, h2, h3.alloc _⟩), (fun _ h' => let ⟨g, h1, _, h3⟩ := pa9 h'; fun e => Reg.ptr_ne h3.lt (e.trans h1)), (Nat.le_trans zN0 (by rw [World.size_alloc]; exact Nat.le_succ _))⟩ Reg.none_ ⟨_, rfl⟩
          obtain ⟨gX, hx⟩ : ∃ g : Nat, x = .pointer (some ⟨g, 0, none⟩) := hx
          subst hx
          refine Reg.RC_at (b := ⟨#[_, _, _, _, _, _, _, _, _, _, _, _, _, _, _, _, _, _, _, _, _, _, _, _, _, _, _, _, _, _, _, _, _, _, _, _, _, _, _, _, _, _, _, _, _, _, _, _, _], []⟩) rfl ?_
          refine Reg.RC_call rfl (by intro t ht; cases ht; exact Nat.le_of_ble_eq_true rfl) rfl (fun D v W hc hj hf K hK => ?_) (fun x hx => ?_)
          · obtain ⟨B, oA, oR, pa8, pa9, q8_9, zN0⟩ := hj
            have hs : D 11 = false := hc.2 11 (.head _)
            go_step
            exact hK.out _ _ Reg.any ⟨Below.alloc B B.size _, oA.alloc _, oR.alloc _, (fun h => let ⟨g, h1, h2, h3⟩ := pa8 h; ⟨g, h1, h2, h3.alloc _⟩), (fun _ => ⟨W.heap.size, rfl, zN0, (by show Blk _ _ _ #[Reg.sel (D 11) (.bool false) (.bool (negB (b * num))), Reg.sel (D 11) (.int .u64 0) (.int .u64 (aHi (b * num))), Reg.sel (D 11) (.int .u64 0) (.int .u64 (aLo (b * num)))]; simp only [hs, Reg.sel_false]; exact Blk.new W _ _)⟩), (fun h _ => let ⟨g, h1, _, h3⟩ := pa8 h; fun e => Reg.ptr_ne h3.lt (e.symm.trans h1)), (Nat.le_trans zN0 (by rw [World.size_alloc]; exact Nat.le_succ _))⟩ Reg.none_ ⟨_, rfl⟩
          obtain ⟨gY, hx⟩ : ∃ g : Nat, x = .pointer (some ⟨g, 0, none⟩) := hx
          subst hx
          refine Reg.RC_at (b := ⟨#[_, _, _, _, _, _, _, _, _, _, _, _, _, _, _, _, _, _, _, _, _, _, _, _, _, _, _, _, _, _, _, _, _, _, _, _, _, _, _, _, _, _, _, _, _, _, _, _, _], []⟩) rfl ?_
          refine Reg.RC_call rfl (by intro t ht; cases ht) rfl (fun D v W hc hj hf K hK => ?_) (fun _ _ => Reg.RC_at (b := ⟨_, []⟩) rfl ?_)
          · obtain ⟨B, oA, oR, pa8, pa9, q8_9, zN0⟩ := hj
            have hs : D 10 = false := hc.1
            obtain ⟨hd, he, -⟩ := hf (8, some 8) (.head _) rfl
            obtain ⟨g, h1, h2, h3⟩ := pa8 hd
            obtain rfl : gX = g := Reg.ptr_eq ((show v 8 = Value.pointer (some ⟨gX, 0, none⟩) from he).symm.trans h1)
            have oo : Blk W gX 77 #[.bool false, .int .u64 0, .int .u64 0] := by have o := h3; simp only [hs, Reg.sel_false] at o; exact o
            have cc0 : World.cell? W ⟨gX, 0, none⟩ = some (.bool false) := oo.c 0 rfl
            have cc1 : World.cell? W ⟨gX, 1, none⟩ = some (.int .u64 0) := oo.c 1 rfl
            have cc2 : World.cell? W ⟨gX, 2, none⟩ = some (.int .u64 0) := oo.c 2 rfl
            have ff := oo.fr
            have ll := oo.lt
            go_step
            have nn := h2
            exact hK.out undef _ Reg.any ⟨(by (repeat' first | with_reducible assumption | with_reducible exact Below.refl _ _ | with_reducible refine Below.alloc ?_ ?_ _ | with_reducible refine Below.drew ?_ | with_reducible refine belowN ?_ _ | with_reducible refine Below.setCell ?_ ?_ _ | go_size)), (show Blk _ _ _ #[.int .i64 (a), .int .i64 (b)] from (by (repeat' first | with_reducible assumption | (with_reducible refine Blk.new' ?_; first | with_reducible rfl | (simp only [World.size_alloc, World.size_setCell, World.size_drew]; done)) | with_reducible refine Blk.alloc ?_ _ | with_reducible refine Blk.drew ?_ | with_reducible refine Blk.drewN ?_ _ | with_reducible apply Blk.three | with_reducible apply Blk.both | with_reducible refine Blk.far' ?_ ?_ | (show _ ≠ _; omega)))), (show Blk _ _ _ #[.int .i64 (0), .int .i64 (0)] from (by (repeat' first | with_reducible assumption | (with_reducible refine Blk.new' ?_; first | with_reducible rfl | (simp only [World.size_alloc, World.size_setCell, World.size_drew]; done)) | with_reducible refine Blk.alloc ?_ _ | with_reducible refine Blk.drew ?_ | with_reducible refine Blk.drewN ?_ _ | with_reducible apply Blk.three | with_reducible apply Blk.both | with_reducible refine Blk.far' ?_ ?_ | (show _ ≠ _; omega)))), (fun _ => ⟨gX, h1, h2, (show Blk _ _ _ #[.bool (negB (a * num)), .int .u64 (aHi (a * num)), .int .u64 (aLo (a * num))] from (Blk.set2 (cs' := #[.bool (negB (a * num)), .int .u64 (aHi (a * num)), .int .u64 (aLo (a * num))]) (Blk.set2 (cs' := #[.bool (negB (a * num)), .int .u64 (aHi (a * num)), .int .u64 0]) (Blk.set2 (cs' := #[.bool (negB (a * num)), .int .u64 0, .int .u64 0]) oo (i := 0) rfl) (i := 1) rfl) (i := 2) rfl))⟩), (fun h => let ⟨g', h1', h2', h3'⟩ := pa9 h; have hne : g' ≠ gX := (fun e => q8_9 hd h (h1.trans ((congrArg (fun n => Value.pointer (some ⟨n, 0, none⟩)) e.symm).trans h1'.symm))); ⟨g', h1', h2', (show Blk _ _ _ #[Reg.sel (D 11) (.bool false) (.bool (negB (b * num))), Reg.sel (D 11) (.int .u64 0) (.int .u64 (aHi (b * num))), Reg.sel (D 11) (.int .u64 0) (.int .u64 (aLo (b * num)))] from (by (repeat' first | with_reducible assumption | (with_reducible refine Blk.new' ?_; first | with_reducible rfl | (simp only [World.size_alloc, World.size_setCell, World.size_drew]; done)) | with_reducible refine Blk.alloc ?_ _ | with_reducible refine Blk.drew ?_ | with_reducible refine Blk.drewN ?_ _ | with_reducible apply Blk.three | with_reducible apply Blk.both | with_reducible refine Blk.far' ?_ ?_ | (show _ ≠ _; omega))))⟩), (fun h h' => q8_9 h h'), (by simpa using zN0)⟩ Reg.none_ trivial
          refine Reg.RC_call rfl (by intro t ht; cases ht) rfl (fun D v W hc hj hf K hK => ?_) (fun _ _ => Reg.RC_at (b := ⟨_, []⟩) rfl ?_)
          · obtain ⟨B, oA, oR, pa8, pa9, q8_9, zN0⟩ := hj
            have hs : D 11 = false := hc.1
            obtain ⟨hd, he, -⟩ := hf (9, some 9) (.head _) rfl
            obtain ⟨g, h1, h2, h3⟩ := pa9 hd
            obtain rfl : gY = g := Reg.ptr_eq ((show v 9 = Value.pointer (some ⟨gY, 0, none⟩) from he).symm.trans h1)
            have oo : Blk W gY 77 #[.bool false, .int .u64 0, .int .u64 0] := by have o := h3; simp only [hs, Reg.sel_false] at o; exact o
            have cc0 : World.cell? W ⟨gY, 0, none⟩ = some (.bool false) := oo.c 0 rfl
            have cc1 : World.cell? W ⟨gY, 1, none⟩ = some (.int .u64 0) := oo.c 1 rfl
            have cc2 : World.cell? W ⟨gY, 2, none⟩ = some (.int .u64 0) := oo.c 2 rfl
            have ff := oo.fr
            have ll := oo.lt
            go_step
            have nn := h2
            exact hK.out undef _ Reg.any ⟨(by (repeat' first | with_reducible assumption | with_reducible exact Below.refl _ _ | with_reducible refine Below.alloc ?_ ?_ _ | with_reducible refine Below.drew ?_ | with_reducible refine belowN ?_ _ | with_reducible refine Below.setCell ?_ ?_ _ | go_size)), (show Blk _ _ _ #[.int .i64 (a), .int .i64 (b)] from (by (repeat' first | with_reducible assumption | (with_reducible refine Blk.new' ?_; first | with_reducible rfl | (simp only [World.size_alloc, World.size_setCell, World.size_drew]; done)) | with_reducible refine Blk.alloc ?_ _ | with_reducible refine Blk.drew ?_ | with_reducible refine Blk.drewN ?_ _ | with_reducible apply Blk.three | with_reducible apply Blk.both | with_reducible refine Blk.far' ?_ ?_ | (show _ ≠ _; omega)))), (show Blk _ _ _ #[.int .i64 (0), .int .i64 (0)] from (by (repeat' first | with_reducible assumption | (with_reducible refine Blk.new' ?_; first | with_reducible rfl | (simp only [World.size_alloc, World.size_setCell, World.size_drew]; done)) | with_reducible refine Blk.alloc ?_ _ | with_reducible refine Blk.drew ?_ | with_reducible refine Blk.drewN ?_ _ | with_reducible apply Blk.three | with_reducible apply Blk.both | with_reducible refine Blk.far' ?_ ?_ | (show _ ≠ _; omega)))), (fun h => let ⟨g', h1', h2', h3'⟩ := pa8 h; have hne : g' ≠ gY := (fun e => q8_9 h hd (h1'.trans ((congrArg (fun n => Value.pointer (some ⟨n, 0, none⟩)) e).trans h1.symm))); ⟨g', h1', h2', (show Blk _ _ _ #[Reg.sel (D 10) (.bool false) (.bool (negB (a * num))), Reg.sel (D 10) (.int .u64 0) (.int .u64 (aHi (a * num))), Reg.sel (D 10) (.int .u64 0) (.int .u64 (aLo (a * num)))] from (by (repeat' first | with_reducible assumption | (with_reducible refine Blk.new' ?_; first | with_reducible rfl | (simp only [World.size_alloc, World.size_setCell, World.size_drew]; done)) | with_reducible refine Blk.alloc ?_ _ | with_reducible refine Blk.drew ?_ | with_reducible refine Blk.drewN ?_ _ | with_reducible apply Blk.three | with_reducible apply Blk.both | with_reducible refine Blk.far' ?_ ?_ | (show _ ≠ _; omega))))⟩), (fun _ => ⟨gY, h1, h2, (show Blk _ _ _ #[.bool (negB (b * num)), .int .u64 (aHi (b * num)), .int .u64 (aLo (b * num))] from (Blk.set2 (cs' := #[.bool (negB (b * num)), .int .u64 (aHi (b * num)), .int .u64 (aLo (b * num))]) (Blk.set2 (cs' := #[.bool (negB (b * num)), .int .u64 (aHi (b * num)), .int .u64 0]) (Blk.set2 (cs' := #[.bool (negB (b * num)), .int .u64 0, .int .u64 0]) oo (i := 0) rfl) (i := 1) rfl) (i := 2) rfl))⟩), (fun h h' => q8_9 h h'), (by simpa using zN0)⟩ Reg.none_ trivial
          refine Reg.RC_end (fun D v W hd hj hf => ?_)
          obtain ⟨B, oA, oR, pa8, pa9, q8_9, zN0⟩ := hj
          obtain ⟨-, he, -⟩ := hf (8, some 8) (.head _) rfl
          obtain ⟨g, h1, hXn, h3⟩ := pa8 (hd 8 (by decide))
          obtain rfl : gX = g := Reg.ptr_eq ((show v 8 = Value.pointer (some ⟨gX, 0, none⟩) from he).symm.trans h1)
          have oX : Blk W gX 77 #[.bool (negB (a * num)), .int .u64 (aHi (a * num)), .int .u64 (aLo (a * num))] := by have o := h3; simp only [hd 10 (by decide), Reg.inl, Reg.sel_true] at o; exact o
          have lowX : w.heap.size ≤ gX := Nat.le_trans uN0 hXn
          have sAX : w.heap.size ≠ gX := by have := iA; have := hXn; omega
          have sRX : w.heap.size + 1 ≠ gX := by have := iR; have := hXn; omega
          have he8 := h1
          clear he h1 h3 pa8 hXn
          obtain ⟨-, he, -⟩ := hf (9, some 9) (.tail _ (.head _)) rfl
          obtain ⟨g, h1, hYn, h3⟩ := pa9 (hd 9 (by decide))
          obtain rfl : gY = g := Reg.ptr_eq ((show v 9 = Value.pointer (some ⟨gY, 0, none⟩) from he).symm.trans h1)
          have oY : Blk W gY 77 #[.bool (negB (b * num)), .int .u64 (aHi (b * num)), .int .u64 (aLo (b * num))] := by have o := h3; simp only [hd 11 (by decide), Reg.inl, Reg.sel_true] at o; exact o
          have lowY : w.heap.size ≤ gY := Nat.le_trans uN0 hYn
          have sAY : w.heap.size ≠ gY := by have := iA; have := hYn; omega
          have sRY : w.heap.size + 1 ≠ gY := by have := iR; have := hYn; omega
          have he9 := h1
          clear he h1 h3 pa9 hYn
          have nXY : gX ≠ gY := fun e => q8_9 (hd 8 (by decide)) (hd 9 (by decide)) (he8.trans ((congrArg (fun n => Value.pointer (some ⟨n, 0, none⟩)) e).trans he9.symm))
          have nYX : gY ≠ gX := Ne.symm nXY
          clear he8 he9 zN0 uN0
          clear hd hf q8_9 iA iR
          refine hQ _ _ ?_
          clear hQ hops Q' ops'
          have nX := Blk.ne_ oX oR (by decide)
          have nY := Blk.ne_ oY oR (by decide)
          have lX := oX.lt
          have fX := oX.fr
          have cX0 := oX.c 0 rfl
          have cX1 := oX.c 1 rfl
          have cX2 := oX.c 2 rfl
          have lY := oY.lt
          have fY := oY.fr
          have cY0 := oY.c 0 rfl
          have cY1 := oY.c 1 rfl
          have cY2 := oY.c 2 rfl
          go_wp2_with fail
          refine (rless_q _ _ _ _ D1.out).mono ?_
          rintro e w1 ⟨rfl, hb1⟩
          have st : Steps _ w1 := hb1
          have Bn : Below w.heap.size w w1 := below_steps (by (repeat' first | with_reducible assumption | with_reducible exact Below.refl _ _ | with_reducible refine Below.alloc ?_ ?_ _ | with_reducible refine Below.drew ?_ | with_reducible refine belowN ?_ _ | with_reducible refine Below.setCell ?_ ?_ _ | go_size)) (Nat.le_refl _) st
          have nX : Blk w1 (gX) 77 #[.bool (negB (a * num)), .int .u64 (aHi (a * num)), .int .u64 (aLo (a * num))] := Blk.steps (by (repeat' first | with_reducible assumption | (with_reducible refine Blk.new' ?_; first | with_reducible rfl | (simp only [World.size_alloc, World.size_setCell, World.size_drew]; done)) | with_reducible refine Blk.alloc ?_ _ | with_reducible refine Blk.drew ?_ | with_reducible refine Blk.drewN ?_ _ | with_reducible apply Blk.three | with_reducible apply Blk.both | with_reducible refine Blk.far' ?_ ?_ | (show _ ≠ _; omega))) st
          have nY : Blk w1 (gY) 77 #[.bool (negB (b * num)), .int .u64 (aHi (b * num)), .int .u64 (aLo (b * num))] := Blk.steps (by (repeat' first | with_reducible assumption | (with_reducible refine Blk.new' ?_; first | with_reducible rfl | (simp only [World.size_alloc, World.size_setCell, World.size_drew]; done)) | with_reducible refine Blk.alloc ?_ _ | with_reducible refine Blk.drew ?_ | with_reducible refine Blk.drewN ?_ _ | with_reducible apply Blk.three | with_reducible apply Blk.both | with_reducible refine Blk.far' ?_ ?_ | (show _ ≠ _; omega))) st
          have nR : Blk w1 (w.heap.size + 1) 23 #[.int .i64 (0), .int .i64 (0)] := Blk.steps (by (repeat' first | with_reducible assumption | (with_reducible refine Blk.new' ?_; first | with_reducible rfl | (simp only [World.size_alloc, World.size_setCell, World.size_drew]; done)) | with_reducible refine Blk.alloc ?_ _ | with_reducible refine Blk.drew ?_ | with_reducible refine Blk.drewN ?_ _ | with_reducible apply Blk.three | with_reducible apply Blk.both | with_reducible refine Blk.far' ?_ ?_ | (show _ ≠ _; omega))) st
          clear B oX oY oR lX fX lY fY cX0 cX1 cX2 cY0 cY1 cY2
          clear st
          have B := Bn
          clear Bn
          have oX := nX
          clear nX
          have cX0 : World.cell? w1 ⟨gX, 0, none⟩ = some (.bool (negB (a * num))) := oX.c 0 rfl
          have cX1 : World.cell? w1 ⟨gX, 1, none⟩ = some (.int .u64 (aHi (a * num))) := oX.c 1 rfl
          have cX2 : World.cell? w1 ⟨gX, 2, none⟩ = some (.int .u64 (aLo (a * num))) := oX.c 2 rfl
          have fX := oX.fr
          have lX := oX.lt
          have oY := nY
          clear nY
          have cY0 : World.cell? w1 ⟨gY, 0, none⟩ = some (.bool (negB (b * num))) := oY.c 0 rfl
          have cY1 : World.cell? w1 ⟨gY, 1, none⟩ = some (.int .u64 (aHi (b * num))) := oY.c 1 rfl
          have cY2 : World.cell? w1 ⟨gY, 2, none⟩ = some (.int .u64 (aLo (b * num))) := oY.c 2 rfl
          have fY := oY.fr
          have lY := oY.lt
          have oR := nR
          clear nR
          have cR0 : World.cell? w1 ⟨w.heap.size + 1, 0, none⟩ = some (.int .i64 (0)) := oR.c 0 rfl
          have cR1 : World.cell? w1 ⟨w.heap.size + 1, 1, none⟩ = some (.int .i64 (0)) := oR.c 1 rfl
          have fR := oR.fr
          have lR := oR.lt
          go_wp2_with fail
          clear fX lX fY lY fR lR cX0 cX1 cX2 cY0 cY1 cY2 cR0 cR1
          refine Reg.wp_chain (fun D v W => Below w.heap.size w W ∧ Blk W (gX) 77 #[Reg.sel (D 4) (.bool (negB (b * num))) (.bool (negB (-(a * num)))), Reg.sel (D 4) (.int .u64 (aHi (b * num))) (.int .u64 (aHi (-(a * num)))), Reg.sel (D 4) (.int .u64 (aLo (b * num))) (.int .u64 (aLo (-(a * num))))] ∧ Blk W (gY) 77 #[Reg.sel (D 5) (.bool (negB (a * num))) (.bool (negB (-(b * num)))), Reg.sel (D 5) (.int .u64 (aHi (a * num))) (.int .u64 (aHi (-(b * num)))), Reg.sel (D 5) (.int .u64 (aLo (a * num))) (.int .u64 (aLo (-(b * num))))] ∧ Blk W (w.heap.size + 1) 23 #[.int .i64 (0), .int .i64 (0)])
            (Reg.inl [1, 3, 4, 5]) (Reg.ge [(1, .agg #[.bool (negB (-(a * num))), .int .u64 (aHi (-(a * num))), .int .u64 (aLo (-(a * num)))]), (3, .agg #[.bool (negB (-(b * num))), .int .u64 (aHi (-(b * num))), .int .u64 (aLo (-(b * num)))])]) Reg.None_ (fun _ => Reg.Any) (fun _ _ => False) (Reg.pl []) (Reg.pl [(2, [4]), (0, [5])])
            (by kernel_rfl) (by kernel_rfl) (by kernel_rfl) (Reg.ge_some _) (fun v => ?_) (fun _ _ _ _ _ h => h) (fun _ _ _ _ _ _ _ _ _ _ _ _ _ => Reg.none_) (fun _ _ _ _ h => h.elim) (fun ops' Q' hops hQ => ?_)
          · exact ⟨(by first | with_reducible exact Below.drew B | with_reducible exact Below.drew (belowN B _) | (repeat' first | with_reducible assumption | with_reducible exact Below.refl _ _ | with_reducible refine Below.alloc ?_ ?_ _ | with_reducible refine Below.drew ?_ | with_reducible refine belowN ?_ _ | with_reducible refine Below.setCell ?_ ?_ _ | go_size)), (show Blk _ _ _ #[.bool (negB (b * num)), .int .u64 (aHi (b * num)), .int .u64 (aLo (b * num))] from (by first | with_reducible exact oX | (repeat' first | with_reducible assumption | (with_reducible refine Blk.new' ?_; first | with_reducible rfl | (simp only [World.size_alloc, World.size_setCell, World.size_drew]; done)) | with_reducible refine Blk.alloc ?_ _ | with_reducible refine Blk.drew ?_ | with_reducible refine Blk.drewN ?_ _ | with_reducible apply Blk.three | with_reducible apply Blk.both | with_reducible refine Blk.far' ?_ ?_ | (show _ ≠ _; omega)))), (show Blk _ _ _ #[.bool (negB (a * num)), .int .u64 (aHi (a * num)), .int .u64 (aLo (a * num))] from (by first | with_reducible exact oY | (repeat' first | with_reducible assumption | (with_reducible refine Blk.new' ?_; first | with_reducible rfl | (simp only [World.size_alloc, World.size_setCell, World.size_drew]; done)) | with_reducible refine Blk.alloc ?_ _ | with_reducible refine Blk.drew ?_ | with_reducible refine Blk.drewN ?_ _ | with_reducible apply Blk.three | with_reducible apply Blk.both | with_reducible refine Blk.far' ?_ ?_ | (show _ ≠ _; omega)))), (show Blk _ _ _ #[.int .i64 (0), .int .i64 (0)] from (by first | with_reducible exact oR | (repeat' first | with_reducible assumption | (with_reducible refine Blk.new' ?_; first | with_reducible rfl | (simp only [World.size_alloc, World.size_setCell, World.size_drew]; done)) | with_reducible refine Blk.alloc ?_ _ | with_reducible refine Blk.drew ?_ | with_reducible refine Blk.drewN ?_ _ | with_reducible apply Blk.three | with_reducible apply Blk.both | with_reducible refine Blk.far' ?_ ?_ | (show _ ≠ _; omega))))⟩
          clear B oX oY oR
          apply Reg.RC_pure (hc := rfl) (hst := rfl) (hw := rfl) (t := 34) (hd := rfl) (ht := Nat.le_of_ble_eq_true rfl)
          · intro D v W hc hj hf K hK
            obtain ⟨B, oX, oY, oR⟩ := hj
            have oY : Blk W (gY) 77 #[.bool (negB (a * num)), .int .u64 (aHi (a * num)), .int .u64 (aLo (a * num))] := by have o := oY; simp only [hc.2 5 (by decide), Reg.sel_false] at o; exact o
            have cY0 : World.cell? W ⟨gY, 0, none⟩ = some (.bool (negB (a * num))) := oY.c 0 rfl
            have cY1 : World.cell? W ⟨gY, 1, none⟩ = some (.int .u64 (aHi (a * num))) := oY.c 1 rfl
            have cY2 : World.cell? W ⟨gY, 2, none⟩ = some (.int .u64 (aLo (a * num))) := oY.c 2 rfl
            go_step
            exact hK.out
          · rfl
          refine Reg.RC_exact _ (fun _ h => h) rfl (by intro t ht; cases ht; exact Nat.le_of_ble_eq_true rfl) rfl (fun D v W hc hj hf K hK => ?_) (Reg.RC_at (b := ⟨#[_, _, _, _, _, _, _, _, _, _, _, _, _, _, _, _, _, _, _, _, _, _, _, _, _, _, _, _, _, _, _, _, _, _, _, _, _, _, _, _, _, _, _, _, _, _, _, _, _], []⟩) rfl ?_)
          · obtain ⟨B, oX, oY, oR⟩ := hj
            go_step
            refine (rturned _ _).mono ?_
            rintro e W' ⟨rfl, hb⟩
            have st : Steps W W' := hb
            exact hK.out _ _ Reg.any ⟨below_steps B (Nat.le_refl _) st, oX.steps st, oY.steps st, oR.steps st⟩ Reg.none_ rfl
          apply Reg.RC_pure (hc := rfl) (hst := rfl) (hw := rfl) (t := 36) (hd := rfl) (ht := Nat.le_of_ble_eq_true rfl)
          · intro D v W hc hj hf K hK
            obtain ⟨B, oX, oY, oR⟩ := hj
            have oX : Blk W (gX) 77 #[.bool (negB (b * num)), .int .u64 (aHi (b * num)), .int .u64 (aLo (b * num))] := by have o := oX; simp only [hc.2 4 (by decide), Reg.sel_false] at o; exact o
            have cX0 : World.cell? W ⟨gX, 0, none⟩ = some (.bool (negB (b * num))) := oX.c 0 rfl
            have cX1 : World.cell? W ⟨gX, 1, none⟩ = some (.int .u64 (aHi (b * num))) := oX.c 1 rfl
            have cX2 : World.cell? W ⟨gX, 2, none⟩ = some (.int .u64 (aLo (b * num))) := oX.c 2 rfl
            go_step
            exact hK.out
          · rfl
          refine Reg.RC_exact _ (fun _ h => h) rfl (by intro t ht; cases ht; exact Nat.le_of_ble_eq_true rfl) rfl (fun D v W hc hj hf K hK => ?_) (Reg.RC_at (b := ⟨#[_, _, _, _, _, _, _, _, _, _, _, _, _, _, _, _, _, _, _, _, _, _, _, _, _, _, _, _, _, _, _, _, _, _, _, _, _, _, _, _, _, _, _, _, _, _, _, _, _], []⟩) rfl ?_)
          · obtain ⟨B, oX, oY, oR⟩ := hj
            go_step
            refine (rturned _ _).mono ?_
            rintro e W' ⟨rfl, hb⟩
            have st : Steps W W' := hb
            exact hK.out _ _ Reg.any ⟨below_steps B (Nat.le_refl _) st, oX.steps st, oY.steps st, oR.steps st⟩ Reg.none_ rfl
          refine Reg.RC_call rfl (by intro t ht; cases ht) rfl (fun D v W hc hj hf K hK => ?_) (fun _ _ => Reg.RC_at (b := ⟨_, []⟩) rfl ?_)
          · obtain ⟨B, oX, oY, oR⟩ := hj
            have hs : D 4 = false := hc.1
            have oX : Blk W (gX) 77 #[.bool (negB (b * num)), .int .u64 (aHi (b * num)), .int .u64 (aLo (b * num))] := by have o := oX; simp only [hs, Reg.sel_false] at o; exact o
            have lX := oX.lt
            have fX := oX.fr
            have cX0 : World.cell? W ⟨gX, 0, none⟩ = some (.bool (negB (b * num))) := oX.c 0 rfl
            have cX1 : World.cell? W ⟨gX, 1, none⟩ = some (.int .u64 (aHi (b * num))) := oX.c 1 rfl
            have cX2 : World.cell? W ⟨gX, 2, none⟩ = some (.int .u64 (aLo (b * num))) := oX.c 2 rfl
            go_step
            exact hK.out undef _ Reg.any ⟨(by (repeat' first | with_reducible assumption | with_reducible exact Below.refl _ _ | with_reducible refine Below.alloc ?_ ?_ _ | with_reducible refine Below.drew ?_ | with_reducible refine belowN ?_ _ | with_reducible refine Below.setCell ?_ ?_ _ | go_size)), (show Blk _ _ _ #[.bool (negB (-(a * num))), .int .u64 (aHi (-(a * num))), .int .u64 (aLo (-(a * num)))] from (Blk.set2 (cs' := #[.bool (negB (-(a * num))), .int .u64 (aHi (-(a * num))), .int .u64 (aLo (-(a * num)))]) (Blk.set2 (cs' := #[.bool (negB (-(a * num))), .int .u64 (aHi (-(a * num))), .int .u64 (aLo (b * num))]) (Blk.set2 (cs' := #[.bool (negB (-(a * num))), .int .u64 (aHi (b * num)), .int .u64 (aLo (b * num))]) oX (i := 0) rfl) (i := 1) rfl) (i := 2) rfl)), (show Blk _ _ _ #[Reg.sel (D 5) (.bool (negB (a * num))) (.bool (negB (-(b * num)))), Reg.sel (D 5) (.int .u64 (aHi (a * num))) (.int .u64 (aHi (-(b * num)))), Reg.sel (D 5) (.int .u64 (aLo (a * num))) (.int .u64 (aLo (-(b * num))))] from (by (repeat' first | with_reducible assumption | (with_reducible refine Blk.new' ?_; first | with_reducible rfl | (simp only [World.size_alloc, World.size_setCell, World.size_drew]; done)) | with_reducible refine Blk.alloc ?_ _ | with_reducible refine Blk.drew ?_ | with_reducible refine Blk.drewN ?_ _ | with_reducible apply Blk.three | with_reducible apply Blk.both | with_reducible refine Blk.far' ?_ ?_ | (show _ ≠ _; omega)))), (show Blk _ _ _ #[.int .i64 (0), .int .i64 (0)] from (by (repeat' first | with_reducible assumption | (with_reducible refine Blk.new' ?_; first | with_reducible rfl | (simp only [World.size_alloc, World.size_setCell, World.size_drew]; done)) | with_reducible refine Blk.alloc ?_ _ | with_reducible refine Blk.drew ?_ | with_reducible refine Blk.drewN ?_ _ | with_reducible apply Blk.three | with_reducible apply Blk.both | with_reducible refine Blk.far' ?_ ?_ | (show _ ≠ _; omega))))⟩ Reg.none_ trivial
          refine Reg.RC_call rfl (by intro t ht; cases ht) rfl (fun D v W hc hj hf K hK => ?_) (fun _ _ => Reg.RC_at (b := ⟨_, []⟩) rfl ?_)
          · obtain ⟨B, oX, oY, oR⟩ := hj
            have hs : D 5 = false := hc.1
            have oY : Blk W (gY) 77 #[.bool (negB (a * num)), .int .u64 (aHi (a * num)), .int .u64 (aLo (a * num))] := by have o := oY; simp only [hs, Reg.sel_false] at o; exact o
            have lY := oY.lt
            have fY := oY.fr
            have cY0 : World.cell? W ⟨gY, 0, none⟩ = some (.bool (negB (a * num))) := oY.c 0 rfl
            have cY1 : World.cell? W ⟨gY, 1, none⟩ = some (.int .u64 (aHi (a * num))) := oY.c 1 rfl
            have cY2 : World.cell? W ⟨gY, 2, none⟩ = some (.int .u64 (aLo (a * num))) := oY.c 2 rfl
            go_step
            exact hK.out undef _ Reg.any ⟨(by (repeat' first | with_reducible assumption | with_reducible exact Below.refl _ _ | with_reducible refine Below.alloc ?_ ?_ _ | with_reducible refine Below.drew ?_ | with_reducible refine belowN ?_ _ | with_reducible refine Below.setCell ?_ ?_ _ | go_size)), (show Blk _ _ _ #[Reg.sel (D 4) (.bool (negB (b * num))) (.bool (negB (-(a * num)))), Reg.sel (D 4) (.int .u64 (aHi (b * num))) (.int .u64 (aHi (-(a * num)))), Reg.sel (D 4) (.int .u64 (aLo (b * num))) (.int .u64 (aLo (-(a * num))))] from (by (repeat' first | with_reducible assumption | (with_reducible refine Blk.new' ?_; first | with_reducible rfl | (simp only [World.size_alloc, World.size_setCell, World.size_drew]; done)) | with_reducible refine Blk.alloc ?_ _ | with_reducible refine Blk.drew ?_ | with_reducible refine Blk.drewN ?_ _ | with_reducible apply Blk.three | with_reducible apply Blk.both | with_reducible refine Blk.far' ?_ ?_ | (show _ ≠ _; omega)))), (show Blk _ _ _ #[.bool (negB (-(b * num))), .int .u64 (aHi (-(b * num))), .int .u64 (aLo (-(b * num)))] from (Blk.set2 (cs' := #[.bool (negB (-(b * num))), .int .u64 (aHi (-(b * num))), .int .u64 (aLo (-(b * num)))]) (Blk.set2 (cs' := #[.bool (negB (-(b * num))), .int .u64 (aHi (-(b * num))), .int .u64 (aLo (a * num))]) (Blk.set2 (cs' := #[.bool (negB (-(b * num))), .int .u64 (aHi (a * num)), .int .u64 (aLo (a * num))]) oY (i := 0) rfl) (i := 1) rfl) (i := 2) rfl)), (show Blk _ _ _ #[.int .i64 (0), .int .i64 (0)] from (by (repeat' first | with_reducible assumption | (with_reducible refine Blk.new' ?_; first | with_reducible rfl | (simp only [World.size_alloc, World.size_setCell, World.size_drew]; done)) | with_reducible refine Blk.alloc ?_ _ | with_reducible refine Blk.drew ?_ | with_reducible refine Blk.drewN ?_ _ | with_reducible apply Blk.three | with_reducible apply Blk.both | with_reducible refine Blk.far' ?_ ?_ | (show _ ≠ _; omega))))⟩ Reg.none_ trivial
          refine Reg.RC_end (fun D v W hd hj hf => ?_)
          obtain ⟨B, oX, oY, oR⟩ := hj
          have e4 : D 4 = true := hd 4 (by decide)
          have e5 : D 5 = true := hd 5 (by decide)
          have oX : Blk W (gX) 77 #[.bool (negB (-(a * num))), .int .u64 (aHi (-(a * num))), .int .u64 (aLo (-(a * num)))] := by have o := oX; simp only [e4, Reg.sel_true] at o; exact o
          have oY : Blk W (gY) 77 #[.bool (negB (-(b * num))), .int .u64 (aHi (-(b * num))), .int .u64 (aLo (-(b * num)))] := by have o := oY; simp only [e5, Reg.sel_true] at o; exact o
          clear e4 e5
          clear hd hf
          refine hQ _ _ ?_
          clear hQ hops Q' ops'
          repeat' (first | go_values | go_skip | go_guarded | go_step | go_upon)
          refine Reg.wp_chain (fun D v W => Below w.heap.size w W ∧ Blk W (gX) 77 #[.bool (negB (-(a * num))), .int .u64 (aHi (-(a * num))), .int .u64 (aLo (-(a * num)))] ∧ Blk W (gY) 77 #[.bool (negB (-(b * num))), .int .u64 (aHi (-(b * num))), .int .u64 (aLo (-(b * num)))] ∧ Blk W (w.heap.size + 1) 23 #[Reg.sel (D 11) (.int .i64 (0)) (.int .i64 ((md (dn (-(a * num)) (-den)) (upq (-(b * num)) (-den))).1)), Reg.sel (D 11) (.int .i64 (0)) (.int .i64 ((md (dn (-(a * num)) (-den)) (upq (-(b * num)) (-den))).2.1))])
            (Reg.inl [2, 3, 6, 7, 8, 11]) (Reg.ge [(2, .int .u64 (-den)), (3, .int .i64 (dn (-(a * num)) (-den))), (6, .int .u64 (-den)), (7, .int .i64 (upq (-(b * num)) (-den))), (8, .tuple #[.agg #[.int .i64 ((md (dn (-(a * num)) (-den)) (upq (-(b * num)) (-den))).1), .int .i64 ((md (dn (-(a * num)) (-den)) (upq (-(b * num)) (-den))).2.1)], .int .i64 ((md (dn (-(a * num)) (-den)) (upq (-(b * num)) (-den))).2.2)])]) Reg.None_ (fun _ => Reg.Any) (fun _ _ => False) (Reg.pl []) (Reg.pl [])
            (by kernel_rfl) (by kernel_rfl) (by kernel_rfl) (Reg.ge_some _) (fun v => ?_) (fun _ _ _ _ _ h => h) (fun _ _ _ _ _ _ _ _ _ _ _ _ _ => Reg.none_) (fun _ _ _ _ h => h.elim) (fun ops' Q' hops hQ => ?_)
          · exact ⟨(by first | with_reducible exact Below.drew B | with_reducible exact Below.drew (belowN B _) | (repeat' first | with_reducible assumption | with_reducible exact Below.refl _ _ | with_reducible refine Below.alloc ?_ ?_ _ | with_reducible refine Below.drew ?_ | with_reducible refine belowN ?_ _ | with_reducible refine Below.setCell ?_ ?_ _ | go_size)), (show Blk _ _ _ #[.bool (negB (-(a * num))), .int .u64 (aHi (-(a * num))), .int .u64 (aLo (-(a * num)))] from (by first | with_reducible exact oX | (repeat' first | with_reducible assumption | (with_reducible refine Blk.new' ?_; first | with_reducible rfl | (simp only [World.size_alloc, World.size_setCell, World.size_drew]; done)) | with_reducible refine Blk.alloc ?_ _ | with_reducible refine Blk.drew ?_ | with_reducible refine Blk.drewN ?_ _ | with_reducible apply Blk.three | with_reducible apply Blk.both | with_reducible refine Blk.far' ?_ ?_ | (show _ ≠ _; omega)))), (show Blk _ _ _ #[.bool (negB (-(b * num))), .int .u64 (aHi (-(b * num))), .int .u64 (aLo (-(b * num)))] from (by first | with_reducible exact oY | (repeat' first | with_reducible assumption | (with_reducible refine Blk.new' ?_; first | with_reducible rfl | (simp only [World.size_alloc, World.size_setCell, World.size_drew]; done)) | with_reducible refine Blk.alloc ?_ _ | with_reducible refine Blk.drew ?_ | with_reducible refine Blk.drewN ?_ _ | with_reducible apply Blk.three | with_reducible apply Blk.both | with_reducible refine Blk.far' ?_ ?_ | (show _ ≠ _; omega)))), (show Blk _ _ _ #[.int .i64 (0), .int .i64 (0)] from (by first | with_reducible exact oR | (repeat' first | with_reducible assumption | (with_reducible refine Blk.new' ?_; first | with_reducible rfl | (simp only [World.size_alloc, World.size_setCell, World.size_drew]; done)) | with_reducible refine Blk.alloc ?_ _ | with_reducible refine Blk.drew ?_ | with_reducible refine Blk.drewN ?_ _ | with_reducible apply Blk.three | with_reducible apply Blk.both | with_reducible refine Blk.far' ?_ ?_ | (show _ ≠ _; omega))))⟩
          clear B oX oY oR
          apply Reg.RC_pure (hc := rfl) (hst := rfl) (hw := rfl) (t := 38) (hd := rfl) (ht := Nat.le_of_ble_eq_true rfl)
          · intro D v W hc hj hf K hK
            obtain ⟨B, oX, oY, oR⟩ := hj
            have cX0 : World.cell? W ⟨gX, 0, none⟩ = some (.bool (negB (-(a * num)))) := oX.c 0 rfl
            have cX1 : World.cell? W ⟨gX, 1, none⟩ = some (.int .u64 (aHi (-(a * num)))) := oX.c 1 rfl
            have cX2 : World.cell? W ⟨gX, 2, none⟩ = some (.int .u64 (aLo (-(a * num)))) := oX.c 2 rfl
            go_step
            exact hK.out
          · rfl
          apply Reg.RC_pure (hc := rfl) (hst := rfl) (hw := rfl) (t := 39) (hd := rfl) (ht := Nat.le_of_ble_eq_true rfl)
          · intro D v W hc hj hf K hK
            go_step
            exact hK.out
          · rfl
          refine Reg.RC_exact _ (fun _ h => h) rfl (by intro t ht; cases ht; exact Nat.le_of_ble_eq_true rfl) rfl (fun D v W hc hj hf K hK => ?_) (Reg.RC_at (b := ⟨#[_, _, _, _, _, _, _, _, _, _, _, _, _, _, _, _, _, _, _, _, _, _, _, _, _, _, _, _, _, _, _, _, _, _, _, _, _, _, _, _, _, _, _, _, _, _, _, _, _], []⟩) rfl ?_)
          · obtain ⟨B, oX, oY, oR⟩ := hj
            go_step
            refine (rsize_b _ _ _ d0 d1 habs.out).mono ?_
            rintro e W' ⟨rfl, hb⟩
            have st : Steps W W' := hb
            exact hK.out _ _ Reg.any ⟨below_steps B (Nat.le_refl _) st, oX.steps st, oY.steps st, oR.steps st⟩ Reg.none_ rfl
          refine Reg.RC_exact _ (fun _ h => h) rfl (by intro t ht; cases ht; exact Nat.le_of_ble_eq_true rfl) rfl (fun D v W hc hj hf K hK => ?_) (Reg.RC_at (b := ⟨#[_, _, _, _, _, _, _, _, _, _, _, _, _, _, _, _, _, _, _, _, _, _, _, _, _, _, _, _, _, _, _, _, _, _, _, _, _, _, _, _, _, _, _, _, _, _, _, _, _], []⟩) rfl ?_)
          · obtain ⟨B, oX, oY, oR⟩ := hj
            go_step
            refine (rover_dn _ _ _ (by omega) (by omega) (by omega) (by omega)).mono ?_
            rintro e W' ⟨rfl, hb⟩
            have st : Steps W W' := hb
            exact hK.out _ _ Reg.any ⟨below_steps B (Nat.le_refl _) st, oX.steps st, oY.steps st, oR.steps st⟩ Reg.none_ rfl
          apply Reg.RC_pure (hc := rfl) (hst := rfl) (hw := rfl) (t := 42) (hd := rfl) (ht := Nat.le_of_ble_eq_true rfl)
          · intro D v W hc hj hf K hK
            obtain ⟨B, oX, oY, oR⟩ := hj
            have cY0 : World.cell? W ⟨gY, 0, none⟩ = some (.bool (negB (-(b * num)))) := oY.c 0 rfl
            have cY1 : World.cell? W ⟨gY, 1, none⟩ = some (.int .u64 (aHi (-(b * num)))) := oY.c 1 rfl
            have cY2 : World.cell? W ⟨gY, 2, none⟩ = some (.int .u64 (aLo (-(b * num)))) := oY.c 2 rfl
            go_step
            exact hK.out
          · rfl
          apply Reg.RC_pure (hc := rfl) (hst := rfl) (hw := rfl) (t := 43) (hd := rfl) (ht := Nat.le_of_ble_eq_true rfl)
          · intro D v W hc hj hf K hK
            go_step
            exact hK.out
          · rfl
          refine Reg.RC_exact _ (fun _ h => h) rfl (by intro t ht; cases ht; exact Nat.le_of_ble_eq_true rfl) rfl (fun D v W hc hj hf K hK => ?_) (Reg.RC_at (b := ⟨#[_, _, _, _, _, _, _, _, _, _, _, _, _, _, _, _, _, _, _, _, _, _, _, _, _, _, _, _, _, _, _, _, _, _, _, _, _, _, _, _, _, _, _, _, _, _, _, _, _], []⟩) rfl ?_)
          · obtain ⟨B, oX, oY, oR⟩ := hj
            go_step
            refine (rsize_b _ _ _ d0 d1 habs.out).mono ?_
            rintro e W' ⟨rfl, hb⟩
            have st : Steps W W' := hb
            exact hK.out _ _ Reg.any ⟨below_steps B (Nat.le_refl _) st, oX.steps st, oY.steps st, oR.steps st⟩ Reg.none_ rfl
          refine Reg.RC_exact _ (fun _ h => h) rfl (by intro t ht; cases ht; exact Nat.le_of_ble_eq_true rfl) rfl (fun D v W hc hj hf K hK => ?_) (Reg.RC_at (b := ⟨#[_, _, _, _, _, _, _, _, _, _, _, _, _, _, _, _, _, _, _, _, _, _, _, _, _, _, _, _, _, _, _, _, _, _, _, _, _, _, _, _, _, _, _, _, _, _, _, _, _], []⟩) rfl ?_)
          · obtain ⟨B, oX, oY, oR⟩ := hj
            go_step
            refine (rover_up _ _ _ (by omega) (by omega) (by omega) (by omega)).mono ?_
            rintro e W' ⟨rfl, hb⟩
            have st : Steps W W' := hb
            exact hK.out _ _ Reg.any ⟨below_steps B (Nat.le_refl _) st, oX.steps st, oY.steps st, oR.steps st⟩ Reg.none_ rfl
          refine Reg.RC_exact _ (fun _ h => h) rfl (by intro t ht; cases ht; exact Nat.le_of_ble_eq_true rfl) rfl (fun D v W hc hj hf K hK => ?_) (Reg.RC_at (b := ⟨#[_, _, _, _, _, _, _, _, _, _, _, _, _, _, _, _, _, _, _, _, _, _, _, _, _, _, _, _, _, _, _, _, _, _, _, _, _, _, _, _, _, _, _, _, _, _, _, _, _], []⟩) rfl ?_)
          · obtain ⟨B, oX, oY, oR⟩ := hj
            go_step
            refine (rmade _ _ _).mono ?_
            rintro e W' ⟨rfl, hb⟩
            have st : Steps W W' := hb
            exact hK.out _ _ Reg.any ⟨below_steps B (Nat.le_refl _) st, oX.steps st, oY.steps st, oR.steps st⟩ Reg.none_ rfl
          apply Reg.RC_pure (hc := rfl) (hst := rfl) (hw := rfl) (t := 47) (hd := rfl) (ht := Nat.le_of_ble_eq_true rfl)
          · intro D v W hc hj hf K hK
            go_step
            exact hK.out
          · rfl
          apply Reg.RC_pure (hc := rfl) (hst := rfl) (hw := rfl) (t := 48) (hd := rfl) (ht := Nat.le_of_ble_eq_true rfl)
          · intro D v W hc hj hf K hK
            go_step
            exact hK.out
          · rfl
          refine Reg.RC_call rfl (by intro t ht; cases ht) rfl (fun D v W hc hj hf K hK => ?_) (fun _ _ => Reg.RC_at (b := ⟨_, []⟩) rfl ?_)
          · obtain ⟨B, oX, oY, oR⟩ := hj
            have hs : D 11 = false := hc.1
            have oR : Blk W (w.heap.size + 1) 23 #[.int .i64 (0), .int .i64 (0)] := by have o := oR; simp only [hs, Reg.sel_false] at o; exact o
            have lR := oR.lt
            have fR := oR.fr
            have cR0 : World.cell? W ⟨w.heap.size + 1, 0, none⟩ = some (.int .i64 (0)) := oR.c 0 rfl
            have cR1 : World.cell? W ⟨w.heap.size + 1, 1, none⟩ = some (.int .i64 (0)) := oR.c 1 rfl
            go_step
            exact hK.out undef _ Reg.any ⟨(by (repeat' first | with_reducible assumption | with_reducible exact Below.refl _ _ | with_reducible refine Below.alloc ?_ ?_ _ | with_reducible refine Below.drew ?_ | with_reducible refine belowN ?_ _ | with_reducible refine Below.setCell ?_ ?_ _ | go_size)), (show Blk _ _ _ #[.bool (negB (-(a * num))), .int .u64 (aHi (-(a * num))), .int .u64 (aLo (-(a * num)))] from (by (repeat' first | with_reducible assumption | (with_reducible refine Blk.new' ?_; first | with_reducible rfl | (simp only [World.size_alloc, World.size_setCell, World.size_drew]; done)) | with_reducible refine Blk.alloc ?_ _ | with_reducible refine Blk.drew ?_ | with_reducible refine Blk.drewN ?_ _ | with_reducible apply Blk.three | with_reducible apply Blk.both | with_reducible refine Blk.far' ?_ ?_ | (show _ ≠ _; omega)))), (show Blk _ _ _ #[.bool (negB (-(b * num))), .int .u64 (aHi (-(b * num))), .int .u64 (aLo (-(b * num)))] from (by (repeat' first | with_reducible assumption | (with_reducible refine Blk.new' ?_; first | with_reducible rfl | (simp only [World.size_alloc, World.size_setCell, World.size_drew]; done)) | with_reducible refine Blk.alloc ?_ _ | with_reducible refine Blk.drew ?_ | with_reducible refine Blk.drewN ?_ _ | with_reducible apply Blk.three | with_reducible apply Blk.both | with_reducible refine Blk.far' ?_ ?_ | (show _ ≠ _; omega)))), (show Blk _ _ _ #[.int .i64 ((md (dn (-(a * num)) (-den)) (upq (-(b * num)) (-den))).1), .int .i64 ((md (dn (-(a * num)) (-den)) (upq (-(b * num)) (-den))).2.1)] from (Blk.set2 (cs' := #[.int .i64 ((md (dn (-(a * num)) (-den)) (upq (-(b * num)) (-den))).1), .int .i64 ((md (dn (-(a * num)) (-den)) (upq (-(b * num)) (-den))).2.1)]) (Blk.set2 (cs' := #[.int .i64 ((md (dn (-(a * num)) (-den)) (upq (-(b * num)) (-den))).1), .int .i64 (0)]) oR (i := 0) rfl) (i := 1) rfl))⟩ Reg.none_ trivial
          apply Reg.RC_pure (hc := rfl) (hst := rfl) (hw := rfl) (t := 7) (hd := rfl) (ht := Nat.le_of_ble_eq_true rfl)
          · intro D v W hc hj hf K hK
            go_step
            exact hK.out
          · rfl
          refine Reg.RC_end (fun D v W hd hj hf => ?_)
          obtain ⟨B, oX, oY, oR⟩ := hj
          have e11 : D 11 = true := hd 11 (by decide)
          have oR : Blk W (w.heap.size + 1) 23 #[.int .i64 ((md (dn (-(a * num)) (-den)) (upq (-(b * num)) (-den))).1), .int .i64 ((md (dn (-(a * num)) (-den)) (upq (-(b * num)) (-den))).2.1)] := by have o := oR; simp only [e11, Reg.sel_true] at o; exact o
          clear e11
          clear hd hf
          refine hQ _ _ ?_
          clear hQ hops Q' ops'
          have lR := oR.lt
          have cR0 := oR.c 0 rfl
          have cR1 := oR.c 1 rfl
          have fR := oR.fr
          repeat' (first | go_values | go_skip | go_guarded | go_step | go_upon)
          refine bodyPost_ret (by simp [results, Try.results17, go_sem, lR, cR0, cR1, fR]; rfl) rfl ?_
          show G3 w _ _ _
          rw [H.out]
          exact ⟨rfl, B⟩
        · have H : Hid (scaleS a b num den = md (dn (-(b * num)) (-den)) (upq (-(a * num)) (-den))) := by show scaleS a b num den = _; rw [H9]; unfold scaleV; rw [if_neg hz, if_pos hd]; exact md_args (by simp only [mn]; omega) (by simp only [mx]; omega)
          have D1 : Hid (decide (b * num < a * num) = false) := by show decide _ = _; simp <;> omega
          have s0 : -21267647932558653966460912964485513216 ≤ a * num := by omega
          have s1 : a * num ≤ 21267647932558653966460912964485513216 := by omega
          have s2 : -21267647932558653966460912964485513216 ≤ b * num := by omega
          have s3 : b * num ≤ 21267647932558653966460912964485513216 := by omega
          clear H9 hs p0 p1 p2 p3
          go_enter Try.func17, Try.ntmps17
          go_wp2_with fail
          refine (rcheck a b _).mono ?_
          rintro e w1 ⟨rfl, hb1⟩
          have st : Steps _ w1 := hb1
          have Bn : Below w.heap.size w w1 := below_steps (by (repeat' first | with_reducible assumption | with_reducible exact Below.refl _ _ | with_reducible refine Below.alloc ?_ ?_ _ | with_reducible refine Below.drew ?_ | with_reducible refine belowN ?_ _ | with_reducible refine Below.setCell ?_ ?_ _ | go_size)) (Nat.le_refl _) st
          have nA : Blk w1 (w.heap.size) 23 #[.int .i64 (a), .int .i64 (b)] := Blk.steps (by (repeat' first | with_reducible assumption | (with_reducible refine Blk.new' ?_; first | with_reducible rfl | (simp only [World.size_alloc, World.size_setCell, World.size_drew]; done)) | with_reducible refine Blk.alloc ?_ _ | with_reducible refine Blk.drew ?_ | with_reducible refine Blk.drewN ?_ _ | with_reducible apply Blk.three | with_reducible apply Blk.both | with_reducible refine Blk.far' ?_ ?_ | (show _ ≠ _; omega))) st
          have nR : Blk w1 (w.heap.size + 1) 23 #[.int .i64 (0), .int .i64 (0)] := Blk.steps (by (repeat' first | with_reducible assumption | (with_reducible refine Blk.new' ?_; first | with_reducible rfl | (simp only [World.size_alloc, World.size_setCell, World.size_drew]; done)) | with_reducible refine Blk.alloc ?_ _ | with_reducible refine Blk.drew ?_ | with_reducible refine Blk.drewN ?_ _ | with_reducible apply Blk.three | with_reducible apply Blk.both | with_reducible refine Blk.far' ?_ ?_ | (show _ ≠ _; omega))) st
          clear st
          have B := Bn
          clear Bn
          have oA := nA
          clear nA
          have cA0 : World.cell? w1 ⟨w.heap.size, 0, none⟩ = some (.int .i64 (a)) := oA.c 0 rfl
          have cA1 : World.cell? w1 ⟨w.heap.size, 1, none⟩ = some (.int .i64 (b)) := oA.c 1 rfl
          have fA := oA.fr
          have lA := oA.lt
          have oR := nR
          clear nR
          have cR0 : World.cell? w1 ⟨w.heap.size + 1, 0, none⟩ = some (.int .i64 (0)) := oR.c 0 rfl
          have cR1 : World.cell? w1 ⟨w.heap.size + 1, 1, none⟩ = some (.int .i64 (0)) := oR.c 1 rfl
          have fR := oR.fr
          have lR := oR.lt
          rw [H1.out]
          go_wp2_with fail
          clear cA0 cA1 fA lA cR0 cR1 fR lR
          refine Reg.wp_chain_n (fun N0 => fun D v W => Below w.heap.size w W ∧ Blk W (w.heap.size) 23 #[.int .i64 (a), .int .i64 (b)] ∧ Blk W (w.heap.size + 1) 23 #[.int .i64 (0), .int .i64 (0)] ∧ (D 8 = true → ∃ g : Nat, v 8 = .pointer (some ⟨g, 0, none⟩) ∧ N0 ≤ g ∧ Blk W g 77 #[Reg.sel (D 10) (.bool false) (.bool (negB (a * num))), Reg.sel (D 10) (.int .u64 0) (.int .u64 (aHi (a * num))), Reg.sel (D 10) (.int .u64 0) (.int .u64 (aLo (a * num)))]) ∧ (D 9 = true → ∃ g : Nat, v 9 = .pointer (some ⟨g, 0, none⟩) ∧ N0 ≤ g ∧ Blk W g 77 #[Reg.sel (D 11) (.bool false) (.bool (negB (b * num))), Reg.sel (D 11) (.int .u64 0) (.int .u64 (aHi (b * num))), Reg.sel (D 11) (.int .u64 0) (.int .u64 (aLo (b * num)))]) ∧ (D 8 = true → D 9 = true → v 8 ≠ v 9) ∧ N0 ≤ W.heap.size)
            (Reg.inl [3, 7, 8, 9, 10, 11]) (Reg.gv [(3, fun x => x = .agg #[.bool (negB (a * num)), .int .u64 (aHi (a * num)), .int .u64 (aLo (a * num))]), (7, fun x => x = .agg #[.bool (negB (b * num)), .int .u64 (aHi (b * num)), .int .u64 (aLo (b * num))]), (8, fun x => ∃ g : Nat, x = .pointer (some ⟨g, 0, none⟩)), (9, fun x => ∃ g : Nat, x = .pointer (some ⟨g, 0, none⟩))]) Reg.None_ (fun _ => Reg.Any) (fun _ _ => False) (Reg.pl [(10, [(8, some 8)]), (11, [(9, some 9)]), (12, [(8, some 8), (9, some 9)])]) (Reg.pl [(8, [10]), (9, [11])])
            (by kernel_rfl) (by kernel_rfl) (by kernel_rfl) (Reg.gv_some _ (fun p hp => by simp only [List.mem_cons, List.not_mem_nil, or_false] at hp; rcases hp with rfl | rfl | rfl | rfl; exact ⟨_, rfl⟩; exact ⟨_, rfl⟩; exact ⟨_, 0, rfl⟩; exact ⟨_, 0, rfl⟩)) (fun N0 hN0 => ⟨fun v => ?_, (fun D v v' W hv hj => ?_), fun _ _ _ _ _ _ _ _ _ _ _ _ _ => Reg.none_, fun _ _ _ _ h => h.elim, fun ops' Q' hops hQ => ?_⟩)
          · exact ⟨(by first | with_reducible exact Below.drew B | with_reducible exact Below.drew (belowN B _) | (repeat' first | with_reducible assumption | with_reducible exact Below.refl _ _ | with_reducible refine Below.alloc ?_ ?_ _ | with_reducible refine Below.drew ?_ | with_reducible refine belowN ?_ _ | with_reducible refine Below.setCell ?_ ?_ _ | go_size)), (show Blk _ _ _ #[.int .i64 (a), .int .i64 (b)] from (by first | with_reducible exact oA | (repeat' first | with_reducible assumption | (with_reducible refine Blk.new' ?_; first | with_reducible rfl | (simp only [World.size_alloc, World.size_setCell, World.size_drew]; done)) | with_reducible refine Blk.alloc ?_ _ | with_reducible refine Blk.drew ?_ | with_reducible refine Blk.drewN ?_ _ | with_reducible apply Blk.three | with_reducible apply Blk.both | with_reducible refine Blk.far' ?_ ?_ | (show _ ≠ _; omega)))), (show Blk _ _ _ #[.int .i64 (0), .int .i64 (0)] from (by first | with_reducible exact oR | (repeat' first | with_reducible assumption | (with_reducible refine Blk.new' ?_; first | with_reducible rfl | (simp only [World.size_alloc, World.size_setCell, World.size_drew]; done)) | with_reducible refine Blk.alloc ?_ _ | with_reducible refine Blk.drew ?_ | with_reducible refine Blk.drewN ?_ _ | with_reducible apply Blk.three | with_reducible apply Blk.both | with_reducible refine Blk.far' ?_ ?_ | (show _ ≠ _; omega)))), (fun h => by cases h), (fun h => by cases h), (fun h => by cases h), (Nat.le_of_eq hN0.out)⟩
          · obtain ⟨B, oA, oR, pa8, pa9, q8_9, zN0⟩ := hj
            exact ⟨B, oA, oR, (fun h => hv 8 h ▸ pa8 h), (fun h => hv 9 h ▸ pa9 h), (fun h h' => hv 8 h ▸ hv 9 h' ▸ q8_9 h h'), zN0⟩
          have iA : w.heap.size < N0 := by have h := oA.lt; have e := hN0.out; (try simp only [World.size_alloc, World.size_setCell, World.size_drew, World.heap_drewN] at e); omega
          have iR : w.heap.size + 1 < N0 := by have h := oR.lt; have e := hN0.out; (try simp only [World.size_alloc, World.size_setCell, World.size_drew, World.heap_drewN] at e); omega
          have uN0 : w.heap.size ≤ N0 := by have h := Below.size B; have e := hN0.out; (try simp only [World.size_alloc, World.size_setCell, World.size_drew, World.heap_drewN] at e); (try simp only [World.size_alloc, World.size_setCell, World.size_drew, World.heap_drewN] at h); omega
          clear B oA oR hN0
          apply Reg.RC_pure (hc := rfl) (hst := rfl) (hw := rfl) (t := 19) (hd := rfl) (ht := Nat.le_of_ble_eq_true rfl)
          · intro D v W hc hj hf K hK
            go_step
            exact hK.out
          · rfl
          apply Reg.RC_pure (hc := rfl) (hst := rfl) (hw := rfl) (t := 20) (hd := rfl) (ht := Nat.le_of_ble_eq_true rfl)
          · intro D v W hc hj hf K hK
            obtain ⟨B, oA, oR, pa8, pa9, q8_9, zN0⟩ := hj
            have cA0 : World.cell? W ⟨w.heap.size, 0, none⟩ = some (.int .i64 (a)) := oA.c 0 rfl
            have cA1 : World.cell? W ⟨w.heap.size, 1, none⟩ = some (.int .i64 (b)) := oA.c 1 rfl
            go_step
            exact hK.out
          · rfl
          apply Reg.RC_pure (hc := rfl) (hst := rfl) (hw := rfl) (t := 21) (hd := rfl) (ht := Nat.le_of_ble_eq_true rfl)
          · intro D v W hc hj hf K hK
            go_step
            exact hK.out
          · rfl
          refine Reg.RC_call rfl (by intro t ht; cases ht; exact Nat.le_of_ble_eq_true rfl) rfl (fun D v W hc hj hf K hK => ?_) (fun x hx => ?_)
          · obtain ⟨B, oA, oR, pa8, pa9, q8_9, zN0⟩ := hj
            go_step
            refine (rtimes_b _ _ _ (by omega) (by omega) (by omega) (by omega)).mono ?_
            rintro e W' ⟨rfl, hb⟩
            have st : Steps W W' := hb
            exact hK.out _ _ Reg.any ⟨below_steps B (Nat.le_refl _) st, oA.steps st, oR.steps st, (fun h => let ⟨g, h1, h2, h3⟩ := pa8 h; ⟨g, h1, h2, h3.steps st⟩), (fun h => let ⟨g, h1, h2, h3⟩ := pa9 h; ⟨g, h1, h2, h3.steps st⟩), (fun h h' => q8_9 h h'), (Nat.le_trans zN0 st.size)⟩ Reg.none_ rfl
          have hx : x = .agg #[.bool (negB (a * num)), .int .u64 (aHi (a * num)), .int .u64 (aLo (a * num))] := hx
          subst hx
          refine Reg.RC_at (b := ⟨#[_, _, _, _, _, _, _, _, _, _, _, _, _, _, _, _, _, _, _, _, _, _, _, _, _, _, _, _, _, _, _, _, _, _, _, _, _, _, _, _, _, _, _, _, _, _, _, _, _], []⟩) rfl ?_
          apply Reg.RC_pure (hc := rfl) (hst := rfl) (hw := rfl) (t := 23) (hd := rfl) (ht := Nat.le_of_ble_eq_true rfl)
          · intro D v W hc hj hf K hK
            go_step
            exact hK.out
          · rfl
          apply Reg.RC_pure (hc := rfl) (hst := rfl) (hw := rfl) (t := 24) (hd := rfl) (ht := Nat.le_of_ble_eq_true rfl)
          · intro D v W hc hj hf K hK
            obtain ⟨B, oA, oR, pa8, pa9, q8_9, zN0⟩ := hj
            have cA0 : World.cell? W ⟨w.heap.size, 0, none⟩ = some (.int .i64 (a)) := oA.c 0 rfl
            have cA1 : World.cell? W ⟨w.heap.size, 1, none⟩ = some (.int .i64 (b)) := oA.c 1 rfl
            go_step
            exact hK.out
          · rfl
          apply Reg.RC_pure (hc := rfl) (hst := rfl) (hw := rfl) (t := 25) (hd := rfl) (ht := Nat.le_of_ble_eq_true rfl)
          · intro D v W hc hj hf K hK
            go_step
            exact hK.out
          · rfl
          refine Reg.RC_call rfl (by intro t ht; cases ht; exact Nat.le_of_ble_eq_true rfl) rfl (fun D v W hc hj hf K hK => ?_) (fun x hx => ?_)
          · obtain ⟨B, oA, oR, pa8, pa9, q8_9, zN0⟩ := hj
            go_step
            refine (rtimes_b _ _ _ (by omega) (by omega) (by omega) (by omega)).mono ?_
            rintro e W' ⟨rfl, hb⟩
            have st : Steps W W' := hb
            exact hK.out _ _ Reg.any ⟨below_steps B (Nat.le_refl _) st, oA.steps st, oR.steps st, (fun h => let ⟨g, h1, h2, h3⟩ := pa8 h; ⟨g, h1, h2, h3.steps st⟩), (fun h => let ⟨g, h1, h2, h3⟩ := pa9 h; ⟨g, h1, h2, h3.steps st⟩), (fun h h' => q8_9 h h'), (Nat.le_trans zN0 st.size)⟩ Reg.none_ rfl
          have hx : x = .agg #[.bool (negB (b * num)), .int .u64 (aHi (b * num)), .int .u64 (aLo (b * num))] := hx
          subst hx
          refine Reg.RC_at (b := ⟨#[_, _, _, _, _, _, _, _, _, _, _, _, _, _, _, _, _, _, _, _, _, _, _, _, _, _, _, _, _, _, _, _, _, _, _, _, _, _, _, _, _, _, _, _, _, _, _, _, _], []⟩) rfl ?_
          refine Reg.RC_call rfl (by intro t ht; cases ht; exact Nat.le_of_ble_eq_true rfl) rfl (fun D v W hc hj hf K hK => ?_) (fun x hx => ?_)
          · obtain ⟨B, oA, oR, pa8, pa9, q8_9, zN0⟩ := hj
            have hs : D 10 = false := hc.2 10 (.head _)
            go_step
            exact hK.out _ _ Reg.any ⟨Below.alloc B B.size _, oA.alloc _, oR.alloc _, (fun _ => ⟨W.heap.size, rfl, zN0, (by show Blk _ _ _ #[Reg.sel (D 10) (.bool false) (.bool (negB (a * num))), Reg.sel (D 10) (.int .u64 0) (.int .u64 (aHi (a * num))), Reg.sel (D 10) (.int .u64 0) (.int .u64 (aLo (a * num)))]; simp only [hs, Reg.sel_false]; exact Blk.new W _ _)⟩), (fun h => let ⟨g, h1, h2, h3⟩ := pa9 h; ⟨g, h1, h2, h3.alloc _⟩), (fun _ h' => let ⟨g, h1, _, h3⟩ := pa9 h'; fun e => Reg.ptr_ne h3.lt (e.trans h1)), (Nat.le_trans zN0 (by rw [World.size_alloc]; exact Nat.le_succ _))⟩ Reg.none_ ⟨_, rfl⟩
          obtain ⟨gX, hx⟩ : ∃ g : Nat, x = .pointer (some ⟨g, 0, none⟩) := hx
          subst hx
          refine Reg.RC_at (b := ⟨#[_, _, _, _, _, _, _, _, _, _, _, _, _, _, _, _, _, _, _, _, _, _, _, _, _, _, _, _, _, _, _, _, _, _, _, _, _, _, _, _, _, _, _, _, _, _, _, _, _], []⟩) rfl ?_
          refine Reg.RC_call rfl (by intro t ht; cases ht; exact Nat.le_of_ble_eq_true rfl) rfl (fun D v W hc hj hf K hK => ?_) (fun x hx => ?_)
          · obtain ⟨B, oA, oR, pa8, pa9, q8_9, zN0⟩ := hj
            have hs : D 11 = false := hc.2 11 (.head _)
            go_step
            exact hK.out _ _ Reg.any ⟨Below.alloc B B.size _, oA.alloc _, oR.alloc _, (fun h => let ⟨g, h1, h2, h3⟩ := pa8 h; ⟨g, h1, h2, h3.alloc _⟩), (fun _ => ⟨W.heap.size, rfl, zN0, (by show Blk _ _ _ #[Reg.sel (D 11) (.bool false) (.bool (negB (b * num))), Reg.sel (D 11) (.int .u64 0) (.int .u64 (aHi (b * num))), Reg.sel (D 11) (.int .u64 0) (.int .u64 (aLo (b * num)))]; simp only [hs, Reg.sel_false]; exact Blk.new W _ _)⟩), (fun h _ => let ⟨g, h1, _, h3⟩ := pa8 h; fun e => Reg.ptr_ne h3.lt (e.symm.trans h1)), (Nat.le_trans zN0 (by rw [World.size_alloc]; exact Nat.le_succ _))⟩ Reg.none_ ⟨_, rfl⟩
          obtain ⟨gY, hx⟩ : ∃ g : Nat, x = .pointer (some ⟨g, 0, none⟩) := hx
          subst hx
          refine Reg.RC_at (b := ⟨#[_, _, _, _, _, _, _, _, _, _, _, _, _, _, _, _, _, _, _, _, _, _, _, _, _, _, _, _, _, _, _, _, _, _, _, _, _, _, _, _, _, _, _, _, _, _, _, _, _], []⟩) rfl ?_
          refine Reg.RC_call rfl (by intro t ht; cases ht) rfl (fun D v W hc hj hf K hK => ?_) (fun _ _ => Reg.RC_at (b := ⟨_, []⟩) rfl ?_)
          · obtain ⟨B, oA, oR, pa8, pa9, q8_9, zN0⟩ := hj
            have hs : D 10 = false := hc.1
            obtain ⟨hd, he, -⟩ := hf (8, some 8) (.head _) rfl
            obtain ⟨g, h1, h2, h3⟩ := pa8 hd
            obtain rfl : gX = g := Reg.ptr_eq ((show v 8 = Value.pointer (some ⟨gX, 0, none⟩) from he).symm.trans h1)
            have oo : Blk W gX 77 #[.bool false, .int .u64 0, .int .u64 0] := by have o := h3; simp only [hs, Reg.sel_false] at o; exact o
            have cc0 : World.cell? W ⟨gX, 0, none⟩ = some (.bool false) := oo.c 0 rfl
            have cc1 : World.cell? W ⟨gX, 1, none⟩ = some (.int .u64 0) := oo.c 1 rfl
            have cc2 : World.cell? W ⟨gX, 2, none⟩ = some (.int .u64 0) := oo.c 2 rfl
            have ff := oo.fr
            have ll := oo.lt
            go_step
            have nn := h2
            exact hK.out undef _ Reg.any ⟨(by (repeat' first | with_reducible assumption | with_reducible exact Below.refl _ _ | with_reducible refine Below.alloc ?_ ?_ _ | with_reducible refine Below.drew ?_ | with_reducible refine belowN ?_ _ | with_reducible refine Below.setCell ?_ ?_ _ | go_size)), (show Blk _ _ _ #[.int .i64 (a), .int .i64 (b)] from (by (repeat' first | with_reducible assumption | (with_reducible refine Blk.new' ?_; first | with_reducible rfl | (simp only [World.size_alloc, World.size_setCell, World.size_drew]; done)) | with_reducible refine Blk.alloc ?_ _ | with_reducible refine Blk.drew ?_ | with_reducible refine Blk.drewN ?_ _ | with_reducible apply Blk.three | with_reducible apply Blk.both | with_reducible refine Blk.far' ?_ ?_ | (show _ ≠ _; omega)))), (show Blk _ _ _ #[.int .i64 (0), .int .i64 (0)] from (by (repeat' first | with_reducible assumption | (with_reducible refine Blk.new' ?_; first | with_reducible rfl | (simp only [World.size_alloc, World.size_setCell, World.size_drew]; done)) | with_reducible refine Blk.alloc ?_ _ | with_reducible refine Blk.drew ?_ | with_reducible refine Blk.drewN ?_ _ | with_reducible apply Blk.three | with_reducible apply Blk.both | with_reducible refine Blk.far' ?_ ?_ | (show _ ≠ _; omega)))), (fun _ => ⟨gX, h1, h2, (show Blk _ _ _ #[.bool (negB (a * num)), .int .u64 (aHi (a * num)), .int .u64 (aLo (a * num))] from (Blk.set2 (cs' := #[.bool (negB (a * num)), .int .u64 (aHi (a * num)), .int .u64 (aLo (a * num))]) (Blk.set2 (cs' := #[.bool (negB (a * num)), .int .u64 (aHi (a * num)), .int .u64 0]) (Blk.set2 (cs' := #[.bool (negB (a * num)), .int .u64 0, .int .u64 0]) oo (i := 0) rfl) (i := 1) rfl) (i := 2) rfl))⟩), (fun h => let ⟨g', h1', h2', h3'⟩ := pa9 h; have hne : g' ≠ gX := (fun e => q8_9 hd h (h1.trans ((congrArg (fun n => Value.pointer (some ⟨n, 0, none⟩)) e.symm).trans h1'.symm))); ⟨g', h1', h2', (show Blk _ _ _ #[Reg.sel (D 11) (.bool false) (.bool (negB (b * num))), Reg.sel (D 11) (.int .u64 0) (.int .u64 (aHi (b * num))), Reg.sel (D 11) (.int .u64 0) (.int .u64 (aLo (b * num)))] from (by (repeat' first | with_reducible assumption | (with_reducible refine Blk.new' ?_; first | with_reducible rfl | (simp only [World.size_alloc, World.size_setCell, World.size_drew]; done)) | with_reducible refine Blk.alloc ?_ _ | with_reducible refine Blk.drew ?_ | with_reducible refine Blk.drewN ?_ _ | with_reducible apply Blk.three | with_reducible apply Blk.both | with_reducible refine Blk.far' ?_ ?_ | (show _ ≠ _; omega))))⟩), (fun h h' => q8_9 h h'), (by simpa using zN0)⟩ Reg.none_ trivial
          refine Reg.RC_call rfl (by intro t ht; cases ht) rfl (fun D v W hc hj hf K hK => ?_) (fun _ _ => Reg.RC_at (b := ⟨_, []⟩) rfl ?_)
          · obtain ⟨B, oA, oR, pa8, pa9, q8_9, zN0⟩ := hj
            have hs : D 11 = false := hc.1
            obtain ⟨hd, he, -⟩ := hf (9, some 9) (.head _) rfl
            obtain ⟨g, h1, h2, h3⟩ := pa9 hd
            obtain rfl : gY = g := Reg.ptr_eq ((show v 9 = Value.pointer (some ⟨gY, 0, none⟩) from he).symm.trans h1)
            have oo : Blk W gY 77 #[.bool false, .int .u64 0, .int .u64 0] := by have o := h3; simp only [hs, Reg.sel_false] at o; exact o
            have cc0 : World.cell? W ⟨gY, 0, none⟩ = some (.bool false) := oo.c 0 rfl
            have cc1 : World.cell? W ⟨gY, 1, none⟩ = some (.int .u64 0) := oo.c 1 rfl
            have cc2 : World.cell? W ⟨gY, 2, none⟩ = some (.int .u64 0) := oo.c 2 rfl
            have ff := oo.fr
            have ll := oo.lt
            go_step
            have nn := h2
            exact hK.out undef _ Reg.any ⟨(by (repeat' first | with_reducible assumption | with_reducible exact Below.refl _ _ | with_reducible refine Below.alloc ?_ ?_ _ | with_reducible refine Below.drew ?_ | with_reducible refine belowN ?_ _ | with_reducible refine Below.setCell ?_ ?_ _ | go_size)), (show Blk _ _ _ #[.int .i64 (a), .int .i64 (b)] from (by (repeat' first | with_reducible assumption | (with_reducible refine Blk.new' ?_; first | with_reducible rfl | (simp only [World.size_alloc, World.size_setCell, World.size_drew]; done)) | with_reducible refine Blk.alloc ?_ _ | with_reducible refine Blk.drew ?_ | with_reducible refine Blk.drewN ?_ _ | with_reducible apply Blk.three | with_reducible apply Blk.both | with_reducible refine Blk.far' ?_ ?_ | (show _ ≠ _; omega)))), (show Blk _ _ _ #[.int .i64 (0), .int .i64 (0)] from (by (repeat' first | with_reducible assumption | (with_reducible refine Blk.new' ?_; first | with_reducible rfl | (simp only [World.size_alloc, World.size_setCell, World.size_drew]; done)) | with_reducible refine Blk.alloc ?_ _ | with_reducible refine Blk.drew ?_ | with_reducible refine Blk.drewN ?_ _ | with_reducible apply Blk.three | with_reducible apply Blk.both | with_reducible refine Blk.far' ?_ ?_ | (show _ ≠ _; omega)))), (fun h => let ⟨g', h1', h2', h3'⟩ := pa8 h; have hne : g' ≠ gY := (fun e => q8_9 h hd (h1'.trans ((congrArg (fun n => Value.pointer (some ⟨n, 0, none⟩)) e).trans h1.symm))); ⟨g', h1', h2', (show Blk _ _ _ #[Reg.sel (D 10) (.bool false) (.bool (negB (a * num))), Reg.sel (D 10) (.int .u64 0) (.int .u64 (aHi (a * num))), Reg.sel (D 10) (.int .u64 0) (.int .u64 (aLo (a * num)))] from (by (repeat' first | with_reducible assumption | (with_reducible refine Blk.new' ?_; first | with_reducible rfl | (simp only [World.size_alloc, World.size_setCell, World.size_drew]; done)) | with_reducible refine Blk.alloc ?_ _ | with_reducible refine Blk.drew ?_ | with_reducible refine Blk.drewN ?_ _ | with_reducible apply Blk.three | with_reducible apply Blk.both | with_reducible refine Blk.far' ?_ ?_ | (show _ ≠ _; omega))))⟩), (fun _ => ⟨gY, h1, h2, (show Blk _ _ _ #[.bool (negB (b * num)), .int .u64 (aHi (b * num)), .int .u64 (aLo (b * num))] from (Blk.set2 (cs' := #[.bool (negB (b * num)), .int .u64 (aHi (b * num)), .int .u64 (aLo (b * num))]) (Blk.set2 (cs' := #[.bool (negB (b * num)), .int .u64 (aHi (b * num)), .int .u64 0]) (Blk.set2 (cs' := #[.bool (negB (b * num)), .int .u64 0, .int .u64 0]) oo (i := 0) rfl) (i := 1) rfl) (i := 2) rfl))⟩), (fun h h' => q8_9 h h'), (by simpa using zN0)⟩ Reg.none_ trivial
          refine Reg.RC_end (fun D v W hd hj hf => ?_)
          obtain ⟨B, oA, oR, pa8, pa9, q8_9, zN0⟩ := hj
          obtain ⟨-, he, -⟩ := hf (8, some 8) (.head _) rfl
          obtain ⟨g, h1, hXn, h3⟩ := pa8 (hd 8 (by decide))
          obtain rfl : gX = g := Reg.ptr_eq ((show v 8 = Value.pointer (some ⟨gX, 0, none⟩) from he).symm.trans h1)
          have oX : Blk W gX 77 #[.bool (negB (a * num)), .int .u64 (aHi (a * num)), .int .u64 (aLo (a * num))] := by have o := h3; simp only [hd 10 (by decide), Reg.inl, Reg.sel_true] at o; exact o
          have lowX : w.heap.size ≤ gX := Nat.le_trans uN0 hXn
          have sAX : w.heap.size ≠ gX := by have := iA; have := hXn; omega
          have sRX : w.heap.size + 1 ≠ gX := by have := iR; have := hXn; omega
          have he8 := h1
          clear he h1 h3 pa8 hXn
          obtain ⟨-, he, -⟩ := hf (9, some 9) (.tail _ (.head _)) rfl
          obtain ⟨g, h1, hYn, h3⟩ := pa9 (hd 9 (by decide))
          obtain rfl : gY = g := Reg.ptr_eq ((show v 9 = Value.pointer (some ⟨gY, 0, none⟩) from he).symm.trans h1)
          have oY : Blk W gY 77 #[.bool (negB (b * num)), .int .u64 (aHi (b * num)), .int .u64 (aLo (b * num))] := by have o := h3; simp only [hd 11 (by decide), Reg.inl, Reg.sel_true] at o; exact o
          have lowY : w.heap.size ≤ gY := Nat.le_trans uN0 hYn
          have sAY : w.heap.size ≠ gY := by have := iA; have := hYn; omega
          have sRY : w.heap.size + 1 ≠ gY := by have := iR; have := hYn; omega
          have he9 := h1
          clear he h1 h3 pa9 hYn
          have nXY : gX ≠ gY := fun e => q8_9 (hd 8 (by decide)) (hd 9 (by decide)) (he8.trans ((congrArg (fun n => Value.pointer (some ⟨n, 0, none⟩)) e).trans he9.symm))
          have nYX : gY ≠ gX := Ne.symm nXY
          clear he8 he9 zN0 uN0
          clear hd hf q8_9 iA iR
          refine hQ _ _ ?_
          clear hQ hops Q' ops'
          have nX := Blk.ne_ oX oR (by decide)
          have nY := Blk.ne_ oY oR (by decide)
          have lX := oX.lt
          have fX := oX.fr
          have cX0 := oX.c 0 rfl
          have cX1 := oX.c 1 rfl
          have cX2 := oX.c 2 rfl
          have lY := oY.lt
          have fY := oY.fr
          have cY0 := oY.c 0 rfl
          have cY1 := oY.c 1 rfl
          have cY2 := oY.c 2 rfl
          go_wp2_with fail
          refine (rless_q _ _ _ _ D1.out).mono ?_
          rintro e w1 ⟨rfl, hb1⟩
          have st : Steps _ w1 := hb1
          have Bn : Below w.heap.size w w1 := below_steps (by (repeat' first | with_reducible assumption | with_reducible exact Below.refl _ _ | with_reducible refine Below.alloc ?_ ?_ _ | with_reducible refine Below.drew ?_ | with_reducible refine belowN ?_ _ | with_reducible refine Below.setCell ?_ ?_ _ | go_size)) (Nat.le_refl _) st
          have nX : Blk w1 (gX) 77 #[.bool (negB (a * num)), .int .u64 (aHi (a * num)), .int .u64 (aLo (a * num))] := Blk.steps (by (repeat' first | with_reducible assumption | (with_reducible refine Blk.new' ?_; first | with_reducible rfl | (simp only [World.size_alloc, World.size_setCell, World.size_drew]; done)) | with_reducible refine Blk.alloc ?_ _ | with_reducible refine Blk.drew ?_ | with_reducible refine Blk.drewN ?_ _ | with_reducible apply Blk.three | with_reducible apply Blk.both | with_reducible refine Blk.far' ?_ ?_ | (show _ ≠ _; omega))) st
          have nY : Blk w1 (gY) 77 #[.bool (negB (b * num)), .int .u64 (aHi (b * num)), .int .u64 (aLo (b * num))] := Blk.steps (by (repeat' first | with_reducible assumption | (with_reducible refine Blk.new' ?_; first | with_reducible rfl | (simp only [World.size_alloc, World.size_setCell, World.size_drew]; done)) | with_reducible refine Blk.alloc ?_ _ | with_reducible refine Blk.drew ?_ | with_reducible refine Blk.drewN ?_ _ | with_reducible apply Blk.three | with_reducible apply Blk.both | with_reducible refine Blk.far' ?_ ?_ | (show _ ≠ _; omega))) st
          have nR : Blk w1 (w.heap.size + 1) 23 #[.int .i64 (0), .int .i64 (0)] := Blk.steps (by (repeat' first | with_reducible assumption | (with_reducible refine Blk.new' ?_; first | with_reducible rfl | (simp only [World.size_alloc, World.size_setCell, World.size_drew]; done)) | with_reducible refine Blk.alloc ?_ _ | with_reducible refine Blk.drew ?_ | with_reducible refine Blk.drewN ?_ _ | with_reducible apply Blk.three | with_reducible apply Blk.both | with_reducible refine Blk.far' ?_ ?_ | (show _ ≠ _; omega))) st
          clear B oX oY oR lX fX lY fY cX0 cX1 cX2 cY0 cY1 cY2
          clear st
          have B := Bn
          clear Bn
          have oX := nX
          clear nX
          have cX0 : World.cell? w1 ⟨gX, 0, none⟩ = some (.bool (negB (a * num))) := oX.c 0 rfl
          have cX1 : World.cell? w1 ⟨gX, 1, none⟩ = some (.int .u64 (aHi (a * num))) := oX.c 1 rfl
          have cX2 : World.cell? w1 ⟨gX, 2, none⟩ = some (.int .u64 (aLo (a * num))) := oX.c 2 rfl
          have fX := oX.fr
          have lX := oX.lt
          have oY := nY
          clear nY
          have cY0 : World.cell? w1 ⟨gY, 0, none⟩ = some (.bool (negB (b * num))) := oY.c 0 rfl
          have cY1 : World.cell? w1 ⟨gY, 1, none⟩ = some (.int .u64 (aHi (b * num))) := oY.c 1 rfl
          have cY2 : World.cell? w1 ⟨gY, 2, none⟩ = some (.int .u64 (aLo (b * num))) := oY.c 2 rfl
          have fY := oY.fr
          have lY := oY.lt
          have oR := nR
          clear nR
          have cR0 : World.cell? w1 ⟨w.heap.size + 1, 0, none⟩ = some (.int .i64 (0)) := oR.c 0 rfl
          have cR1 : World.cell? w1 ⟨w.heap.size + 1, 1, none⟩ = some (.int .i64 (0)) := oR.c 1 rfl
          have fR := oR.fr
          have lR := oR.lt
          go_wp2_with fail
          clear fX lX fY lY fR lR cX0 cX1 cX2 cY0 cY1 cY2 cR0 cR1
          refine Reg.wp_chain (fun D v W => Below w.heap.size w W ∧ Blk W (gX) 77 #[Reg.sel (D 4) (.bool (negB (a * num))) (.bool (negB (-(b * num)))), Reg.sel (D 4) (.int .u64 (aHi (a * num))) (.int .u64 (aHi (-(b * num)))), Reg.sel (D 4) (.int .u64 (aLo (a * num))) (.int .u64 (aLo (-(b * num))))] ∧ Blk W (gY) 77 #[Reg.sel (D 5) (.bool (negB (b * num))) (.bool (negB (-(a * num)))), Reg.sel (D 5) (.int .u64 (aHi (b * num))) (.int .u64 (aHi (-(a * num)))), Reg.sel (D 5) (.int .u64 (aLo (b * num))) (.int .u64 (aLo (-(a * num))))] ∧ Blk W (w.heap.size + 1) 23 #[.int .i64 (0), .int .i64 (0)])
            (Reg.inl [1, 3, 4, 5]) (Reg.ge [(1, .agg #[.bool (negB (-(b * num))), .int .u64 (aHi (-(b * num))), .int .u64 (aLo (-(b * num)))]), (3, .agg #[.bool (negB (-(a * num))), .int .u64 (aHi (-(a * num))), .int .u64 (aLo (-(a * num)))])]) Reg.None_ (fun _ => Reg.Any) (fun _ _ => False) (Reg.pl []) (Reg.pl [(2, [4]), (0, [5])])
            (by kernel_rfl) (by kernel_rfl) (by kernel_rfl) (Reg.ge_some _) (fun v => ?_) (fun _ _ _ _ _ h => h) (fun _ _ _ _ _ _ _ _ _ _ _ _ _ => Reg.none_) (fun _ _ _ _ h => h.elim) (fun ops' Q' hops hQ => ?_)
          · exact ⟨(by first | with_reducible exact Below.drew B | with_reducible exact Below.drew (belowN B _) | (repeat' first | with_reducible assumption | with_reducible exact Below.refl _ _ | with_reducible refine Below.alloc ?_ ?_ _ | with_reducible refine Below.drew ?_ | with_reducible refine belowN ?_ _ | with_reducible refine Below.setCell ?_ ?_ _ | go_size)), (show Blk _ _ _ #[.bool (negB (a * num)), .int .u64 (aHi (a * num)), .int .u64 (aLo (a * num))] from (by first | with_reducible exact oX | (repeat' first | with_reducible assumption | (with_reducible refine Blk.new' ?_; first | with_reducible rfl | (simp only [World.size_alloc, World.size_setCell, World.size_drew]; done)) | with_reducible refine Blk.alloc ?_ _ | with_reducible refine Blk.drew ?_ | with_reducible refine Blk.drewN ?_ _ | with_reducible apply Blk.three | with_reducible apply Blk.both | with_reducible refine Blk.far' ?_ ?_ | (show _ ≠ _; omega)))), (show Blk _ _ _ #[.bool (negB (b * num)), .int .u64 (aHi (b * num)), .int .u64 (aLo (b * num))] from (by first | with_reducible exact oY | (repeat' first | with_reducible assumption | (with_reducible refine Blk.new' ?_; first | with_reducible rfl | (simp only [World.size_alloc, World.size_setCell, World.size_drew]; done)) | with_reducible refine Blk.alloc ?_ _ | with_reducible refine Blk.drew ?_ | with_reducible refine Blk.drewN ?_ _ | with_reducible apply Blk.three | with_reducible apply Blk.both | with_reducible refine Blk.far' ?_ ?_ | (show _ ≠ _; omega)))), (show Blk _ _ _ #[.int .i64 (0), .int .i64 (0)] from (by first | with_reducible exact oR | (repeat' first | with_reducible assumption | (with_reducible refine Blk.new' ?_; first | with_reducible rfl | (simp only [World.size_alloc, World.size_setCell, World.size_drew]; done)) | with_reducible refine Blk.alloc ?_ _ | with_reducible refine Blk.drew ?_ | with_reducible refine Blk.drewN ?_ _ | with_reducible apply Blk.three | with_reducible apply Blk.both | with_reducible refine Blk.far' ?_ ?_ | (show _ ≠ _; omega))))⟩
          clear B oX oY oR
          apply Reg.RC_pure (hc := rfl) (hst := rfl) (hw := rfl) (t := 34) (hd := rfl) (ht := Nat.le_of_ble_eq_true rfl)
          · intro D v W hc hj hf K hK
            obtain ⟨B, oX, oY, oR⟩ := hj
            have oY : Blk W (gY) 77 #[.bool (negB (b * num)), .int .u64 (aHi (b * num)), .int .u64 (aLo (b * num))] := by have o := oY; simp only [hc.2 5 (by decide), Reg.sel_false] at o; exact o
            have cY0 : World.cell? W ⟨gY, 0, none⟩ = some (.bool (negB (b * num))) := oY.c 0 rfl
            have cY1 : World.cell? W ⟨gY, 1, none⟩ = some (.int .u64 (aHi (b * num))) := oY.c 1 rfl
            have cY2 : World.cell? W ⟨gY, 2, none⟩ = some (.int .u64 (aLo (b * num))) := oY.c 2 rfl
            go_step
            exact hK.out
          · rfl
          refine Reg.RC_exact _ (fun _ h => h) rfl (by intro t ht; cases ht; exact Nat.le_of_ble_eq_true rfl) rfl (fun D v W hc hj hf K hK => ?_) (Reg.RC_at (b := ⟨#[_, _, _, _, _, _, _, _, _, _, _, _, _, _, _, _, _, _, _, _, _, _, _, _, _, _, _, _, _, _, _, _, _, _, _, _, _, _, _, _, _, _, _, _, _, _, _, _, _], []⟩) rfl ?_)
          · obtain ⟨B, oX, oY, oR⟩ := hj
            go_step
            refine (rturned _ _).mono ?_
            rintro e W' ⟨rfl, hb⟩
            have st : Steps W W' := hb
            exact hK.out _ _ Reg.any ⟨below_steps B (Nat.le_refl _) st, oX.steps st, oY.steps st, oR.steps st⟩ Reg.none_ rfl
          apply Reg.RC_pure (hc := rfl) (hst := rfl) (hw := rfl) (t := 36) (hd := rfl) (ht := Nat.le_of_ble_eq_true rfl)
          · intro D v W hc hj hf K hK
            obtain ⟨B, oX, oY, oR⟩ := hj
            have oX : Blk W (gX) 77 #[.bool (negB (a * num)), .int .u64 (aHi (a * num)), .int .u64 (aLo (a * num))] := by have o := oX; simp only [hc.2 4 (by decide), Reg.sel_false] at o; exact o
            have cX0 : World.cell? W ⟨gX, 0, none⟩ = some (.bool (negB (a * num))) := oX.c 0 rfl
            have cX1 : World.cell? W ⟨gX, 1, none⟩ = some (.int .u64 (aHi (a * num))) := oX.c 1 rfl
            have cX2 : World.cell? W ⟨gX, 2, none⟩ = some (.int .u64 (aLo (a * num))) := oX.c 2 rfl
            go_step
            exact hK.out
          · rfl
          refine Reg.RC_exact _ (fun _ h => h) rfl (by intro t ht; cases ht; exact Nat.le_of_ble_eq_true rfl) rfl (fun D v W hc hj hf K hK => ?_) (Reg.RC_at (b := ⟨#[_, _, _, _, _, _, _, _, _, _, _, _, _, _, _, _, _, _, _, _, _, _, _, _, _, _, _, _, _, _, _, _, _, _, _, _, _, _, _, _, _, _, _, _, _, _, _, _, _], []⟩) rfl ?_)
          · obtain ⟨B, oX, oY, oR⟩ := hj
            go_step
            refine (rturned _ _).mono ?_
            rintro e W' ⟨rfl, hb⟩
            have st : Steps W W' := hb
            exact hK.out _ _ Reg.any ⟨below_steps B (Nat.le_refl _) st, oX.steps st, oY.steps st, oR.steps st⟩ Reg.none_ rfl
          refine Reg.RC_call rfl (by intro t ht; cases ht) rfl (fun D v W hc hj hf K hK => ?_) (fun _ _ => Reg.RC_at (b := ⟨_, []⟩) rfl ?_)
          · obtain ⟨B, oX, oY, oR⟩ := hj
            have hs : D 4 = false := hc.1
            have oX : Blk W (gX) 77 #[.bool (negB (a * num)), .int .u64 (aHi (a * num)), .int .u64 (aLo (a * num))] := by have o := oX; simp only [hs, Reg.sel_false] at o; exact o
            have lX := oX.lt
            have fX := oX.fr
            have cX0 : World.cell? W ⟨gX, 0, none⟩ = some (.bool (negB (a * num))) := oX.c 0 rfl
            have cX1 : World.cell? W ⟨gX, 1, none⟩ = some (.int .u64 (aHi (a * num))) := oX.c 1 rfl
            have cX2 : World.cell? W ⟨gX, 2, none⟩ = some (.int .u64 (aLo (a * num))) := oX.c 2 rfl
            go_step
            exact hK.out undef _ Reg.any ⟨(by (repeat' first | with_reducible assumption | with_reducible exact Below.refl _ _ | with_reducible refine Below.alloc ?_ ?_ _ | with_reducible refine Below.drew ?_ | with_reducible refine belowN ?_ _ | with_reducible refine Below.setCell ?_ ?_ _ | go_size)), (show Blk _ _ _ #[.bool (negB (-(b * num))), .int .u64 (aHi (-(b * num))), .int .u64 (aLo (-(b * num)))] from (Blk.set2 (cs' := #[.bool (negB (-(b * num))), .int .u64 (aHi (-(b * num))), .int .u64 (aLo (-(b * num)))]) (Blk.set2 (cs' := #[.bool (negB (-(b * num))), .int .u64 (aHi (-(b * num))), .int .u64 (aLo (a * num))]) (Blk.set2 (cs' := #[.bool (negB (-(b * num))), .int .u64 (aHi (a * num)), .int .u64 (aLo (a * num))]) oX (i := 0) rfl) (i := 1) rfl) (i := 2) rfl)), (show Blk _ _ _ #[Reg.sel (D 5) (.bool (negB (b * num))) (.bool (negB (-(a * num)))), Reg.sel (D 5) (.int .u64 (aHi (b * num))) (.int .u64 (aHi (-(a * num)))), Reg.sel (D 5) (.int .u64 (aLo (b * num))) (.int .u64 (aLo (-(a * num))))] from (by (repeat' first | with_reducible assumption | (with_reducible refine Blk.new' ?_; first | with_reducible rfl | (simp only [World.size_alloc, World.size_setCell, World.size_drew]; done)) | with_reducible refine Blk.alloc ?_ _ | with_reducible refine Blk.drew ?_ | with_reducible refine Blk.drewN ?_ _ | with_reducible apply Blk.three | with_reducible apply Blk.both | with_reducible refine Blk.far' ?_ ?_ | (show _ ≠ _; omega)))), (show Blk _ _ _ #[.int .i64 (0), .int .i64 (0)] from (by (repeat' first | with_reducible assumption | (with_reducible refine Blk.new' ?_; first | with_reducible rfl | (simp only [World.size_alloc, World.size_setCell, World.size_drew]; done)) | with_reducible refine Blk.alloc ?_ _ | with_reducible refine Blk.drew ?_ | with_reducible refine Blk.drewN ?_ _ | with_reducible apply Blk.three | with_reducible apply Blk.both | with_reducible refine Blk.far' ?_ ?_ | (show _ ≠ _; omega))))⟩ Reg.none_ trivial
          refine Reg.RC_call rfl (by intro t ht; cases ht) rfl (fun D v W hc hj hf K hK => ?_) (fun _ _ => Reg.RC_at (b := ⟨_, []⟩) rfl ?_)
          · obtain ⟨B, oX, oY, oR⟩ := hj
            have hs : D 5 = false := hc.1
            have oY : Blk W (gY) 77 #[.bool (negB (b * num)), .int .u64 (aHi (b * num)), .int .u64 (aLo (b * num))] := by have o := oY; simp only [hs, Reg.sel_false] at o; exact o
            have lY := oY.lt
            have fY := oY.fr
            have cY0 : World.cell? W ⟨gY, 0, none⟩ = some (.bool (negB (b * num))) := oY.c 0 rfl
            have cY1 : World.cell? W ⟨gY, 1, none⟩ = some (.int .u64 (aHi (b * num))) := oY.c 1 rfl
            have cY2 : World.cell? W ⟨gY, 2, none⟩ = some (.int .u64 (aLo (b * num))) := oY.c 2 rfl
            go_step
            exact hK.out undef _ Reg.any ⟨(by (repeat' first | with_reducible assumption | with_reducible exact Below.refl _ _ | with_reducible refine Below.alloc ?_ ?_ _ | with_reducible refine Below.drew ?_ | with_reducible refine belowN ?_ _ | with_reducible refine Below.setCell ?_ ?_ _ | go_size)), (show Blk _ _ _ #[Reg.sel (D 4) (.bool (negB (a * num))) (.bool (negB (-(b * num)))), Reg.sel (D 4) (.int .u64 (aHi (a * num))) (.int .u64 (aHi (-(b * num)))), Reg.sel (D 4) (.int .u64 (aLo (a * num))) (.int .u64 (aLo (-(b * num))))] from (by (repeat' first | with_reducible assumption | (with_reducible refine Blk.new' ?_; first | with_reducible rfl | (simp only [World.size_alloc, World.size_setCell, World.size_drew]; done)) | with_reducible refine Blk.alloc ?_ _ | with_reducible refine Blk.drew ?_ | with_reducible refine Blk.drewN ?_ _ | with_reducible apply Blk.three | with_reducible apply Blk.both | with_reducible refine Blk.far' ?_ ?_ | (show _ ≠ _; omega)))), (show Blk _ _ _ #[.bool (negB (-(a * num))), .int .u64 (aHi (-(a * num))), .int .u64 (aLo (-(a * num)))] from (Blk.set2 (cs' := #[.bool (negB (-(a * num))), .int .u64 (aHi (-(a * num))), .int .u64 (aLo (-(a * num)))]) (Blk.set2 (cs' := #[.bool (negB (-(a * num))), .int .u64 (aHi (-(a * num))), .int .u64 (aLo (b * num))]) (Blk.set2 (cs' := #[.bool (negB (-(a * num))), .int .u64 (aHi (b * num)), .int .u64 (aLo (b * num))]) oY (i := 0) rfl) (i := 1) rfl) (i := 2) rfl)), (show Blk _ _ _ #[.int .i64 (0), .int .i64 (0)] from (by (repeat' first | with_reducible assumption | (with_reducible refine Blk.new' ?_; first | with_reducible rfl | (simp only [World.size_alloc, World.size_setCell, World.size_drew]; done)) | with_reducible refine Blk.alloc ?_ _ | with_reducible refine Blk.drew ?_ | with_reducible refine Blk.drewN ?_ _ | with_reducible apply Blk.three | with_reducible apply Blk.both | with_reducible refine Blk.far' ?_ ?_ | (show _ ≠ _; omega))))⟩ Reg.none_ trivial
          refine Reg.RC_end (fun D v W hd hj hf => ?_)
          obtain ⟨B, oX, oY, oR⟩ := hj
          have e4 : D 4 = true := hd 4 (by decide)
          have e5 : D 5 = true := hd 5 (by decide)
          have oX : Blk W (gX) 77 #[.bool (negB (-(b * num))), .int .u64 (aHi (-(b * num))), .int .u64 (aLo (-(b * num)))] := by have o := oX; simp only [e4, Reg.sel_true] at o; exact o
          have oY : Blk W (gY) 77 #[.bool (negB (-(a * num))), .int .u64 (aHi (-(a * num))), .int .u64 (aLo (-(a * num)))] := by have o := oY; simp only [e5, Reg.sel_true] at o; exact o
          clear e4 e5
          clear hd hf
          refine hQ _ _ ?_
          clear hQ hops Q' ops'
          repeat' (first | go_values | go_skip | go_guarded | go_step | go_upon)
          refine Reg.wp_chain (fun D v W => Below w.heap.size w W ∧ Blk W (gX) 77 #[.bool (negB (-(b * num))), .int .u64 (aHi (-(b * num))), .int .u64 (aLo (-(b * num)))] ∧ Blk W (gY) 77 #[.bool (negB (-(a * num))), .int .u64 (aHi (-(a * num))), .int .u64 (aLo (-(a * num)))] ∧ Blk W (w.heap.size + 1) 23 #[Reg.sel (D 11) (.int .i64 (0)) (.int .i64 ((md (dn (-(b * num)) (-den)) (upq (-(a * num)) (-den))).1)), Reg.sel (D 11) (.int .i64 (0)) (.int .i64 ((md (dn (-(b * num)) (-den)) (upq (-(a * num)) (-den))).2.1))])
            (Reg.inl [2, 3, 6, 7, 8, 11]) (Reg.ge [(2, .int .u64 (-den)), (3, .int .i64 (dn (-(b * num)) (-den))), (6, .int .u64 (-den)), (7, .int .i64 (upq (-(a * num)) (-den))), (8, .tuple #[.agg #[.int .i64 ((md (dn (-(b * num)) (-den)) (upq (-(a * num)) (-den))).1), .int .i64 ((md (dn (-(b * num)) (-den)) (upq (-(a * num)) (-den))).2.1)], .int .i64 ((md (dn (-(b * num)) (-den)) (upq (-(a * num)) (-den))).2.2)])]) Reg.None_ (fun _ => Reg.Any) (fun _ _ => False) (Reg.pl []) (Reg.pl [])
            (by kernel_rfl) (by kernel_rfl) (by kernel_rfl) (Reg.ge_some _) (fun v => ?_) (fun _ _ _ _ _ h => h) (fun _ _ _ _ _ _ _ _ _ _ _ _ _ => Reg.none_) (fun _ _ _ _ h => h.elim) (fun ops' Q' hops hQ => ?_)
          · exact ⟨(by first | with_reducible exact Below.drew B | with_reducible exact Below.drew (belowN B _) | (repeat' first | with_reducible assumption | with_reducible exact Below.refl _ _ | with_reducible refine Below.alloc ?_ ?_ _ | with_reducible refine Below.drew ?_ | with_reducible refine belowN ?_ _ | with_reducible refine Below.setCell ?_ ?_ _ | go_size)), (show Blk _ _ _ #[.bool (negB (-(b * num))), .int .u64 (aHi (-(b * num))), .int .u64 (aLo (-(b * num)))] from (by first | with_reducible exact oX | (repeat' first | with_reducible assumption | (with_reducible refine Blk.new' ?_; first | with_reducible rfl | (simp only [World.size_alloc, World.size_setCell, World.size_drew]; done)) | with_reducible refine Blk.alloc ?_ _ | with_reducible refine Blk.drew ?_ | with_reducible refine Blk.drewN ?_ _ | with_reducible apply Blk.three | with_reducible apply Blk.both | with_reducible refine Blk.far' ?_ ?_ | (show _ ≠ _; omega)))), (show Blk _ _ _ #[.bool (negB (-(a * num))), .int .u64 (aHi (-(a * num))), .int .u64 (aLo (-(a * num)))] from (by first | with_reducible exact oY | (repeat' first | with_reducible assumption | (with_reducible refine Blk.new' ?_; first | with_reducible rfl | (simp only [World.size_alloc, World.size_setCell, World.size_drew]; done)) | with_reducible refine Blk.alloc ?_ _ | with_reducible refine Blk.drew ?_ | with_reducible refine Blk.drewN ?_ _ | with_reducible apply Blk.three | with_reducible apply Blk.both | with_reducible refine Blk.far' ?_ ?_ | (show _ ≠ _; omega)))), (show Blk _ _ _ #[.int .i64 (0), .int .i64 (0)] from (by first | with_reducible exact oR | (repeat' first | with_reducible assumption | (with_reducible refine Blk.new' ?_; first | with_reducible rfl | (simp only [World.size_alloc, World.size_setCell, World.size_drew]; done)) | with_reducible refine Blk.alloc ?_ _ | with_reducible refine Blk.drew ?_ | with_reducible refine Blk.drewN ?_ _ | with_reducible apply Blk.three | with_reducible apply Blk.both | with_reducible refine Blk.far' ?_ ?_ | (show _ ≠ _; omega))))⟩
          clear B oX oY oR
          apply Reg.RC_pure (hc := rfl) (hst := rfl) (hw := rfl) (t := 38) (hd := rfl) (ht := Nat.le_of_ble_eq_true rfl)
          · intro D v W hc hj hf K hK
            obtain ⟨B, oX, oY, oR⟩ := hj
            have cX0 : World.cell? W ⟨gX, 0, none⟩ = some (.bool (negB (-(b * num)))) := oX.c 0 rfl
            have cX1 : World.cell? W ⟨gX, 1, none⟩ = some (.int .u64 (aHi (-(b * num)))) := oX.c 1 rfl
            have cX2 : World.cell? W ⟨gX, 2, none⟩ = some (.int .u64 (aLo (-(b * num)))) := oX.c 2 rfl
            go_step
            exact hK.out
          · rfl
          apply Reg.RC_pure (hc := rfl) (hst := rfl) (hw := rfl) (t := 39) (hd := rfl) (ht := Nat.le_of_ble_eq_true rfl)
          · intro D v W hc hj hf K hK
            go_step
            exact hK.out
          · rfl
          refine Reg.RC_exact _ (fun _ h => h) rfl (by intro t ht; cases ht; exact Nat.le_of_ble_eq_true rfl) rfl (fun D v W hc hj hf K hK => ?_) (Reg.RC_at (b := ⟨#[_, _, _, _, _, _, _, _, _, _, _, _, _, _, _, _, _, _, _, _, _, _, _, _, _, _, _, _, _, _, _, _, _, _, _, _, _, _, _, _, _, _, _, _, _, _, _, _, _], []⟩) rfl ?_)
          · obtain ⟨B, oX, oY, oR⟩ := hj
            go_step
            refine (rsize_b _ _ _ d0 d1 habs.out).mono ?_
            rintro e W' ⟨rfl, hb⟩
            have st : Steps W W' := hb
            exact hK.out _ _ Reg.any ⟨below_steps B (Nat.le_refl _) st, oX.steps st, oY.steps st, oR.steps st⟩ Reg.none_ rfl
          refine Reg.RC_exact _ (fun _ h => h) rfl (by intro t ht; cases ht; exact Nat.le_of_ble_eq_true rfl) rfl (fun D v W hc hj hf K hK => ?_) (Reg.RC_at (b := ⟨#[_, _, _, _, _, _, _, _, _, _, _, _, _, _, _, _, _, _, _, _, _, _, _, _, _, _, _, _, _, _, _, _, _, _, _, _, _, _, _, _, _, _, _, _, _, _, _, _, _], []⟩) rfl ?_)
          · obtain ⟨B, oX, oY, oR⟩ := hj
            go_step
            refine (rover_dn _ _ _ (by omega) (by omega) (by omega) (by omega)).mono ?_
            rintro e W' ⟨rfl, hb⟩
            have st : Steps W W' := hb
            exact hK.out _ _ Reg.any ⟨below_steps B (Nat.le_refl _) st, oX.steps st, oY.steps st, oR.steps st⟩ Reg.none_ rfl
          apply Reg.RC_pure (hc := rfl) (hst := rfl) (hw := rfl) (t := 42) (hd := rfl) (ht := Nat.le_of_ble_eq_true rfl)
          · intro D v W hc hj hf K hK
            obtain ⟨B, oX, oY, oR⟩ := hj
            have cY0 : World.cell? W ⟨gY, 0, none⟩ = some (.bool (negB (-(a * num)))) := oY.c 0 rfl
            have cY1 : World.cell? W ⟨gY, 1, none⟩ = some (.int .u64 (aHi (-(a * num)))) := oY.c 1 rfl
            have cY2 : World.cell? W ⟨gY, 2, none⟩ = some (.int .u64 (aLo (-(a * num)))) := oY.c 2 rfl
            go_step
            exact hK.out
          · rfl
          apply Reg.RC_pure (hc := rfl) (hst := rfl) (hw := rfl) (t := 43) (hd := rfl) (ht := Nat.le_of_ble_eq_true rfl)
          · intro D v W hc hj hf K hK
            go_step
            exact hK.out
          · rfl
          refine Reg.RC_exact _ (fun _ h => h) rfl (by intro t ht; cases ht; exact Nat.le_of_ble_eq_true rfl) rfl (fun D v W hc hj hf K hK => ?_) (Reg.RC_at (b := ⟨#[_, _, _, _, _, _, _, _, _, _, _, _, _, _, _, _, _, _, _, _, _, _, _, _, _, _, _, _, _, _, _, _, _, _, _, _, _, _, _, _, _, _, _, _, _, _, _, _, _], []⟩) rfl ?_)
          · obtain ⟨B, oX, oY, oR⟩ := hj
            go_step
            refine (rsize_b _ _ _ d0 d1 habs.out).mono ?_
            rintro e W' ⟨rfl, hb⟩
            have st : Steps W W' := hb
            exact hK.out _ _ Reg.any ⟨below_steps B (Nat.le_refl _) st, oX.steps st, oY.steps st, oR.steps st⟩ Reg.none_ rfl
          refine Reg.RC_exact _ (fun _ h => h) rfl (by intro t ht; cases ht; exact Nat.le_of_ble_eq_true rfl) rfl (fun D v W hc hj hf K hK => ?_) (Reg.RC_at (b := ⟨#[_, _, _, _, _, _, _, _, _, _, _, _, _, _, _, _, _, _, _, _, _, _, _, _, _, _, _, _, _, _, _, _, _, _, _, _, _, _, _, _, _, _, _, _, _, _, _, _, _], []⟩) rfl ?_)
          · obtain ⟨B, oX, oY, oR⟩ := hj
            go_step
            refine (rover_up _ _ _ (by omega) (by omega) (by omega) (by omega)).mono ?_
            rintro e W' ⟨rfl, hb⟩
            have st : Steps W W' := hb
            exact hK.out _ _ Reg.any ⟨below_steps B (Nat.le_refl _) st, oX.steps st, oY.steps st, oR.steps st⟩ Reg.none_ rfl
          refine Reg.RC_exact _ (fun _ h => h) rfl (by intro t ht; cases ht; exact Nat.le_of_ble_eq_true rfl) rfl (fun D v W hc hj hf K hK => ?_) (Reg.RC_at (b := ⟨#[_, _, _, _, _, _, _, _, _, _, _, _, _, _, _, _, _, _, _, _, _, _, _, _, _, _, _, _, _, _, _, _, _, _, _, _, _, _, _, _, _, _, _, _, _, _, _, _, _], []⟩) rfl ?_)
          · obtain ⟨B, oX, oY, oR⟩ := hj
            go_step
            refine (rmade _ _ _).mono ?_
            rintro e W' ⟨rfl, hb⟩
            have st : Steps W W' := hb
            exact hK.out _ _ Reg.any ⟨below_steps B (Nat.le_refl _) st, oX.steps st, oY.steps st, oR.steps st⟩ Reg.none_ rfl
          apply Reg.RC_pure (hc := rfl) (hst := rfl) (hw := rfl) (t := 47) (hd := rfl) (ht := Nat.le_of_ble_eq_true rfl)
          · intro D v W hc hj hf K hK
            go_step
            exact hK.out
          · rfl
          apply Reg.RC_pure (hc := rfl) (hst := rfl) (hw := rfl) (t := 48) (hd := rfl) (ht := Nat.le_of_ble_eq_true rfl)
          · intro D v W hc hj hf K hK
            go_step
            exact hK.out
          · rfl
          refine Reg.RC_call rfl (by intro t ht; cases ht) rfl (fun D v W hc hj hf K hK => ?_) (fun _ _ => Reg.RC_at (b := ⟨_, []⟩) rfl ?_)
          · obtain ⟨B, oX, oY, oR⟩ := hj
            have hs : D 11 = false := hc.1
            have oR : Blk W (w.heap.size + 1) 23 #[.int .i64 (0), .int .i64 (0)] := by have o := oR; simp only [hs, Reg.sel_false] at o; exact o
            have lR := oR.lt
            have fR := oR.fr
            have cR0 : World.cell? W ⟨w.heap.size + 1, 0, none⟩ = some (.int .i64 (0)) := oR.c 0 rfl
            have cR1 : World.cell? W ⟨w.heap.size + 1, 1, none⟩ = some (.int .i64 (0)) := oR.c 1 rfl
            go_step
            exact hK.out undef _ Reg.any ⟨(by (repeat' first | with_reducible assumption | with_reducible exact Below.refl _ _ | with_reducible refine Below.alloc ?_ ?_ _ | with_reducible refine Below.drew ?_ | with_reducible refine belowN ?_ _ | with_reducible refine Below.setCell ?_ ?_ _ | go_size)), (show Blk _ _ _ #[.bool (negB (-(b * num))), .int .u64 (aHi (-(b * num))), .int .u64 (aLo (-(b * num)))] from (by (repeat' first | with_reducible assumption | (with_reducible refine Blk.new' ?_; first | with_reducible rfl | (simp only [World.size_alloc, World.size_setCell, World.size_drew]; done)) | with_reducible refine Blk.alloc ?_ _ | with_reducible refine Blk.drew ?_ | with_reducible refine Blk.drewN ?_ _ | with_reducible apply Blk.three | with_reducible apply Blk.both | with_reducible refine Blk.far' ?_ ?_ | (show _ ≠ _; omega)))), (show Blk _ _ _ #[.bool (negB (-(a * num))), .int .u64 (aHi (-(a * num))), .int .u64 (aLo (-(a * num)))] from (by (repeat' first | with_reducible assumption | (with_reducible refine Blk.new' ?_; first | with_reducible rfl | (simp only [World.size_alloc, World.size_setCell, World.size_drew]; done)) | with_reducible refine Blk.alloc ?_ _ | with_reducible refine Blk.drew ?_ | with_reducible refine Blk.drewN ?_ _ | with_reducible apply Blk.three | with_reducible apply Blk.both | with_reducible refine Blk.far' ?_ ?_ | (show _ ≠ _; omega)))), (show Blk _ _ _ #[.int .i64 ((md (dn (-(b * num)) (-den)) (upq (-(a * num)) (-den))).1), .int .i64 ((md (dn (-(b * num)) (-den)) (upq (-(a * num)) (-den))).2.1)] from (Blk.set2 (cs' := #[.int .i64 ((md (dn (-(b * num)) (-den)) (upq (-(a * num)) (-den))).1), .int .i64 ((md (dn (-(b * num)) (-den)) (upq (-(a * num)) (-den))).2.1)]) (Blk.set2 (cs' := #[.int .i64 ((md (dn (-(b * num)) (-den)) (upq (-(a * num)) (-den))).1), .int .i64 (0)]) oR (i := 0) rfl) (i := 1) rfl))⟩ Reg.none_ trivial
          apply Reg.RC_pure (hc := rfl) (hst := rfl) (hw := rfl) (t := 7) (hd := rfl) (ht := Nat.le_of_ble_eq_true rfl)
          · intro D v W hc hj hf K hK
            go_step
            exact hK.out
          · rfl
          refine Reg.RC_end (fun D v W hd hj hf => ?_)
          obtain ⟨B, oX, oY, oR⟩ := hj
          have e11 : D 11 = true := hd 11 (by decide)
          have oR : Blk W (w.heap.size + 1) 23 #[.int .i64 ((md (dn (-(b * num)) (-den)) (upq (-(a * num)) (-den))).1), .int .i64 ((md (dn (-(b * num)) (-den)) (upq (-(a * num)) (-den))).2.1)] := by have o := oR; simp only [e11, Reg.sel_true] at o; exact o
          clear e11
          clear hd hf
          refine hQ _ _ ?_
          clear hQ hops Q' ops'
          have lR := oR.lt
          have cR0 := oR.c 0 rfl
          have cR1 := oR.c 1 rfl
          have fR := oR.fr
          repeat' (first | go_values | go_skip | go_guarded | go_step | go_upon)
          refine bodyPost_ret (by simp [results, Try.results17, go_sem, lR, cR0, cR1, fR]; rfl) rfl ?_
          show G3 w _ _ _
          rw [H.out]
          exact ⟨rfl, B⟩
      · have habs : Hid (absI den = den) := by show absI den = _; unfold absI; rw [if_neg hd]
        by_cases hs : b * num < a * num
        · have H : Hid (scaleS a b num den = md (dn (b * num) (den)) (upq (a * num) (den))) := by show scaleS a b num den = _; rw [H9]; unfold scaleV; rw [if_neg hz, if_neg hd]; exact md_args (by simp only [mn]; omega) (by simp only [mx]; omega)
          have D1 : Hid (decide (b * num < a * num) = true) := by show decide _ = _; simp <;> omega
          have s0 : -21267647932558653966460912964485513216 ≤ a * num := by omega
          have s1 : a * num ≤ 21267647932558653966460912964485513216 := by omega
          have s2 : -21267647932558653966460912964485513216 ≤ b * num := by omega
          have s3 : b * num ≤ 21267647932558653966460912964485513216 := by omega
          clear H9 hs p0 p1 p2 p3
          go_enter Try.func17, Try.ntmps17
          go_wp2_with fail
          refine (rcheck a b _).mono ?_
          rintro e w1 ⟨rfl, hb1⟩
          have st : Steps _ w1 := hb1
          have Bn : Below w.heap.size w w1 := below_steps (by (repeat' first | with_reducible assumption | with_reducible exact Below.refl _ _ | with_reducible refine Below.alloc ?_ ?_ _ | with_reducible refine Below.drew ?_ | with_reducible refine belowN ?_ _ | with_reducible refine Below.setCell ?_ ?_ _ | go_size)) (Nat.le_refl _) st
          have nA : Blk w1 (w.heap.size) 23 #[.int .i64 (a), .int .i64 (b)] := Blk.steps (by (repeat' first | with_reducible assumption | (with_reducible refine Blk.new' ?_; first | with_reducible rfl | (simp only [World.size_alloc, World.size_setCell, World.size_drew]; done)) | with_reducible refine Blk.alloc ?_ _ | with_reducible refine Blk.drew ?_ | with_reducible refine Blk.drewN ?_ _ | with_reducible apply Blk.three | with_reducible apply Blk.both | with_reducible refine Blk.far' ?_ ?_ | (show _ ≠ _; omega))) st
          have nR : Blk w1 (w.heap.size + 1) 23 #[.int .i64 (0), .int .i64 (0)] := Blk.steps (by (repeat' first | with_reducible assumption | (with_reducible refine Blk.new' ?_; first | with_reducible rfl | (simp only [World.size_alloc, World.size_setCell, World.size_drew]; done)) | with_reducible refine Blk.alloc ?_ _ | with_reducible refine Blk.drew ?_ | with_reducible refine Blk.drewN ?_ _ | with_reducible apply Blk.three | with_reducible apply Blk.both | with_reducible refine Blk.far' ?_ ?_ | (show _ ≠ _; omega))) st
          clear st
          have B := Bn
          clear Bn
          have oA := nA
          clear nA
          have cA0 : World.cell? w1 ⟨w.heap.size, 0, none⟩ = some (.int .i64 (a)) := oA.c 0 rfl
          have cA1 : World.cell? w1 ⟨w.heap.size, 1, none⟩ = some (.int .i64 (b)) := oA.c 1 rfl
          have fA := oA.fr
          have lA := oA.lt
          have oR := nR
          clear nR
          have cR0 : World.cell? w1 ⟨w.heap.size + 1, 0, none⟩ = some (.int .i64 (0)) := oR.c 0 rfl
          have cR1 : World.cell? w1 ⟨w.heap.size + 1, 1, none⟩ = some (.int .i64 (0)) := oR.c 1 rfl
          have fR := oR.fr
          have lR := oR.lt
          rw [H1.out]
          go_wp2_with fail
          clear cA0 cA1 fA lA cR0 cR1 fR lR
          refine Reg.wp_chain_n (fun N0 => fun D v W => Below w.heap.size w W ∧ Blk W (w.heap.size) 23 #[.int .i64 (a), .int .i64 (b)] ∧ Blk W (w.heap.size + 1) 23 #[.int .i64 (0), .int .i64 (0)] ∧ (D 8 = true → ∃ g : Nat, v 8 = .pointer (some ⟨g, 0, none⟩) ∧ N0 ≤ g ∧ Blk W g 77 #[Reg.sel (D 10) (.bool false) (.bool (negB (a * num))), Reg.sel (D 10) (.int .u64 0) (.int .u64 (aHi (a * num))), Reg.sel (D 10) (.int .u64 0) (.int .u64 (aLo (a * num)))]) ∧ (D 9 = true → ∃ g : Nat, v 9 = .pointer (some ⟨g, 0, none⟩) ∧ N0 ≤ g ∧ Blk W g 77 #[Reg.sel (D 11) (.bool false) (.bool (negB (b * num))), Reg.sel (D 11) (.int .u64 0) (.int .u64 (aHi (b * num))), Reg.sel (D 11) (.int .u64 0) (.int .u64 (aLo (b * num)))]) ∧ (D 8 = true → D 9 = true → v 8 ≠ v 9) ∧ N0 ≤ W.heap.size)
            (Reg.inl [3, 7, 8, 9, 10, 11]) (Reg.gv [(3, fun x => x = .agg #[.bool (negB (a * num)), .int .u64 (aHi (a * num)), .int .u64 (aLo (a * num))]), (7, fun x => x = .agg #[.bool (negB (b * num)), .int .u64 (aHi (b * num)), .int .u64 (aLo (b * num))]), (8, fun x => ∃ g : Nat, x = .pointer (some ⟨g, 0, none⟩)), (9, fun x => ∃ g : Nat, x = .pointer (some ⟨g, 0, none⟩))]) Reg.None_ (fun _ => Reg.Any) (fun _ _ => False) (Reg.pl [(10, [(8, some 8)]), (11, [(9, some 9)]), (12, [(8, some 8), (9, some 9)])]) (Reg.pl [(8, [10]), (9, [11])])
            (by kernel_rfl) (by kernel_rfl) (by kernel_rfl) (Reg.gv_some _ (fun p hp => by simp only [List.mem_cons, List.not_mem_nil, or_false] at hp; rcases hp with rfl | rfl | rfl | rfl; exact ⟨_, rfl⟩; exact ⟨_, rfl⟩; exact ⟨_, 0, rfl⟩; exact ⟨_, 0, rfl⟩)) (fun N0 hN0 => ⟨fun v => ?_, (fun D v v' W hv hj => ?_), fun _ _ _ _ _ _ _ _ _ _ _ _ _ => Reg.none_, fun _ _ _ _ h => h.elim, fun ops' Q' hops hQ => ?_⟩)
          · exact ⟨(by first | with_reducible exact Below.drew B | with_reducible exact Below.drew (belowN B _) | (repeat' first | with_reducible assumption | with_reducible exact Below.refl _ _ | with_reducible refine Below.alloc ?_ ?_ _ | with_reducible refine Below.drew ?_ | with_reducible refine belowN ?_ _ | with_reducible refine Below.setCell ?_ ?_ _ | go_size)), (show Blk _ _ _ #[.int .i64 (a), .int .i64 (b)] from (by first | with_reducible exact oA | (repeat' first | with_reducible assumption | (with_reducible refine Blk.new' ?_; first | with_reducible rfl | (simp only [World.size_alloc, World.size_setCell, World.size_drew]; done)) | with_reducible refine Blk.alloc ?_ _ | with_reducible refine Blk.drew ?_ | with_reducible refine Blk.drewN ?_ _ | with_reducible apply Blk.three | with_reducible apply Blk.both | with_reducible refine Blk.far' ?_ ?_ | (show _ ≠ _; omega)))), (show Blk _ _ _ #[.int .i64 (0), .int .i64 (0)] from (by first | with_reducible exact oR | (repeat' first | with_reducible assumption | (with_reducible refine Blk.new' ?_; first | with_reducible rfl | (simp only [World.size_alloc, World.size_setCell, World.size_drew]; done)) | with_reducible refine Blk.alloc ?_ _ | with_reducible refine Blk.drew ?_ | with_reducible refine Blk.drewN ?_ _ | with_reducible apply Blk.three | with_reducible apply Blk.both | with_reducible refine Blk.far' ?_ ?_ | (show _ ≠ _; omega)))), (fun h => by cases h), (fun h => by cases h), (fun h => by cases h), (Nat.le_of_eq hN0.out)⟩
          · obtain ⟨B, oA, oR, pa8, pa9, q8_9, zN0⟩ := hj
            exact ⟨B, oA, oR, (fun h => hv 8 h ▸ pa8 h), (fun h => hv 9 h ▸ pa9 h), (fun h h' => hv 8 h ▸ hv 9 h' ▸ q8_9 h h'), zN0⟩
          have iA : w.heap.size < N0 := by have h := oA.lt; have e := hN0.out; (try simp only [World.size_alloc, World.size_setCell, World.size_drew, World.heap_drewN] at e); omega
          have iR : w.heap.size + 1 < N0 := by have h := oR.lt; have e := hN0.out; (try simp only [World.size_alloc, World.size_setCell, World.size_drew, World.heap_drewN] at e); omega
          have uN0 : w.heap.size ≤ N0 := by have h := Below.size B; have e := hN0.out; (try simp only [World.size_alloc, World.size_setCell, World.size_drew, World.heap_drewN] at e); (try simp only [World.size_alloc, World.size_setCell, World.size_drew, World.heap_drewN] at h); omega
          clear B oA oR hN0
          apply Reg.RC_pure (hc := rfl) (hst := rfl) (hw := rfl) (t := 19) (hd := rfl) (ht := Nat.le_of_ble_eq_true rfl)
          · intro D v W hc hj hf K hK
            go_step
            exact hK.out
          · rfl
          apply Reg.RC_pure (hc := rfl) (hst := rfl) (hw := rfl) (t := 20) (hd := rfl) (ht := Nat.le_of_ble_eq_true rfl)
          · intro D v W hc hj hf K hK
            obtain ⟨B, oA, oR, pa8, pa9, q8_9, zN0⟩ := hj
            have cA0 : World.cell? W ⟨w.heap.size, 0, none⟩ = some (.int .i64 (a)) := oA.c 0 rfl
            have cA1 : World.cell? W ⟨w.heap.size, 1, none⟩ = some (.int .i64 (b)) := oA.c 1 rfl
            go_step
            exact hK.out
          · rfl
          apply Reg.RC_pure (hc := rfl) (hst := rfl) (hw := rfl) (t := 21) (hd := rfl) (ht := Nat.le_of_ble_eq_true rfl)
          · intro D v W hc hj hf K hK
            go_step
            exact hK.out
          · rfl
          refine Reg.RC_call rfl (by intro t ht; cases ht; exact Nat.le_of_ble_eq_true rfl) rfl (fun D v W hc hj hf K hK => ?_) (fun x hx => ?_)
          · obtain ⟨B, oA, oR, pa8, pa9, q8_9, zN0⟩ := hj
            go_step
            refine (rtimes_b _ _ _ (by omega) (by omega) (by omega) (by omega)).mono ?_
            rintro e W' ⟨rfl, hb⟩
            have st : Steps W W' := hb
            exact hK.out _ _ Reg.any ⟨below_steps B (Nat.le_refl _) st, oA.steps st, oR.steps st, (fun h => let ⟨g, h1, h2, h3⟩ := pa8 h; ⟨g, h1, h2, h3.steps st⟩), (fun h => let ⟨g, h1, h2, h3⟩ := pa9 h; ⟨g, h1, h2, h3.steps st⟩), (fun h h' => q8_9 h h'), (Nat.le_trans zN0 st.size)⟩ Reg.none_ rfl
          have hx : x = .agg #[.bool (negB (a * num)), .int .u64 (aHi (a * num)), .int .u64 (aLo (a * num))] := hx
          subst hx
          refine Reg.RC_at (b := ⟨#[_, _, _, _, _, _, _, _, _, _, _, _, _, _, _, _, _, _, _, _, _, _, _, _, _, _, _, _, _, _, _, _, _, _, _, _, _, _, _, _, _, _, _, _, _, _, _, _, _], []⟩) rfl ?_
          apply Reg.RC_pure (hc := rfl) (hst := rfl) (hw := rfl) (t := 23) (hd := rfl) (ht := Nat.le_of_ble_eq_true rfl)
          · intro D v W hc hj hf K hK
            go_step
            exact hK.out
          · rfl
          apply Reg.RC_pure (hc := rfl) (hst := rfl) (hw := rfl) (t := 24) (hd := rfl) (ht := Nat.le_of_ble_eq_true rfl)
          · intro D v W hc hj hf K hK
            obtain ⟨B, oA, oR, pa8, pa9, q8_9, zN0⟩ := hj
            have cA0 : World.cell? W ⟨w.heap.size, 0, none⟩ = some (.int .i64 (a)) := oA.c 0 rfl
            have cA1 : World.cell? W ⟨w.heap.size, 1, none⟩ = some (.int .i64 (b)) := oA.c 1 rfl
            go_step
            exact hK.out
          · rfl
          apply Reg.RC_pure (hc := rfl) (hst := rfl) (hw := rfl) (t := 25) (hd := rfl) (ht := Nat.le_of_ble_eq_true rfl)
          · intro D v W hc hj hf K hK
            go_step
            exact hK.out
          · rfl
          refine Reg.RC_call rfl (by intro t ht; cases ht; exact Nat.le_of_ble_eq_true rfl) rfl (fun D v W hc hj hf K hK => ?_) (fun x hx => ?_)
          · obtain ⟨B, oA, oR, pa8, pa9, q8_9, zN0⟩ := hj
            go_step
            refine (rtimes_b _ _ _ (by omega) (by omega) (by omega) (by omega)).mono ?_
            rintro e W' ⟨rfl, hb⟩
            have st : Steps W W' := hb
            exact hK.out _ _ Reg.any ⟨below_steps B (Nat.le_refl _) st, oA.steps st, oR.steps st, (fun h => let ⟨g, h1, h2, h3⟩ := pa8 h; ⟨g, h1, h2, h3.steps st⟩), (fun h => let ⟨g, h1, h2, h3⟩ := pa9 h; ⟨g, h1, h2, h3.steps st⟩), (fun h h' => q8_9 h h'), (Nat.le_trans zN0 st.size)⟩ Reg.none_ rfl
          have hx : x = .agg #[.bool (negB (b * num)), .int .u64 (aHi (b * num)), .int .u64 (aLo (b * num))] := hx
          subst hx
          refine Reg.RC_at (b := ⟨#[_, _, _, _, _, _, _, _, _, _, _, _, _, _, _, _, _, _, _, _, _, _, _, _, _, _, _, _, _, _, _, _, _, _, _, _, _, _, _, _, _, _, _, _, _, _, _, _, _], []⟩) rfl ?_
          refine Reg.RC_call rfl (by intro t ht; cases ht; exact Nat.le_of_ble_eq_true rfl) rfl (fun D v W hc hj hf K hK => ?_) (fun x hx => ?_)
          · obtain ⟨B, oA, oR, pa8, pa9, q8_9, zN0⟩ := hj
            have hs : D 10 = false := hc.2 10 (.head _)
            go_step
            exact hK.out _ _ Reg.any ⟨Below.alloc B B.size _, oA.alloc _, oR.alloc _, (fun _ => ⟨W.heap.size, rfl, zN0, (by show Blk _ _ _ #[Reg.sel (D 10) (.bool false) (.bool (negB (a * num))), Reg.sel (D 10) (.int .u64 0) (.int .u64 (aHi (a * num))), Reg.sel (D 10) (.int .u64 0) (.int .u64 (aLo (a * num)))]; simp only [hs, Reg.sel_false]; exact Blk.new W _ _)⟩), (fun h => let ⟨g, h1, h2, h3⟩ := pa9 h; ⟨g, h1, h2, h3.alloc _⟩), (fun _ h' => let ⟨g, h1, _, h3⟩ := pa9 h'; fun e => Reg.ptr_ne h3.lt (e.trans h1)), (Nat.le_trans zN0 (by rw [World.size_alloc]; exact Nat.le_succ _))⟩ Reg.none_ ⟨_, rfl⟩
          obtain ⟨gX, hx⟩ : ∃ g : Nat, x = .pointer (some ⟨g, 0, none⟩) := hx
          subst hx
          refine Reg.RC_at (b := ⟨#[_, _, _, _, _, _, _, _, _, _, _, _, _, _, _, _, _, _, _, _, _, _, _, _, _, _, _, _, _, _, _, _, _, _, _, _, _, _, _, _, _, _, _, _, _, _, _, _, _], []⟩) rfl ?_
          refine Reg.RC_call rfl (by intro t ht; cases ht; exact Nat.le_of_ble_eq_true rfl) rfl (fun D v W hc hj hf K hK => ?_) (fun x hx => ?_)
          · obtain ⟨B, oA, oR, pa8, pa9, q8_9, zN0⟩ := hj
            have hs : D 11 = false := hc.2 11 (.head _)
            go_step
            exact hK.out _ _ Reg.any ⟨Below.alloc B B.size _, oA.alloc _, oR.alloc _, (fun h => let ⟨g, h1, h2, h3⟩ := pa8 h; ⟨g, h1, h2, h3.alloc _⟩), (fun _ => ⟨W.heap.size, rfl, zN0, (by show Blk _ _ _ #[Reg.sel (D 11) (.bool false) (.bool (negB (b * num))), Reg.sel (D 11) (.int .u64 0) (.int .u64 (aHi (b * num))), Reg.sel (D 11) (.int .u64 0) (.int .u64 (aLo (b * num)))]; simp only [hs, Reg.sel_false]; exact Blk.new W _ _)⟩), (fun h _ => let ⟨g, h1, _, h3⟩ := pa8 h; fun e => Reg.ptr_ne h3.lt (e.symm.trans h1)), (Nat.le_trans zN0 (by rw [World.size_alloc]; exact Nat.le_succ _))⟩ Reg.none_ ⟨_, rfl⟩
          obtain ⟨gY, hx⟩ : ∃ g : Nat, x = .pointer (some ⟨g, 0, none⟩) := hx
          subst hx
          refine Reg.RC_at (b := ⟨#[_, _, _, _, _, _, _, _, _, _, _, _, _, _, _, _, _, _, _, _, _, _, _, _, _, _, _, _, _, _, _, _, _, _, _, _, _, _, _, _, _, _, _, _, _, _, _, _, _], []⟩) rfl ?_
          refine Reg.RC_call rfl (by intro t ht; cases ht) rfl (fun D v W hc hj hf K hK => ?_) (fun _ _ => Reg.RC_at (b := ⟨_, []⟩) rfl ?_)
          · obtain ⟨B, oA, oR, pa8, pa9, q8_9, zN0⟩ := hj
            have hs : D 10 = false := hc.1
            obtain ⟨hd, he, -⟩ := hf (8, some 8) (.head _) rfl
            obtain ⟨g, h1, h2, h3⟩ := pa8 hd
            obtain rfl : gX = g := Reg.ptr_eq ((show v 8 = Value.pointer (some ⟨gX, 0, none⟩) from he).symm.trans h1)
            have oo : Blk W gX 77 #[.bool false, .int .u64 0, .int .u64 0] := by have o := h3; simp only [hs, Reg.sel_false] at o; exact o
            have cc0 : World.cell? W ⟨gX, 0, none⟩ = some (.bool false) := oo.c 0 rfl
            have cc1 : World.cell? W ⟨gX, 1, none⟩ = some (.int .u64 0) := oo.c 1 rfl
            have cc2 : World.cell? W ⟨gX, 2, none⟩ = some (.int .u64 0) := oo.c 2 rfl
            have ff := oo.fr
            have ll := oo.lt
            go_step
            have nn := h2
            exact hK.out undef _ Reg.any ⟨(by (repeat' first | with_reducible assumption | with_reducible exact Below.refl _ _ | with_reducible refine Below.alloc ?_ ?_ _ | with_reducible refine Below.drew ?_ | with_reducible refine belowN ?_ _ | with_reducible refine Below.setCell ?_ ?_ _ | go_size)), (show Blk _ _ _ #[.int .i64 (a), .int .i64 (b)] from (by (repeat' first | with_reducible assumption | (with_reducible refine Blk.new' ?_; first | with_reducible rfl | (simp only [World.size_alloc, World.size_setCell, World.size_drew]; done)) | with_reducible refine Blk.alloc ?_ _ | with_reducible refine Blk.drew ?_ | with_reducible refine Blk.drewN ?_ _ | with_reducible apply Blk.three | with_reducible apply Blk.both | with_reducible refine Blk.far' ?_ ?_ | (show _ ≠ _; omega)))), (show Blk _ _ _ #[.int .i64 (0), .int .i64 (0)] from (by (repeat' first | with_reducible assumption | (with_reducible refine Blk.new' ?_; first | with_reducible rfl | (simp only [World.size_alloc, World.size_setCell, World.size_drew]; done)) | with_reducible refine Blk.alloc ?_ _ | with_reducible refine Blk.drew ?_ | with_reducible refine Blk.drewN ?_ _ | with_reducible apply Blk.three | with_reducible apply Blk.both | with_reducible refine Blk.far' ?_ ?_ | (show _ ≠ _; omega)))), (fun _ => ⟨gX, h1, h2, (show Blk _ _ _ #[.bool (negB (a * num)), .int .u64 (aHi (a * num)), .int .u64 (aLo (a * num))] from (Blk.set2 (cs' := #[.bool (negB (a * num)), .int .u64 (aHi (a * num)), .int .u64 (aLo (a * num))]) (Blk.set2 (cs' := #[.bool (negB (a * num)), .int .u64 (aHi (a * num)), .int .u64 0]) (Blk.set2 (cs' := #[.bool (negB (a * num)), .int .u64 0, .int .u64 0]) oo (i := 0) rfl) (i := 1) rfl) (i := 2) rfl))⟩), (fun h => let ⟨g', h1', h2', h3'⟩ := pa9 h; have hne : g' ≠ gX := (fun e => q8_9 hd h (h1.trans ((congrArg (fun n => Value.pointer (some ⟨n, 0, none⟩)) e.symm).trans h1'.symm))); ⟨g', h1', h2', (show Blk _ _ _ #[Reg.sel (D 11) (.bool false) (.bool (negB (b * num))), Reg.sel (D 11) (.int .u64 0) (.int .u64 (aHi (b * num))), Reg.sel (D 11) (.int .u64 0) (.int .u64 (aLo (b * num)))] from (by (repeat' first | with_reducible assumption | (with_reducible refine Blk.new' ?_; first | with_reducible rfl | (simp only [World.size_alloc, World.size_setCell, World.size_drew]; done)) | with_reducible refine Blk.alloc ?_ _ | with_reducible refine Blk.drew ?_ | with_reducible refine Blk.drewN ?_ _ | with_reducible apply Blk.three | with_reducible apply Blk.both | with_reducible refine Blk.far' ?_ ?_ | (show _ ≠ _; omega))))⟩), (fun h h' => q8_9 h h'), (by simpa using zN0)⟩ Reg.none_ trivial
          refine Reg.RC_call rfl (by intro t ht; cases ht) rfl (fun D v W hc hj hf K hK => ?_) (fun _ _ => Reg.RC_at (b := ⟨_, []⟩) rfl ?_)
          · obtain ⟨B, oA, oR, pa8, pa9, q8_9, zN0⟩ := hj
            have hs : D 11 = false := hc.1
            obtain ⟨hd, he, -⟩ := hf (9, some 9) (.head _) rfl
            obtain ⟨g, h1, h2, h3⟩ := pa9 hd
            obtain rfl : gY = g := Reg.ptr_eq ((show v 9 = Value.pointer (some ⟨gY, 0, none⟩) from he).symm.trans h1)
            have oo : Blk W gY 77 #[.bool false, .int .u64 0, .int .u64 0] := by have o := h3; simp only [hs, Reg.sel_false] at o; exact o
            have cc0 : World.cell? W ⟨gY, 0, none⟩ = some (.bool false) := oo.c 0 rfl
            have cc1 : World.cell? W ⟨gY, 1, none⟩ = some (.int .u64 0) := oo.c 1 rfl
            have cc2 : World.cell? W ⟨gY, 2, none⟩ = some (.int .u64 0) := oo.c 2 rfl
            have ff := oo.fr
            have ll := oo.lt
            go_step
            have nn := h2
            exact hK.out undef _ Reg.any ⟨(by (repeat' first | with_reducible assumption | with_reducible exact Below.refl _ _ | with_reducible refine Below.alloc ?_ ?_ _ | with_reducible refine Below.drew ?_ | with_reducible refine belowN ?_ _ | with_reducible refine Below.setCell ?_ ?_ _ | go_size)), (show Blk _ _ _ #[.int .i64 (a), .int .i64 (b)] from (by (repeat' first | with_reducible assumption | (with_reducible refine Blk.new' ?_; first | with_reducible rfl | (simp only [World.size_alloc, World.size_setCell, World.size_drew]; done)) | with_reducible refine Blk.alloc ?_ _ | with_reducible refine Blk.drew ?_ | with_reducible refine Blk.drewN ?_ _ | with_reducible apply Blk.three | with_reducible apply Blk.both | with_reducible refine Blk.far' ?_ ?_ | (show _ ≠ _; omega)))), (show Blk _ _ _ #[.int .i64 (0), .int .i64 (0)] from (by (repeat' first | with_reducible assumption | (with_reducible refine Blk.new' ?_; first | with_reducible rfl | (simp only [World.size_alloc, World.size_setCell, World.size_drew]; done)) | with_reducible refine Blk.alloc ?_ _ | with_reducible refine Blk.drew ?_ | with_reducible refine Blk.drewN ?_ _ | with_reducible apply Blk.three | with_reducible apply Blk.both | with_reducible refine Blk.far' ?_ ?_ | (show _ ≠ _; omega)))), (fun h => let ⟨g', h1', h2', h3'⟩ := pa8 h; have hne : g' ≠ gY := (fun e => q8_9 h hd (h1'.trans ((congrArg (fun n => Value.pointer (some ⟨n, 0, none⟩)) e).trans h1.symm))); ⟨g', h1', h2', (show Blk _ _ _ #[Reg.sel (D 10) (.bool false) (.bool (negB (a * num))), Reg.sel (D 10) (.int .u64 0) (.int .u64 (aHi (a * num))), Reg.sel (D 10) (.int .u64 0) (.int .u64 (aLo (a * num)))] from (by (repeat' first | with_reducible assumption | (with_reducible refine Blk.new' ?_; first | with_reducible rfl | (simp only [World.size_alloc, World.size_setCell, World.size_drew]; done)) | with_reducible refine Blk.alloc ?_ _ | with_reducible refine Blk.drew ?_ | with_reducible refine Blk.drewN ?_ _ | with_reducible apply Blk.three | with_reducible apply Blk.both | with_reducible refine Blk.far' ?_ ?_ | (show _ ≠ _; omega))))⟩), (fun _ => ⟨gY, h1, h2, (show Blk _ _ _ #[.bool (negB (b * num)), .int .u64 (aHi (b * num)), .int .u64 (aLo (b * num))] from (Blk.set2 (cs' := #[.bool (negB (b * num)), .int .u64 (aHi (b * num)), .int .u64 (aLo (b * num))]) (Blk.set2 (cs' := #[.bool (negB (b * num)), .int .u64 (aHi (b * num)), .int .u64 0]) (Blk.set2 (cs' := #[.bool (negB (b * num)), .int .u64 0, .int .u64 0]) oo (i := 0) rfl) (i := 1) rfl) (i := 2) rfl))⟩), (fun h h' => q8_9 h h'), (by simpa using zN0)⟩ Reg.none_ trivial
          refine Reg.RC_end (fun D v W hd hj hf => ?_)
          obtain ⟨B, oA, oR, pa8, pa9, q8_9, zN0⟩ := hj
          obtain ⟨-, he, -⟩ := hf (8, some 8) (.head _) rfl
          obtain ⟨g, h1, hXn, h3⟩ := pa8 (hd 8 (by decide))
          obtain rfl : gX = g := Reg.ptr_eq ((show v 8 = Value.pointer (some ⟨gX, 0, none⟩) from he).symm.trans h1)
          have oX : Blk W gX 77 #[.bool (negB (a * num)), .int .u64 (aHi (a * num)), .int .u64 (aLo (a * num))] := by have o := h3; simp only [hd 10 (by decide), Reg.inl, Reg.sel_true] at o; exact o
          have lowX : w.heap.size ≤ gX := Nat.le_trans uN0 hXn
          have sAX : w.heap.size ≠ gX := by have := iA; have := hXn; omega
          have sRX : w.heap.size + 1 ≠ gX := by have := iR; have := hXn; omega
          have he8 := h1
          clear he h1 h3 pa8 hXn
          obtain ⟨-, he, -⟩ := hf (9, some 9) (.tail _ (.head _)) rfl
          obtain ⟨g, h1, hYn, h3⟩ := pa9 (hd 9 (by decide))
          obtain rfl : gY = g := Reg.ptr_eq ((show v 9 = Value.pointer (some ⟨gY, 0, none⟩) from he).symm.trans h1)
          have oY : Blk W gY 77 #[.bool (negB (b * num)), .int .u64 (aHi (b * num)), .int .u64 (aLo (b * num))] := by have o := h3; simp only [hd 11 (by decide), Reg.inl, Reg.sel_true] at o; exact o
          have lowY : w.heap.size ≤ gY := Nat.le_trans uN0 hYn
          have sAY : w.heap.size ≠ gY := by have := iA; have := hYn; omega
          have sRY : w.heap.size + 1 ≠ gY := by have := iR; have := hYn; omega
          have he9 := h1
          clear he h1 h3 pa9 hYn
          have nXY : gX ≠ gY := fun e => q8_9 (hd 8 (by decide)) (hd 9 (by decide)) (he8.trans ((congrArg (fun n => Value.pointer (some ⟨n, 0, none⟩)) e).trans he9.symm))
          have nYX : gY ≠ gX := Ne.symm nXY
          clear he8 he9 zN0 uN0
          clear hd hf q8_9 iA iR
          refine hQ _ _ ?_
          clear hQ hops Q' ops'
          have nX := Blk.ne_ oX oR (by decide)
          have nY := Blk.ne_ oY oR (by decide)
          have lX := oX.lt
          have fX := oX.fr
          have cX0 := oX.c 0 rfl
          have cX1 := oX.c 1 rfl
          have cX2 := oX.c 2 rfl
          have lY := oY.lt
          have fY := oY.fr
          have cY0 := oY.c 0 rfl
          have cY1 := oY.c 1 rfl
          have cY2 := oY.c 2 rfl
          go_wp2_with fail
          refine (rless_q _ _ _ _ D1.out).mono ?_
          rintro e w1 ⟨rfl, hb1⟩
          have st : Steps _ w1 := hb1
          have Bn : Below w.heap.size w w1 := below_steps (by (repeat' first | with_reducible assumption | with_reducible exact Below.refl _ _ | with_reducible refine Below.alloc ?_ ?_ _ | with_reducible refine Below.drew ?_ | with_reducible refine belowN ?_ _ | with_reducible refine Below.setCell ?_ ?_ _ | go_size)) (Nat.le_refl _) st
          have nX : Blk w1 (gX) 77 #[.bool (negB (a * num)), .int .u64 (aHi (a * num)), .int .u64 (aLo (a * num))] := Blk.steps (by (repeat' first | with_reducible assumption | (with_reducible refine Blk.new' ?_; first | with_reducible rfl | (simp only [World.size_alloc, World.size_setCell, World.size_drew]; done)) | with_reducible refine Blk.alloc ?_ _ | with_reducible refine Blk.drew ?_ | with_reducible refine Blk.drewN ?_ _ | with_reducible apply Blk.three | with_reducible apply Blk.both | with_reducible refine Blk.far' ?_ ?_ | (show _ ≠ _; omega))) st
          have nY : Blk w1 (gY) 77 #[.bool (negB (b * num)), .int .u64 (aHi (b * num)), .int .u64 (aLo (b * num))] := Blk.steps (by (repeat' first | with_reducible assumption | (with_reducible refine Blk.new' ?_; first | with_reducible rfl | (simp only [World.size_alloc, World.size_setCell, World.size_drew]; done)) | with_reducible refine Blk.alloc ?_ _ | with_reducible refine Blk.drew ?_ | with_reducible refine Blk.drewN ?_ _ | with_reducible apply Blk.three | with_reducible apply Blk.both | with_reducible refine Blk.far' ?_ ?_ | (show _ ≠ _; omega))) st
          have nR : Blk w1 (w.heap.size + 1) 23 #[.int .i64 (0), .int .i64 (0)] := Blk.steps (by (repeat' first | with_reducible assumption | (with_reducible refine Blk.new' ?_; first | with_reducible rfl | (simp only [World.size_alloc, World.size_setCell, World.size_drew]; done)) | with_reducible refine Blk.alloc ?_ _ | with_reducible refine Blk.drew ?_ | with_reducible refine Blk.drewN ?_ _ | with_reducible apply Blk.three | with_reducible apply Blk.both | with_reducible refine Blk.far' ?_ ?_ | (show _ ≠ _; omega))) st
          clear B oX oY oR lX fX lY fY cX0 cX1 cX2 cY0 cY1 cY2
          clear st
          have B := Bn
          clear Bn
          have oX := nX
          clear nX
          have cX0 : World.cell? w1 ⟨gX, 0, none⟩ = some (.bool (negB (a * num))) := oX.c 0 rfl
          have cX1 : World.cell? w1 ⟨gX, 1, none⟩ = some (.int .u64 (aHi (a * num))) := oX.c 1 rfl
          have cX2 : World.cell? w1 ⟨gX, 2, none⟩ = some (.int .u64 (aLo (a * num))) := oX.c 2 rfl
          have fX := oX.fr
          have lX := oX.lt
          have oY := nY
          clear nY
          have cY0 : World.cell? w1 ⟨gY, 0, none⟩ = some (.bool (negB (b * num))) := oY.c 0 rfl
          have cY1 : World.cell? w1 ⟨gY, 1, none⟩ = some (.int .u64 (aHi (b * num))) := oY.c 1 rfl
          have cY2 : World.cell? w1 ⟨gY, 2, none⟩ = some (.int .u64 (aLo (b * num))) := oY.c 2 rfl
          have fY := oY.fr
          have lY := oY.lt
          have oR := nR
          clear nR
          have cR0 : World.cell? w1 ⟨w.heap.size + 1, 0, none⟩ = some (.int .i64 (0)) := oR.c 0 rfl
          have cR1 : World.cell? w1 ⟨w.heap.size + 1, 1, none⟩ = some (.int .i64 (0)) := oR.c 1 rfl
          have fR := oR.fr
          have lR := oR.lt
          go_wp2_with fail
          clear fX lX fY lY fR lR cX0 cX1 cX2 cY0 cY1 cY2 cR0 cR1
          refine Reg.wp_chain (fun D v W => Below w.heap.size w W ∧ Blk W (gX) 77 #[.bool (negB (b * num)), .int .u64 (aHi (b * num)), .int .u64 (aLo (b * num))] ∧ Blk W (gY) 77 #[.bool (negB (a * num)), .int .u64 (aHi (a * num)), .int .u64 (aLo (a * num))] ∧ Blk W (w.heap.size + 1) 23 #[Reg.sel (D 11) (.int .i64 (0)) (.int .i64 ((md (dn (b * num) (den)) (upq (a * num) (den))).1)), Reg.sel (D 11) (.int .i64 (0)) (.int .i64 ((md (dn (b * num) (den)) (upq (a * num) (den))).2.1))])
            (Reg.inl [2, 3, 6, 7, 8, 11]) (Reg.ge [(2, .int .u64 (den)), (3, .int .i64 (dn (b * num) (den))), (6, .int .u64 (den)), (7, .int .i64 (upq (a * num) (den))), (8, .tuple #[.agg #[.int .i64 ((md (dn (b * num) (den)) (upq (a * num) (den))).1), .int .i64 ((md (dn (b * num) (den)) (upq (a * num) (den))).2.1)], .int .i64 ((md (dn (b * num) (den)) (upq (a * num) (den))).2.2)])]) Reg.None_ (fun _ => Reg.Any) (fun _ _ => False) (Reg.pl []) (Reg.pl [])
            (by kernel_rfl) (by kernel_rfl) (by kernel_rfl) (Reg.ge_some _) (fun v => ?_) (fun _ _ _ _ _ h => h) (fun _ _ _ _ _ _ _ _ _ _ _ _ _ => Reg.none_) (fun _ _ _ _ h => h.elim) (fun ops' Q' hops hQ => ?_)
          · exact ⟨(by first | with_reducible exact Below.drew B | with_reducible exact Below.drew (belowN B _) | (repeat' first | with_reducible assumption | with_reducible exact Below.refl _ _ | with_reducible refine Below.alloc ?_ ?_ _ | with_reducible refine Below.drew ?_ | with_reducible refine belowN ?_ _ | with_reducible refine Below.setCell ?_ ?_ _ | go_size)), (show Blk _ _ _ #[.bool (negB (b * num)), .int .u64 (aHi (b * num)), .int .u64 (aLo (b * num))] from (by first | with_reducible exact oX | (repeat' first | with_reducible assumption | (with_reducible refine Blk.new' ?_; first | with_reducible rfl | (simp only [World.size_alloc, World.size_setCell, World.size_drew]; done)) | with_reducible refine Blk.alloc ?_ _ | with_reducible refine Blk.drew ?_ | with_reducible refine Blk.drewN ?_ _ | with_reducible apply Blk.three | with_reducible apply Blk.both | with_reducible refine Blk.far' ?_ ?_ | (show _ ≠ _; omega)))), (show Blk _ _ _ #[.bool (negB (a * num)), .int .u64 (aHi (a * num)), .int .u64 (aLo (a * num))] from (by first | with_reducible exact oY | (repeat' first | with_reducible assumption | (with_reducible refine Blk.new' ?_; first | with_reducible rfl | (simp only [World.size_alloc, World.size_setCell, World.size_drew]; done)) | with_reducible refine Blk.alloc ?_ _ | with_reducible refine Blk.drew ?_ | with_reducible refine Blk.drewN ?_ _ | with_reducible apply Blk.three | with_reducible apply Blk.both | with_reducible refine Blk.far' ?_ ?_ | (show _ ≠ _; omega)))), (show Blk _ _ _ #[.int .i64 (0), .int .i64 (0)] from (by first | with_reducible exact oR | (repeat' first | with_reducible assumption | (with_reducible refine Blk.new' ?_; first | with_reducible rfl | (simp only [World.size_alloc, World.size_setCell, World.size_drew]; done)) | with_reducible refine Blk.alloc ?_ _ | with_reducible refine Blk.drew ?_ | with_reducible refine Blk.drewN ?_ _ | with_reducible apply Blk.three | with_reducible apply Blk.both | with_reducible refine Blk.far' ?_ ?_ | (show _ ≠ _; omega))))⟩
          clear B oX oY oR
          apply Reg.RC_pure (hc := rfl) (hst := rfl) (hw := rfl) (t := 38) (hd := rfl) (ht := Nat.le_of_ble_eq_true rfl)
          · intro D v W hc hj hf K hK
            obtain ⟨B, oX, oY, oR⟩ := hj
            have cX0 : World.cell? W ⟨gX, 0, none⟩ = some (.bool (negB (b * num))) := oX.c 0 rfl
            have cX1 : World.cell? W ⟨gX, 1, none⟩ = some (.int .u64 (aHi (b * num))) := oX.c 1 rfl
            have cX2 : World.cell? W ⟨gX, 2, none⟩ = some (.int .u64 (aLo (b * num))) := oX.c 2 rfl
            go_step
            exact hK.out
          · rfl
          apply Reg.RC_pure (hc := rfl) (hst := rfl) (hw := rfl) (t := 39) (hd := rfl) (ht := Nat.le_of_ble_eq_true rfl)
          · intro D v W hc hj hf K hK
            go_step
            exact hK.out
          · rfl
          refine Reg.RC_exact _ (fun _ h => h) rfl (by intro t ht; cases ht; exact Nat.le_of_ble_eq_true rfl) rfl (fun D v W hc hj hf K hK => ?_) (Reg.RC_at (b := ⟨#[_, _, _, _, _, _, _, _, _, _, _, _, _, _, _, _, _, _, _, _, _, _, _, _, _, _, _, _, _, _, _, _, _, _, _, _, _, _, _, _, _, _, _, _, _, _, _, _, _], []⟩) rfl ?_)
          · obtain ⟨B, oX, oY, oR⟩ := hj
            go_step
            refine (rsize_b _ _ _ d0 d1 habs.out).mono ?_
            rintro e W' ⟨rfl, hb⟩
            have st : Steps W W' := hb
            exact hK.out _ _ Reg.any ⟨below_steps B (Nat.le_refl _) st, oX.steps st, oY.steps st, oR.steps st⟩ Reg.none_ rfl
          refine Reg.RC_exact _ (fun _ h => h) rfl (by intro t ht; cases ht; exact Nat.le_of_ble_eq_true rfl) rfl (fun D v W hc hj hf K hK => ?_) (Reg.RC_at (b := ⟨#[_, _, _, _, _, _, _, _, _, _, _, _, _, _, _, _, _, _, _, _, _, _, _, _, _, _, _, _, _, _, _, _, _, _, _, _, _, _, _, _, _, _, _, _, _, _, _, _, _], []⟩) rfl ?_)
          · obtain ⟨B, oX, oY, oR⟩ := hj
            go_step
            refine (rover_dn _ _ _ (by omega) (by omega) (by omega) (by omega)).mono ?_
            rintro e W' ⟨rfl, hb⟩
            have st : Steps W W' := hb
            exact hK.out _ _ Reg.any ⟨below_steps B (Nat.le_refl _) st, oX.steps st, oY.steps st, oR.steps st⟩ Reg.none_ rfl
          apply Reg.RC_pure (hc := rfl) (hst := rfl) (hw := rfl) (t := 42) (hd := rfl) (ht := Nat.le_of_ble_eq_true rfl)
          · intro D v W hc hj hf K hK
            obtain ⟨B, oX, oY, oR⟩ := hj
            have cY0 : World.cell? W ⟨gY, 0, none⟩ = some (.bool (negB (a * num))) := oY.c 0 rfl
            have cY1 : World.cell? W ⟨gY, 1, none⟩ = some (.int .u64 (aHi (a * num))) := oY.c 1 rfl
            have cY2 : World.cell? W ⟨gY, 2, none⟩ = some (.int .u64 (aLo (a * num))) := oY.c 2 rfl
            go_step
            exact hK.out
          · rfl
          apply Reg.RC_pure (hc := rfl) (hst := rfl) (hw := rfl) (t := 43) (hd := rfl) (ht := Nat.le_of_ble_eq_true rfl)
          · intro D v W hc hj hf K hK
            go_step
            exact hK.out
          · rfl
          refine Reg.RC_exact _ (fun _ h => h) rfl (by intro t ht; cases ht; exact Nat.le_of_ble_eq_true rfl) rfl (fun D v W hc hj hf K hK => ?_) (Reg.RC_at (b := ⟨#[_, _, _, _, _, _, _, _, _, _, _, _, _, _, _, _, _, _, _, _, _, _, _, _, _, _, _, _, _, _, _, _, _, _, _, _, _, _, _, _, _, _, _, _, _, _, _, _, _], []⟩) rfl ?_)
          · obtain ⟨B, oX, oY, oR⟩ := hj
            go_step
            refine (rsize_b _ _ _ d0 d1 habs.out).mono ?_
            rintro e W' ⟨rfl, hb⟩
            have st : Steps W W' := hb
            exact hK.out _ _ Reg.any ⟨below_steps B (Nat.le_refl _) st, oX.steps st, oY.steps st, oR.steps st⟩ Reg.none_ rfl
          refine Reg.RC_exact _ (fun _ h => h) rfl (by intro t ht; cases ht; exact Nat.le_of_ble_eq_true rfl) rfl (fun D v W hc hj hf K hK => ?_) (Reg.RC_at (b := ⟨#[_, _, _, _, _, _, _, _, _, _, _, _, _, _, _, _, _, _, _, _, _, _, _, _, _, _, _, _, _, _, _, _, _, _, _, _, _, _, _, _, _, _, _, _, _, _, _, _, _], []⟩) rfl ?_)
          · obtain ⟨B, oX, oY, oR⟩ := hj
            go_step
            refine (rover_up _ _ _ (by omega) (by omega) (by omega) (by omega)).mono ?_
            rintro e W' ⟨rfl, hb⟩
            have st : Steps W W' := hb
            exact hK.out _ _ Reg.any ⟨below_steps B (Nat.le_refl _) st, oX.steps st, oY.steps st, oR.steps st⟩ Reg.none_ rfl
          refine Reg.RC_exact _ (fun _ h => h) rfl (by intro t ht; cases ht; exact Nat.le_of_ble_eq_true rfl) rfl (fun D v W hc hj hf K hK => ?_) (Reg.RC_at (b := ⟨#[_, _, _, _, _, _, _, _, _, _, _, _, _, _, _, _, _, _, _, _, _, _, _, _, _, _, _, _, _, _, _, _, _, _, _, _, _, _, _, _, _, _, _, _, _, _, _, _, _], []⟩) rfl ?_)
          · obtain ⟨B, oX, oY, oR⟩ := hj
            go_step
            refine (rmade _ _ _).mono ?_
            rintro e W' ⟨rfl, hb⟩
            have st : Steps W W' := hb
            exact hK.out _ _ Reg.any ⟨below_steps B (Nat.le_refl _) st, oX.steps st, oY.steps st, oR.steps st⟩ Reg.none_ rfl
          apply Reg.RC_pure (hc := rfl) (hst := rfl) (hw := rfl) (t := 47) (hd := rfl) (ht := Nat.le_of_ble_eq_true rfl)
          · intro D v W hc hj hf K hK
            go_step
            exact hK.out
          · rfl
          apply Reg.RC_pure (hc := rfl) (hst := rfl) (hw := rfl) (t := 48) (hd := rfl) (ht := Nat.le_of_ble_eq_true rfl)
          · intro D v W hc hj hf K hK
            go_step
            exact hK.out
          · rfl
          refine Reg.RC_call rfl (by intro t ht; cases ht) rfl (fun D v W hc hj hf K hK => ?_) (fun _ _ => Reg.RC_at (b := ⟨_, []⟩) rfl ?_)
          · obtain ⟨B, oX, oY, oR⟩ := hj
            have hs : D 11 = false := hc.1
            have oR : Blk W (w.heap.size + 1) 23 #[.int .i64 (0), .int .i64 (0)] := by have o := oR; simp only [hs, Reg.sel_false] at o; exact o
            have lR := oR.lt
            have fR := oR.fr
            have cR0 : World.cell? W ⟨w.heap.size + 1, 0, none⟩ = some (.int .i64 (0)) := oR.c 0 rfl
            have cR1 : World.cell? W ⟨w.heap.size + 1, 1, none⟩ = some (.int .i64 (0)) := oR.c 1 rfl
            go_step
            exact hK.out undef _ Reg.any ⟨(by (repeat' first | with_reducible assumption | with_reducible exact Below.refl _ _ | with_reducible refine Below.alloc ?_ ?_ _ | with_reducible refine Below.drew ?_ | with_reducible refine belowN ?_ _ | with_reducible refine Below.setCell ?_ ?_ _ | go_size)), (show Blk _ _ _ #[.bool (negB (b * num)), .int .u64 (aHi (b * num)), .int .u64 (aLo (b * num))] from (by (repeat' first | with_reducible assumption | (with_reducible refine Blk.new' ?_; first | with_reducible rfl | (simp only [World.size_alloc, World.size_setCell, World.size_drew]; done)) | with_reducible refine Blk.alloc ?_ _ | with_reducible refine Blk.drew ?_ | with_reducible refine Blk.drewN ?_ _ | with_reducible apply Blk.three | with_reducible apply Blk.both | with_reducible refine Blk.far' ?_ ?_ | (show _ ≠ _; omega)))), (show Blk _ _ _ #[.bool (negB (a * num)), .int .u64 (aHi (a * num)), .int .u64 (aLo (a * num))] from (by (repeat' first | with_reducible assumption | (with_reducible refine Blk.new' ?_; first | with_reducible rfl | (simp only [World.size_alloc, World.size_setCell, World.size_drew]; done)) | with_reducible refine Blk.alloc ?_ _ | with_reducible refine Blk.drew ?_ | with_reducible refine Blk.drewN ?_ _ | with_reducible apply Blk.three | with_reducible apply Blk.both | with_reducible refine Blk.far' ?_ ?_ | (show _ ≠ _; omega)))), (show Blk _ _ _ #[.int .i64 ((md (dn (b * num) (den)) (upq (a * num) (den))).1), .int .i64 ((md (dn (b * num) (den)) (upq (a * num) (den))).2.1)] from (Blk.set2 (cs' := #[.int .i64 ((md (dn (b * num) (den)) (upq (a * num) (den))).1), .int .i64 ((md (dn (b * num) (den)) (upq (a * num) (den))).2.1)]) (Blk.set2 (cs' := #[.int .i64 ((md (dn (b * num) (den)) (upq (a * num) (den))).1), .int .i64 (0)]) oR (i := 0) rfl) (i := 1) rfl))⟩ Reg.none_ trivial
          apply Reg.RC_pure (hc := rfl) (hst := rfl) (hw := rfl) (t := 7) (hd := rfl) (ht := Nat.le_of_ble_eq_true rfl)
          · intro D v W hc hj hf K hK
            go_step
            exact hK.out
          · rfl
          refine Reg.RC_end (fun D v W hd hj hf => ?_)
          obtain ⟨B, oX, oY, oR⟩ := hj
          have e11 : D 11 = true := hd 11 (by decide)
          have oR : Blk W (w.heap.size + 1) 23 #[.int .i64 ((md (dn (b * num) (den)) (upq (a * num) (den))).1), .int .i64 ((md (dn (b * num) (den)) (upq (a * num) (den))).2.1)] := by have o := oR; simp only [e11, Reg.sel_true] at o; exact o
          clear e11
          clear hd hf
          refine hQ _ _ ?_
          clear hQ hops Q' ops'
          have lR := oR.lt
          have cR0 := oR.c 0 rfl
          have cR1 := oR.c 1 rfl
          have fR := oR.fr
          repeat' (first | go_values | go_skip | go_guarded | go_step | go_upon)
          refine bodyPost_ret (by simp [results, Try.results17, go_sem, lR, cR0, cR1, fR]; rfl) rfl ?_
          show G3 w _ _ _
          rw [H.out]
          exact ⟨rfl, B⟩
        · have H : Hid (scaleS a b num den = md (dn (a * num) (den)) (upq (b * num) (den))) := by show scaleS a b num den = _; rw [H9]; unfold scaleV; rw [if_neg hz, if_neg hd]; exact md_args (by simp only [mn]; omega) (by simp only [mx]; omega)
          have D1 : Hid (decide (b * num < a * num) = false) := by show decide _ = _; simp <;> omega
          have s0 : -21267647932558653966460912964485513216 ≤ a * num := by omega
          have s1 : a * num ≤ 21267647932558653966460912964485513216 := by omega
          have s2 : -21267647932558653966460912964485513216 ≤ b * num := by omega
          have s3 : b * num ≤ 21267647932558653966460912964485513216 := by omega
          clear H9 hs p0 p1 p2 p3
          go_enter Try.func17, Try.ntmps17
          go_wp2_with fail
          refine (rcheck a b _).mono ?_
          rintro e w1 ⟨rfl, hb1⟩
          have st : Steps _ w1 := hb1
          have Bn : Below w.heap.size w w1 := below_steps (by (repeat' first | with_reducible assumption | with_reducible exact Below.refl _ _ | with_reducible refine Below.alloc ?_ ?_ _ | with_reducible refine Below.drew ?_ | with_reducible refine belowN ?_ _ | with_reducible refine Below.setCell ?_ ?_ _ | go_size)) (Nat.le_refl _) st
          have nA : Blk w1 (w.heap.size) 23 #[.int .i64 (a), .int .i64 (b)] := Blk.steps (by (repeat' first | with_reducible assumption | (with_reducible refine Blk.new' ?_; first | with_reducible rfl | (simp only [World.size_alloc, World.size_setCell, World.size_drew]; done)) | with_reducible refine Blk.alloc ?_ _ | with_reducible refine Blk.drew ?_ | with_reducible refine Blk.drewN ?_ _ | with_reducible apply Blk.three | with_reducible apply Blk.both | with_reducible refine Blk.far' ?_ ?_ | (show _ ≠ _; omega))) st
          have nR : Blk w1 (w.heap.size + 1) 23 #[.int .i64 (0), .int .i64 (0)] := Blk.steps (by (repeat' first | with_reducible assumption | (with_reducible refine Blk.new' ?_; first | with_reducible rfl | (simp only [World.size_alloc, World.size_setCell, World.size_drew]; done)) | with_reducible refine Blk.alloc ?_ _ | with_reducible refine Blk.drew ?_ | with_reducible refine Blk.drewN ?_ _ | with_reducible apply Blk.three | with_reducible apply Blk.both | with_reducible refine Blk.far' ?_ ?_ | (show _ ≠ _; omega))) st
          clear st
          have B := Bn
          clear Bn
          have oA := nA
          clear nA
          have cA0 : World.cell? w1 ⟨w.heap.size, 0, none⟩ = some (.int .i64 (a)) := oA.c 0 rfl
          have cA1 : World.cell? w1 ⟨w.heap.size, 1, none⟩ = some (.int .i64 (b)) := oA.c 1 rfl
          have fA := oA.fr
          have lA := oA.lt
          have oR := nR
          clear nR
          have cR0 : World.cell? w1 ⟨w.heap.size + 1, 0, none⟩ = some (.int .i64 (0)) := oR.c 0 rfl
          have cR1 : World.cell? w1 ⟨w.heap.size + 1, 1, none⟩ = some (.int .i64 (0)) := oR.c 1 rfl
          have fR := oR.fr
          have lR := oR.lt
          rw [H1.out]
          go_wp2_with fail
          clear cA0 cA1 fA lA cR0 cR1 fR lR
          refine Reg.wp_chain_n (fun N0 => fun D v W => Below w.heap.size w W ∧ Blk W (w.heap.size) 23 #[.int .i64 (a), .int .i64 (b)] ∧ Blk W (w.heap.size + 1) 23 #[.int .i64 (0), .int .i64 (0)] ∧ (D 8 = true → ∃ g : Nat, v 8 = .pointer (some ⟨g, 0, none⟩) ∧ N0 ≤ g ∧ Blk W g 77 #[Reg.sel (D 10) (.bool false) (.bool (negB (a * num))), Reg.sel (D 10) (.int .u64 0) (.int .u64 (aHi (a * num))), Reg.sel (D 10) (.int .u64 0) (.int .u64 (aLo (a * num)))]) ∧ (D 9 = true → ∃ g : Nat, v 9 = .pointer (some ⟨g, 0, none⟩) ∧ N0 ≤ g ∧ Blk W g 77 #[Reg.sel (D 11) (.bool false) (.bool (negB (b * num))), Reg.sel (D 11) (.int .u64 0) (.int .u64 (aHi (b * num))), Reg.sel (D 11) (.int .u64 0) (.int .u64 (aLo (b * num)))]) ∧ (D 8 = true → D 9 = true → v 8 ≠ v 9) ∧ N0 ≤ W.heap.size)
            (Reg.inl [3, 7, 8, 9, 10, 11]) (Reg.gv [(3, fun x => x = .agg #[.bool (negB (a * num)), .int .u64 (aHi (a * num)), .int .u64 (aLo (a * num))]), (7, fun x => x = .agg #[.bool (negB (b * num)), .int .u64 (aHi (b * num)), .int .u64 (aLo (b * num))]), (8, fun x => ∃ g : Nat, x = .pointer (some ⟨g, 0, none⟩)), (9, fun x => ∃ g : Nat, x = .pointer (some ⟨g, 0, none⟩))]) Reg.None_ (fun _ => Reg.Any) (fun _ _ => False) (Reg.pl [(10, [(8, some 8)]), (11, [(9, some 9)]), (12, [(8, some 8), (9, some 9)])]) (Reg.pl [(8, [10]), (9, [11])])
            (by kernel_rfl) (by kernel_rfl) (by kernel_rfl) (Reg.gv_some _ (fun p hp => by simp only [List.mem_cons, List.not_mem_nil, or_false] at hp; rcases hp with rfl | rfl | rfl | rfl; exact ⟨_, rfl⟩; exact ⟨_, rfl⟩; exact ⟨_, 0, rfl⟩; exact ⟨_, 0, rfl⟩)) (fun N0 hN0 => ⟨fun v => ?_, (fun D v v' W hv hj => ?_), fun _ _ _ _ _ _ _ _ _ _ _ _ _ => Reg.none_, fun _ _ _ _ h => h.elim, fun ops' Q' hops hQ => ?_⟩)
          · exact ⟨(by first | with_reducible exact Below.drew B | with_reducible exact Below.drew (belowN B _) | (repeat' first | with_reducible assumption | with_reducible exact Below.refl _ _ | with_reducible refine Below.alloc ?_ ?_ _ | with_reducible refine Below.drew ?_ | with_reducible refine belowN ?_ _ | with_reducible refine Below.setCell ?_ ?_ _ | go_size)), (show Blk _ _ _ #[.int .i64 (a), .int .i64 (b)] from (by first | with_reducible exact oA | (repeat' first | with_reducible assumption | (with_reducible refine Blk.new' ?_; first | with_reducible rfl | (simp only [World.size_alloc, World.size_setCell, World.size_drew]; done)) | with_reducible refine Blk.alloc ?_ _ | with_reducible refine Blk.drew ?_ | with_reducible refine Blk.drewN ?_ _ | with_reducible apply Blk.three | with_reducible apply Blk.both | with_reducible refine Blk.far' ?_ ?_ | (show _ ≠ _; omega)))), (show Blk _ _ _ #[.int .i64 (0), .int .i64 (0)] from (by first | with_reducible exact oR | (repeat' first | with_reducible assumption | (with_reducible refine Blk.new' ?_; first | with_reducible rfl | (simp only [World.size_alloc, World.size_setCell, World.size_drew]; done)) | with_reducible refine Blk.alloc ?_ _ | with_reducible refine Blk.drew ?_ | with_reducible refine Blk.drewN ?_ _ | with_reducible apply Blk.three | with_reducible apply Blk.both | with_reducible refine Blk.far' ?_ ?_ | (show _ ≠ _; omega)))), (fun h => by cases h), (fun h => by cases h), (fun h => by cases h), (Nat.le_of_eq hN0.out)⟩
          · obtain ⟨B, oA, oR, pa8, pa9, q8_9, zN0⟩ := hj
            exact ⟨B, oA, oR, (fun h => hv 8 h ▸ pa8 h), (fun h => hv 9 h ▸ pa9 h), (fun h h' => hv 8 h ▸ hv 9 h' ▸ q8_9 h h'), zN0⟩
          have iA : w.heap.size < N0 := by have h := oA.lt; have e := hN0.out; (try simp only [World.size_alloc, World.size_setCell, World.size_drew, World.heap_drewN] at e); omega
          have iR : w.heap.size + 1 < N0 := by have h := oR.lt; have e := hN0.out; (try simp only [World.size_alloc, World.size_setCell, World.size_drew, World.heap_drewN] at e); omega
          have uN0 : w.heap.size ≤ N0 := by have h := Below.size B; have e := hN0.out; (try simp only [World.size_alloc, World.size_setCell, World.size_drew, World.heap_drewN] at e); (try simp only [World.size_alloc, World.size_setCell, World.size_drew, World.heap_drewN] at h); omega
          clear B oA oR hN0
          apply Reg.RC_pure (hc := rfl) (hst := rfl) (hw := rfl) (t := 19) (hd := rfl) (ht := Nat.le_of_ble_eq_true rfl)
          · intro D v W hc hj hf K hK
            go_step
            exact hK.out
          · rfl
          apply Reg.RC_pure (hc := rfl) (hst := rfl) (hw := rfl) (t := 20) (hd := rfl) (ht := Nat.le_of_ble_eq_true rfl)
          · intro D v W hc hj hf K hK
            obtain ⟨B, oA, oR, pa8, pa9, q8_9, zN0⟩ := hj
            have cA0 : World.cell? W ⟨w.heap.size, 0, none⟩ = some (.int .i64 (a)) := oA.c 0 rfl
            have cA1 : World.cell? W ⟨w.heap.size, 1, none⟩ = some (.int .i64 (b)) := oA.c 1 rfl
            go_step
            exact hK.out
          · rfl
          apply Reg.RC_pure (hc := rfl) (hst := rfl) (hw := rfl) (t := 21) (hd := rfl) (ht := Nat.le_of_ble_eq_true rfl)
          · intro D v W hc hj hf K hK
            go_step
            exact hK.out
          · rfl
          refine Reg.RC_call rfl (by intro t ht; cases ht; exact Nat.le_of_ble_eq_true rfl) rfl (fun D v W hc hj hf K hK => ?_) (fun x hx => ?_)
          · obtain ⟨B, oA, oR, pa8, pa9, q8_9, zN0⟩ := hj
            go_step
            refine (rtimes_b _ _ _ (by omega) (by omega) (by omega) (by omega)).mono ?_
            rintro e W' ⟨rfl, hb⟩
            have st : Steps W W' := hb
            exact hK.out _ _ Reg.any ⟨below_steps B (Nat.le_refl _) st, oA.steps st, oR.steps st, (fun h => let ⟨g, h1, h2, h3⟩ := pa8 h; ⟨g, h1, h2, h3.steps st⟩), (fun h => let ⟨g, h1, h2, h3⟩ := pa9 h; ⟨g, h1, h2, h3.steps st⟩), (fun h h' => q8_9 h h'), (Nat.le_trans zN0 st.size)⟩ Reg.none_ rfl
          have hx : x = .agg #[.bool (negB (a * num)), .int .u64 (aHi (a * num)), .int .u64 (aLo (a * num))] := hx
          subst hx
          refine Reg.RC_at (b := ⟨#[_, _, _, _, _, _, _, _, _, _, _, _, _, _, _, _, _, _, _, _, _, _, _, _, _, _, _, _, _, _, _, _, _, _, _, _, _, _, _, _, _, _, _, _, _, _, _, _, _], []⟩) rfl ?_
          apply Reg.RC_pure (hc := rfl) (hst := rfl) (hw := rfl) (t := 23) (hd := rfl) (ht := Nat.le_of_ble_eq_true rfl)
          · intro D v W hc hj hf K hK
            go_step
            exact hK.out
          · rfl
          apply Reg.RC_pure (hc := rfl) (hst := rfl) (hw := rfl) (t := 24) (hd := rfl) (ht := Nat.le_of_ble_eq_true rfl)
          · intro D v W hc hj hf K hK
            obtain ⟨B, oA, oR, pa8, pa9, q8_9, zN0⟩ := hj
            have cA0 : World.cell? W ⟨w.heap.size, 0, none⟩ = some (.int .i64 (a)) := oA.c 0 rfl
            have cA1 : World.cell? W ⟨w.heap.size, 1, none⟩ = some (.int .i64 (b)) := oA.c 1 rfl
            go_step
            exact hK.out
          · rfl
          apply Reg.RC_pure (hc := rfl) (hst := rfl) (hw := rfl) (t := 25) (hd := rfl) (ht := Nat.le_of_ble_eq_true rfl)
          · intro D v W hc hj hf K hK
            go_step
            exact hK.out
          · rfl
          refine Reg.RC_call rfl (by intro t ht; cases ht; exact Nat.le_of_ble_eq_true rfl) rfl (fun D v W hc hj hf K hK => ?_) (fun x hx => ?_)
          · obtain ⟨B, oA, oR, pa8, pa9, q8_9, zN0⟩ := hj
            go_step
            refine (rtimes_b _ _ _ (by omega) (by omega) (by omega) (by omega)).mono ?_
            rintro e W' ⟨rfl, hb⟩
            have st : Steps W W' := hb
            exact hK.out _ _ Reg.any ⟨below_steps B (Nat.le_refl _) st, oA.steps st, oR.steps st, (fun h => let ⟨g, h1, h2, h3⟩ := pa8 h; ⟨g, h1, h2, h3.steps st⟩), (fun h => let ⟨g, h1, h2, h3⟩ := pa9 h; ⟨g, h1, h2, h3.steps st⟩), (fun h h' => q8_9 h h'), (Nat.le_trans zN0 st.size)⟩ Reg.none_ rfl
          have hx : x = .agg #[.bool (negB (b * num)), .int .u64 (aHi (b * num)), .int .u64 (aLo (b * num))] := hx
          subst hx
          refine Reg.RC_at (b := ⟨#[_, _, _, _, _, _, _, _, _, _, _, _, _, _, _, _, _, _, _, _, _, _, _, _, _, _, _, _, _, _, _, _, _, _, _, _, _, _, _, _, _, _, _, _, _, _, _, _, _], []⟩) rfl ?_
          refine Reg.RC_call rfl (by intro t ht; cases ht; exact Nat.le_of_ble_eq_true rfl) rfl (fun D v W hc hj hf K hK => ?_) (fun x hx => ?_)
          · obtain ⟨B, oA, oR, pa8, pa9, q8_9, zN0⟩ := hj
            have hs : D 10 = false := hc.2 10 (.head _)
            go_step
            exact hK.out _ _ Reg.any ⟨Below.alloc B B.size _, oA.alloc _, oR.alloc _, (fun _ => ⟨W.heap.size, rfl, zN0, (by show Blk _ _ _ #[Reg.sel (D 10) (.bool false) (.bool (negB (a * num))), Reg.sel (D 10) (.int .u64 0) (.int .u64 (aHi (a * num))), Reg.sel (D 10) (.int .u64 0) (.int .u64 (aLo (a * num)))]; simp only [hs, Reg.sel_false]; exact Blk.new W _ _)⟩), (fun h => let ⟨g, h1, h2, h3⟩ := pa9 h; ⟨g, h1, h2, h3.alloc _⟩), (fun _ h' => let ⟨g, h1, _, h3⟩ := pa9 h'; fun e => Reg.ptr_ne h3.lt (e.trans h1)), (Nat.le_trans zN0 (by rw [World.size_alloc]; exact Nat.le_succ _))⟩ Reg.none_ ⟨_, rfl⟩
          obtain ⟨gX, hx⟩ : ∃ g : Nat, x = .pointer (some ⟨g, 0, none⟩) := hx
          subst hx
          refine Reg.RC_at (b := ⟨#[_, _, _, _, _, _, _, _, _, _, _, _, _, _, _, _, _, _, _, _, _, _, _, _, _, _, _, _, _, _, _, _, _, _, _, _, _, _, _, _, _, _, _, _, _, _, _, _, _], []⟩) rfl ?_
          refine Reg.RC_call rfl (by intro t ht; cases ht; exact Nat.le_of_ble_eq_true rfl) rfl (fun D v W hc hj hf K hK => ?_) (fun x hx => ?_)
          · obtain ⟨B, oA, oR, pa8, pa9, q8_9, zN0⟩ := hj
            have hs : D 11 = false := hc.2 11 (.head _)
            go_step
            exact hK.out _ _ Reg.any ⟨Below.alloc B B.size _, oA.alloc _, oR.alloc _, (fun h => let ⟨g, h1, h2, h3⟩ := pa8 h; ⟨g, h1, h2, h3.alloc _⟩), (fun _ => ⟨W.heap.size, rfl, zN0, (by show Blk _ _ _ #[Reg.sel (D 11) (.bool false) (.bool (negB (b * num))), Reg.sel (D 11) (.int .u64 0) (.int .u64 (aHi (b * num))), Reg.sel (D 11) (.int .u64 0) (.int .u64 (aLo (b * num)))]; simp only [hs, Reg.sel_false]; exact Blk.new W _ _)⟩), (fun h _ => let ⟨g, h1, _, h3⟩ := pa8 h; fun e => Reg.ptr_ne h3.lt (e.symm.trans h1)), (Nat.le_trans zN0 (by rw [World.size_alloc]; exact Nat.le_succ _))⟩ Reg.none_ ⟨_, rfl⟩
          obtain ⟨gY, hx⟩ : ∃ g : Nat, x = .pointer (some ⟨g, 0, none⟩) := hx
          subst hx
          refine Reg.RC_at (b := ⟨#[_, _, _, _, _, _, _, _, _, _, _, _, _, _, _, _, _, _, _, _, _, _, _, _, _, _, _, _, _, _, _, _, _, _, _, _, _, _, _, _, _, _, _, _, _, _, _, _, _], []⟩) rfl ?_
          refine Reg.RC_call rfl (by intro t ht; cases ht) rfl (fun D v W hc hj hf K hK => ?_) (fun _ _ => Reg.RC_at (b := ⟨_, []⟩) rfl ?_)
          · obtain ⟨B, oA, oR, pa8, pa9, q8_9, zN0⟩ := hj
            have hs : D 10 = false := hc.1
            obtain ⟨hd, he, -⟩ := hf (8, some 8) (.head _) rfl
            obtain ⟨g, h1, h2, h3⟩ := pa8 hd
            obtain rfl : gX = g := Reg.ptr_eq ((show v 8 = Value.pointer (some ⟨gX, 0, none⟩) from he).symm.trans h1)
            have oo : Blk W gX 77 #[.bool false, .int .u64 0, .int .u64 0] := by have o := h3; simp only [hs, Reg.sel_false] at o; exact o
            have cc0 : World.cell? W ⟨gX, 0, none⟩ = some (.bool false) := oo.c 0 rfl
            have cc1 : World.cell? W ⟨gX, 1, none⟩ = some (.int .u64 0) := oo.c 1 rfl
            have cc2 : World.cell? W ⟨gX, 2, none⟩ = some (.int .u64 0) := oo.c 2 rfl
            have ff := oo.fr
            have ll := oo.lt
            go_step
            have nn := h2
            exact hK.out undef _ Reg.any ⟨(by (repeat' first | with_reducible assumption | with_reducible exact Below.refl _ _ | with_reducible refine Below.alloc ?_ ?_ _ | with_reducible refine Below.drew ?_ | with_reducible refine belowN ?_ _ | with_reducible refine Below.setCell ?_ ?_ _ | go_size)), (show Blk _ _ _ #[.int .i64 (a), .int .i64 (b)] from (by (repeat' first | with_reducible assumption | (with_reducible refine Blk.new' ?_; first | with_reducible rfl | (simp only [World.size_alloc, World.size_setCell, World.size_drew]; done)) | with_reducible refine Blk.alloc ?_ _ | with_reducible refine Blk.drew ?_ | with_reducible refine Blk.drewN ?_ _ | with_reducible apply Blk.three | with_reducible apply Blk.both | with_reducible refine Blk.far' ?_ ?_ | (show _ ≠ _; omega)))), (show Blk _ _ _ #[.int .i64 (0), .int .i64 (0)] from (by (repeat' first | with_reducible assumption | (with_reducible refine Blk.new' ?_; first | with_reducible rfl | (simp only [World.size_alloc, World.size_setCell, World.size_drew]; done)) | with_reducible refine Blk.alloc ?_ _ | with_reducible refine Blk.drew ?_ | with_reducible refine Blk.drewN ?_ _ | with_reducible apply Blk.three | with_reducible apply Blk.both | with_reducible refine Blk.far' ?_ ?_ | (show _ ≠ _; omega)))), (fun _ => ⟨gX, h1, h2, (show Blk _ _ _ #[.bool (negB (a * num)), .int .u64 (aHi (a * num)), .int .u64 (aLo (a * num))] from (Blk.set2 (cs' := #[.bool (negB (a * num)), .int .u64 (aHi (a * num)), .int .u64 (aLo (a * num))]) (Blk.set2 (cs' := #[.bool (negB (a * num)), .int .u64 (aHi (a * num)), .int .u64 0]) (Blk.set2 (cs' := #[.bool (negB (a * num)), .int .u64 0, .int .u64 0]) oo (i := 0) rfl) (i := 1) rfl) (i := 2) rfl))⟩), (fun h => let ⟨g', h1', h2', h3'⟩ := pa9 h; have hne : g' ≠ gX := (fun e => q8_9 hd h (h1.trans ((congrArg (fun n => Value.pointer (some ⟨n, 0, none⟩)) e.symm).trans h1'.symm))); ⟨g', h1', h2', (show Blk _ _ _ #[Reg.sel (D 11) (.bool false) (.bool (negB (b * num))), Reg.sel (D 11) (.int .u64 0) (.int .u64 (aHi (b * num))), Reg.sel (D 11) (.int .u64 0) (.int .u64 (aLo (b * num)))] from (by (repeat' first | with_reducible assumption | (with_reducible refine Blk.new' ?_; first | with_reducible rfl | (simp only [World.size_alloc, World.size_setCell, World.size_drew]; done)) | with_reducible refine Blk.alloc ?_ _ | with_reducible refine Blk.drew ?_ | with_reducible refine Blk.drewN ?_ _ | with_reducible apply Blk.three | with_reducible apply Blk.both | with_reducible refine Blk.far' ?_ ?_ | (show _ ≠ _; omega))))⟩), (fun h h' => q8_9 h h'), (by simpa using zN0)⟩ Reg.none_ trivial
          refine Reg.RC_call rfl (by intro t ht; cases ht) rfl (fun D v W hc hj hf K hK => ?_) (fun _ _ => Reg.RC_at (b := ⟨_, []⟩) rfl ?_)
          · obtain ⟨B, oA, oR, pa8, pa9, q8_9, zN0⟩ := hj
            have hs : D 11 = false := hc.1
            obtain ⟨hd, he, -⟩ := hf (9, some 9) (.head _) rfl
            obtain ⟨g, h1, h2, h3⟩ := pa9 hd
            obtain rfl : gY = g := Reg.ptr_eq ((show v 9 = Value.pointer (some ⟨gY, 0, none⟩) from he).symm.trans h1)
            have oo : Blk W gY 77 #[.bool false, .int .u64 0, .int .u64 0] := by have o := h3; simp only [hs, Reg.sel_false] at o; exact o
            have cc0 : World.cell? W ⟨gY, 0, none⟩ = some (.bool false) := oo.c 0 rfl
            have cc1 : World.cell? W ⟨gY, 1, none⟩ = some (.int .u64 0) := oo.c 1 rfl
            have cc2 : World.cell? W ⟨gY, 2, none⟩ = some (.int .u64 0) := oo.c 2 rfl
            have ff := oo.fr
            have ll := oo.lt
            go_step
            have nn := h2
            exact hK.out undef _ Reg.any ⟨(by (repeat' first | with_reducible assumption | with_reducible exact Below.refl _ _ | with_reducible refine Below.alloc ?_ ?_ _ | with_reducible refine Below.drew ?_ | with_reducible refine belowN ?_ _ | with_reducible refine Below.setCell ?_ ?_ _ | go_size)), (show Blk _ _ _ #[.int .i64 (a), .int .i64 (b)] from (by (repeat' first | with_reducible assumption | (with_reducible refine Blk.new' ?_; first | with_reducible rfl | (simp only [World.size_alloc, World.size_setCell, World.size_drew]; done)) | with_reducible refine Blk.alloc ?_ _ | with_reducible refine Blk.drew ?_ | with_reducible refine Blk.drewN ?_ _ | with_reducible apply Blk.three | with_reducible apply Blk.both | with_reducible refine Blk.far' ?_ ?_ | (show _ ≠ _; omega)))), (show Blk _ _ _ #[.int .i64 (0), .int .i64 (0)] from (by (repeat' first | with_reducible assumption | (with_reducible refine Blk.new' ?_; first | with_reducible rfl | (simp only [World.size_alloc, World.size_setCell, World.size_drew]; done)) | with_reducible refine Blk.alloc ?_ _ | with_reducible refine Blk.drew ?_ | with_reducible refine Blk.drewN ?_ _ | with_reducible apply Blk.three | with_reducible apply Blk.both | with_reducible refine Blk.far' ?_ ?_ | (show _ ≠ _; omega)))), (fun h => let ⟨g', h1', h2', h3'⟩ := pa8 h; have hne : g' ≠ gY := (fun e => q8_9 h hd (h1'.trans ((congrArg (fun n => Value.pointer (some ⟨n, 0, none⟩)) e).trans h1.symm))); ⟨g', h1', h2', (show Blk _ _ _ #[Reg.sel (D 10) (.bool false) (.bool (negB (a * num))), Reg.sel (D 10) (.int .u64 0) (.int .u64 (aHi (a * num))), Reg.sel (D 10) (.int .u64 0) (.int .u64 (aLo (a * num)))] from (by (repeat' first | with_reducible assumption | (with_reducible refine Blk.new' ?_; first | with_reducible rfl | (simp only [World.size_alloc, World.size_setCell, World.size_drew]; done)) | with_reducible refine Blk.alloc ?_ _ | with_reducible refine Blk.drew ?_ | with_reducible refine Blk.drewN ?_ _ | with_reducible apply Blk.three | with_reducible apply Blk.both | with_reducible refine Blk.far' ?_ ?_ | (show _ ≠ _; omega))))⟩), (fun _ => ⟨gY, h1, h2, (show Blk _ _ _ #[.bool (negB (b * num)), .int .u64 (aHi (b * num)), .int .u64 (aLo (b * num))] from (Blk.set2 (cs' := #[.bool (negB (b * num)), .int .u64 (aHi (b * num)), .int .u64 (aLo (b * num))]) (Blk.set2 (cs' := #[.bool (negB (b * num)), .int .u64 (aHi (b * num)), .int .u64 0]) (Blk.set2 (cs' := #[.bool (negB (b * num)), .int .u64 0, .int .u64 0]) oo (i := 0) rfl) (i := 1) rfl) (i := 2) rfl))⟩), (fun h h' => q8_9 h h'), (by simpa using zN0)⟩ Reg.none_ trivial
          refine Reg.RC_end (fun D v W hd hj hf => ?_)
          obtain ⟨B, oA, oR, pa8, pa9, q8_9, zN0⟩ := hj
          obtain ⟨-, he, -⟩ := hf (8, some 8) (.head _) rfl
          obtain ⟨g, h1, hXn, h3⟩ := pa8 (hd 8 (by decide))
          obtain rfl : gX = g := Reg.ptr_eq ((show v 8 = Value.pointer (some ⟨gX, 0, none⟩) from he).symm.trans h1)
          have oX : Blk W gX 77 #[.bool (negB (a * num)), .int .u64 (aHi (a * num)), .int .u64 (aLo (a * num))] := by have o := h3; simp only [hd 10 (by decide), Reg.inl, Reg.sel_true] at o; exact o
          have lowX : w.heap.size ≤ gX := Nat.le_trans uN0 hXn
          have sAX : w.heap.size ≠ gX := by have := iA; have := hXn; omega
          have sRX : w.heap.size + 1 ≠ gX := by have := iR; have := hXn; omega
          have he8 := h1
          clear he h1 h3 pa8 hXn
          obtain ⟨-, he, -⟩ := hf (9, some 9) (.tail _ (.head _)) rfl
          obtain ⟨g, h1, hYn, h3⟩ := pa9 (hd 9 (by decide))
          obtain rfl : gY = g := Reg.ptr_eq ((show v 9 = Value.pointer (some ⟨gY, 0, none⟩) from he).symm.trans h1)
          have oY : Blk W gY 77 #[.bool (negB (b * num)), .int .u64 (aHi (b * num)), .int .u64 (aLo (b * num))] := by have o := h3; simp only [hd 11 (by decide), Reg.inl, Reg.sel_true] at o; exact o
          have lowY : w.heap.size ≤ gY := Nat.le_trans uN0 hYn
          have sAY : w.heap.size ≠ gY := by have := iA; have := hYn; omega
          have sRY : w.heap.size + 1 ≠ gY := by have := iR; have := hYn; omega
          have he9 := h1
          clear he h1 h3 pa9 hYn
          have nXY : gX ≠ gY := fun e => q8_9 (hd 8 (by decide)) (hd 9 (by decide)) (he8.trans ((congrArg (fun n => Value.pointer (some ⟨n, 0, none⟩)) e).trans he9.symm))
          have nYX : gY ≠ gX := Ne.symm nXY
          clear he8 he9 zN0 uN0
          clear hd hf q8_9 iA iR
          refine hQ _ _ ?_
          clear hQ hops Q' ops'
          have nX := Blk.ne_ oX oR (by decide)
          have nY := Blk.ne_ oY oR (by decide)
          have lX := oX.lt
          have fX := oX.fr
          have cX0 := oX.c 0 rfl
          have cX1 := oX.c 1 rfl
          have cX2 := oX.c 2 rfl
          have lY := oY.lt
          have fY := oY.fr
          have cY0 := oY.c 0 rfl
          have cY1 := oY.c 1 rfl
          have cY2 := oY.c 2 rfl
          go_wp2_with fail
          refine (rless_q _ _ _ _ D1.out).mono ?_
          rintro e w1 ⟨rfl, hb1⟩
          have st : Steps _ w1 := hb1
          have Bn : Below w.heap.size w w1 := below_steps (by (repeat' first | with_reducible assumption | with_reducible exact Below.refl _ _ | with_reducible refine Below.alloc ?_ ?_ _ | with_reducible refine Below.drew ?_ | with_reducible refine belowN ?_ _ | with_reducible refine Below.setCell ?_ ?_ _ | go_size)) (Nat.le_refl _) st
          have nX : Blk w1 (gX) 77 #[.bool (negB (a * num)), .int .u64 (aHi (a * num)), .int .u64 (aLo (a * num))] := Blk.steps (by (repeat' first | with_reducible assumption | (with_reducible refine Blk.new' ?_; first | with_reducible rfl | (simp only [World.size_alloc, World.size_setCell, World.size_drew]; done)) | with_reducible refine Blk.alloc ?_ _ | with_reducible refine Blk.drew ?_ | with_reducible refine Blk.drewN ?_ _ | with_reducible apply Blk.three | with_reducible apply Blk.both | with_reducible refine Blk.far' ?_ ?_ | (show _ ≠ _; omega))) st
          have nY : Blk w1 (gY) 77 #[.bool (negB (b * num)), .int .u64 (aHi (b * num)), .int .u64 (aLo (b * num))] := Blk.steps (by (repeat' first | with_reducible assumption | (with_reducible refine Blk.new' ?_; first | with_reducible rfl | (simp only [World.size_alloc, World.size_setCell, World.size_drew]; done)) | with_reducible refine Blk.alloc ?_ _ | with_reducible refine Blk.drew ?_ | with_reducible refine Blk.drewN ?_ _ | with_reducible apply Blk.three | with_reducible apply Blk.both | with_reducible refine Blk.far' ?_ ?_ | (show _ ≠ _; omega))) st
          have nR : Blk w1 (w.heap.size + 1) 23 #[.int .i64 (0), .int .i64 (0)] := Blk.steps (by (repeat' first | with_reducible assumption | (with_reducible refine Blk.new' ?_; first | with_reducible rfl | (simp only [World.size_alloc, World.size_setCell, World.size_drew]; done)) | with_reducible refine Blk.alloc ?_ _ | with_reducible refine Blk.drew ?_ | with_reducible refine Blk.drewN ?_ _ | with_reducible apply Blk.three | with_reducible apply Blk.both | with_reducible refine Blk.far' ?_ ?_ | (show _ ≠ _; omega))) st
          clear B oX oY oR lX fX lY fY cX0 cX1 cX2 cY0 cY1 cY2
          clear st
          have B := Bn
          clear Bn
          have oX := nX
          clear nX
          have cX0 : World.cell? w1 ⟨gX, 0, none⟩ = some (.bool (negB (a * num))) := oX.c 0 rfl
          have cX1 : World.cell? w1 ⟨gX, 1, none⟩ = some (.int .u64 (aHi (a * num))) := oX.c 1 rfl
          have cX2 : World.cell? w1 ⟨gX, 2, none⟩ = some (.int .u64 (aLo (a * num))) := oX.c 2 rfl
          have fX := oX.fr
          have lX := oX.lt
          have oY := nY
          clear nY
          have cY0 : World.cell? w1 ⟨gY, 0, none⟩ = some (.bool (negB (b * num))) := oY.c 0 rfl
          have cY1 : World.cell? w1 ⟨gY, 1, none⟩ = some (.int .u64 (aHi (b * num))) := oY.c 1 rfl
          have cY2 : World.cell? w1 ⟨gY, 2, none⟩ = some (.int .u64 (aLo (b * num))) := oY.c 2 rfl
          have fY := oY.fr
          have lY := oY.lt
          have oR := nR
          clear nR
          have cR0 : World.cell? w1 ⟨w.heap.size + 1, 0, none⟩ = some (.int .i64 (0)) := oR.c 0 rfl
          have cR1 : World.cell? w1 ⟨w.heap.size + 1, 1, none⟩ = some (.int .i64 (0)) := oR.c 1 rfl
          have fR := oR.fr
          have lR := oR.lt
          go_wp2_with fail
          clear fX lX fY lY fR lR cX0 cX1 cX2 cY0 cY1 cY2 cR0 cR1
          refine Reg.wp_chain (fun D v W => Below w.heap.size w W ∧ Blk W (gX) 77 #[.bool (negB (a * num)), .int .u64 (aHi (a * num)), .int .u64 (aLo (a * num))] ∧ Blk W (gY) 77 #[.bool (negB (b * num)), .int .u64 (aHi (b * num)), .int .u64 (aLo (b * num))] ∧ Blk W (w.heap.size + 1) 23 #[Reg.sel (D 11) (.int .i64 (0)) (.int .i64 ((md (dn (a * num) (den)) (upq (b * num) (den))).1)), Reg.sel (D 11) (.int .i64 (0)) (.int .i64 ((md (dn (a * num) (den)) (upq (b * num) (den))).2.1))])
            (Reg.inl [2, 3, 6, 7, 8, 11]) (Reg.ge [(2, .int .u64 (den)), (3, .int .i64 (dn (a * num) (den))), (6, .int .u64 (den)), (7, .int .i64 (upq (b * num) (den))), (8, .tuple #[.agg #[.int .i64 ((md (dn (a * num) (den)) (upq (b * num) (den))).1), .int .i64 ((md (dn (a * num) (den)) (upq (b * num) (den))).2.1)], .int .i64 ((md (dn (a * num) (den)) (upq (b * num) (den))).2.2)])]) Reg.None_ (fun _ => Reg.Any) (fun _ _ => False) (Reg.pl []) (Reg.pl [])
            (by kernel_rfl) (by kernel_rfl) (by kernel_rfl) (Reg.ge_some _) (fun v => ?_) (fun _ _ _ _ _ h => h) (fun _ _ _ _ _ _ _ _ _ _ _ _ _ => Reg.none_) (fun _ _ _ _ h => h.elim) (fun ops' Q' hops hQ => ?_)
          · exact ⟨(by first | with_reducible exact Below.drew B | with_reducible exact Below.drew (belowN B _) | (repeat' first | with_reducible assumption | with_reducible exact Below.refl _ _ | with_reducible refine Below.alloc ?_ ?_ _ | with_reducible refine Below.drew ?_ | with_reducible refine belowN ?_ _ | with_reducible refine Below.setCell ?_ ?_ _ | go_size)), (show Blk _ _ _ #[.bool (negB (a * num)), .int .u64 (aHi (a * num)), .int .u64 (aLo (a * num))] from (by first | with_reducible exact oX | (repeat' first | with_reducible assumption | (with_reducible refine Blk.new' ?_; first | with_reducible rfl | (simp only [World.size_alloc, World.size_setCell, World.size_drew]; done)) | with_reducible refine Blk.alloc ?_ _ | with_reducible refine Blk.drew ?_ | with_reducible refine Blk.drewN ?_ _ | with_reducible apply Blk.three | with_reducible apply Blk.both | with_reducible refine Blk.far' ?_ ?_ | (show _ ≠ _; omega)))), (show Blk _ _ _ #[.bool (negB (b * num)), .int .u64 (aHi (b * num)), .int .u64 (aLo (b * num))] from (by first | with_reducible exact oY | (repeat' first | with_reducible assumption | (with_reducible refine Blk.new' ?_; first | with_reducible rfl | (simp only [World.size_alloc, World.size_setCell, World.size_drew]; done)) | with_reducible refine Blk.alloc ?_ _ | with_reducible refine Blk.drew ?_ | with_reducible refine Blk.drewN ?_ _ | with_reducible apply Blk.three | with_reducible apply Blk.both | with_reducible refine Blk.far' ?_ ?_ | (show _ ≠ _; omega)))), (show Blk _ _ _ #[.int .i64 (0), .int .i64 (0)] from (by first | with_reducible exact oR | (repeat' first | with_reducible assumption | (with_reducible refine Blk.new' ?_; first | with_reducible rfl | (simp only [World.size_alloc, World.size_setCell, World.size_drew]; done)) | with_reducible refine Blk.alloc ?_ _ | with_reducible refine Blk.drew ?_ | with_reducible refine Blk.drewN ?_ _ | with_reducible apply Blk.three | with_reducible apply Blk.both | with_reducible refine Blk.far' ?_ ?_ | (show _ ≠ _; omega))))⟩
          clear B oX oY oR
          apply Reg.RC_pure (hc := rfl) (hst := rfl) (hw := rfl) (t := 38) (hd := rfl) (ht := Nat.le_of_ble_eq_true rfl)
          · intro D v W hc hj hf K hK
            obtain ⟨B, oX, oY, oR⟩ := hj
            have cX0 : World.cell? W ⟨gX, 0, none⟩ = some (.bool (negB (a * num))) := oX.c 0 rfl
            have cX1 : World.cell? W ⟨gX, 1, none⟩ = some (.int .u64 (aHi (a * num))) := oX.c 1 rfl
            have cX2 : World.cell? W ⟨gX, 2, none⟩ = some (.int .u64 (aLo (a * num))) := oX.c 2 rfl
            go_step
            exact hK.out
          · rfl
          apply Reg.RC_pure (hc := rfl) (hst := rfl) (hw := rfl) (t := 39) (hd := rfl) (ht := Nat.le_of_ble_eq_true rfl)
          · intro D v W hc hj hf K hK
            go_step
            exact hK.out
          · rfl
          refine Reg.RC_exact _ (fun _ h => h) rfl (by intro t ht; cases ht; exact Nat.le_of_ble_eq_true rfl) rfl (fun D v W hc hj hf K hK => ?_) (Reg.RC_at (b := ⟨#[_, _, _, _, _, _, _, _, _, _, _, _, _, _, _, _, _, _, _, _, _, _, _, _, _, _, _, _, _, _, _, _, _, _, _, _, _, _, _, _, _, _, _, _, _, _, _, _, _], []⟩) rfl ?_)
          · obtain ⟨B, oX, oY, oR⟩ := hj
            go_step
            refine (rsize_b _ _ _ d0 d1 habs.out).mono ?_
            rintro e W' ⟨rfl, hb⟩
            have st : Steps W W' := hb
            exact hK.out _ _ Reg.any ⟨below_steps B (Nat.le_refl _) st, oX.steps st, oY.steps st, oR.steps st⟩ Reg.none_ rfl
          refine Reg.RC_exact _ (fun _ h => h) rfl (by intro t ht; cases ht; exact Nat.le_of_ble_eq_true rfl) rfl (fun D v W hc hj hf K hK => ?_) (Reg.RC_at (b := ⟨#[_, _, _, _, _, _, _, _, _, _, _, _, _, _, _, _, _, _, _, _, _, _, _, _, _, _, _, _, _, _, _, _, _, _, _, _, _, _, _, _, _, _, _, _, _, _, _, _, _], []⟩) rfl ?_)
          · obtain ⟨B, oX, oY, oR⟩ := hj
            go_step
            refine (rover_dn _ _ _ (by omega) (by omega) (by omega) (by omega)).mono ?_
            rintro e W' ⟨rfl, hb⟩
            have st : Steps W W' := hb
            exact hK.out _ _ Reg.any ⟨below_steps B (Nat.le_refl _) st, oX.steps st, oY.steps st, oR.steps st⟩ Reg.none_ rfl
          apply Reg.RC_pure (hc := rfl) (hst := rfl) (hw := rfl) (t := 42) (hd := rfl) (ht := Nat.le_of_ble_eq_true rfl)
          · intro D v W hc hj hf K hK
            obtain ⟨B, oX, oY, oR⟩ := hj
            have cY0 : World.cell? W ⟨gY, 0, none⟩ = some (.bool (negB (b * num))) := oY.c 0 rfl
            have cY1 : World.cell? W ⟨gY, 1, none⟩ = some (.int .u64 (aHi (b * num))) := oY.c 1 rfl
            have cY2 : World.cell? W ⟨gY, 2, none⟩ = some (.int .u64 (aLo (b * num))) := oY.c 2 rfl
            go_step
            exact hK.out
          · rfl
          apply Reg.RC_pure (hc := rfl) (hst := rfl) (hw := rfl) (t := 43) (hd := rfl) (ht := Nat.le_of_ble_eq_true rfl)
          · intro D v W hc hj hf K hK
            go_step
            exact hK.out
          · rfl
          refine Reg.RC_exact _ (fun _ h => h) rfl (by intro t ht; cases ht; exact Nat.le_of_ble_eq_true rfl) rfl (fun D v W hc hj hf K hK => ?_) (Reg.RC_at (b := ⟨#[_, _, _, _, _, _, _, _, _, _, _, _, _, _, _, _, _, _, _, _, _, _, _, _, _, _, _, _, _, _, _, _, _, _, _, _, _, _, _, _, _, _, _, _, _, _, _, _, _], []⟩) rfl ?_)
          · obtain ⟨B, oX, oY, oR⟩ := hj
            go_step
            refine (rsize_b _ _ _ d0 d1 habs.out).mono ?_
            rintro e W' ⟨rfl, hb⟩
            have st : Steps W W' := hb
            exact hK.out _ _ Reg.any ⟨below_steps B (Nat.le_refl _) st, oX.steps st, oY.steps st, oR.steps st⟩ Reg.none_ rfl
          refine Reg.RC_exact _ (fun _ h => h) rfl (by intro t ht; cases ht; exact Nat.le_of_ble_eq_true rfl) rfl (fun D v W hc hj hf K hK => ?_) (Reg.RC_at (b := ⟨#[_, _, _, _, _, _, _, _, _, _, _, _, _, _, _, _, _, _, _, _, _, _, _, _, _, _, _, _, _, _, _, _, _, _, _, _, _, _, _, _, _, _, _, _, _, _, _, _, _], []⟩) rfl ?_)
          · obtain ⟨B, oX, oY, oR⟩ := hj
            go_step
            refine (rover_up _ _ _ (by omega) (by omega) (by omega) (by omega)).mono ?_
            rintro e W' ⟨rfl, hb⟩
            have st : Steps W W' := hb
            exact hK.out _ _ Reg.any ⟨below_steps B (Nat.le_refl _) st, oX.steps st, oY.steps st, oR.steps st⟩ Reg.none_ rfl
          refine Reg.RC_exact _ (fun _ h => h) rfl (by intro t ht; cases ht; exact Nat.le_of_ble_eq_true rfl) rfl (fun D v W hc hj hf K hK => ?_) (Reg.RC_at (b := ⟨#[_, _, _, _, _, _, _, _, _, _, _, _, _, _, _, _, _, _, _, _, _, _, _, _, _, _, _, _, _, _, _, _, _, _, _, _, _, _, _, _, _, _, _, _, _, _, _, _, _], []⟩) rfl ?_)
          · obtain ⟨B, oX, oY, oR⟩ := hj
            go_step
            refine (rmade _ _ _).mono ?_
            rintro e W' ⟨rfl, hb⟩
            have st : Steps W W' := hb
            exact hK.out _ _ Reg.any ⟨below_steps B (Nat.le_refl _) st, oX.steps st, oY.steps st, oR.steps st⟩ Reg.none_ rfl
          apply Reg.RC_pure (hc := rfl) (hst := rfl) (hw := rfl) (t := 47) (hd := rfl) (ht := Nat.le_of_ble_eq_true rfl)
          · intro D v W hc hj hf K hK
            go_step
            exact hK.out
          · rfl
          apply Reg.RC_pure (hc := rfl) (hst := rfl) (hw := rfl) (t := 48) (hd := rfl) (ht := Nat.le_of_ble_eq_true rfl)
          · intro D v W hc hj hf K hK
            go_step
            exact hK.out
          · rfl
          refine Reg.RC_call rfl (by intro t ht; cases ht) rfl (fun D v W hc hj hf K hK => ?_) (fun _ _ => Reg.RC_at (b := ⟨_, []⟩) rfl ?_)
          · obtain ⟨B, oX, oY, oR⟩ := hj
            have hs : D 11 = false := hc.1
            have oR : Blk W (w.heap.size + 1) 23 #[.int .i64 (0), .int .i64 (0)] := by have o := oR; simp only [hs, Reg.sel_false] at o; exact o
            have lR := oR.lt
            have fR := oR.fr
            have cR0 : World.cell? W ⟨w.heap.size + 1, 0, none⟩ = some (.int .i64 (0)) := oR.c 0 rfl
            have cR1 : World.cell? W ⟨w.heap.size + 1, 1, none⟩ = some (.int .i64 (0)) := oR.c 1 rfl
            go_step
            exact hK.out undef _ Reg.any ⟨(by (repeat' first | with_reducible assumption | with_reducible exact Below.refl _ _ | with_reducible refine Below.alloc ?_ ?_ _ | with_reducible refine Below.drew ?_ | with_reducible refine belowN ?_ _ | with_reducible refine Below.setCell ?_ ?_ _ | go_size)), (show Blk _ _ _ #[.bool (negB (a * num)), .int .u64 (aHi (a * num)), .int .u64 (aLo (a * num))] from (by (repeat' first | with_reducible assumption | (with_reducible refine Blk.new' ?_; first | with_reducible rfl | (simp only [World.size_alloc, World.size_setCell, World.size_drew]; done)) | with_reducible refine Blk.alloc ?_ _ | with_reducible refine Blk.drew ?_ | with_reducible refine Blk.drewN ?_ _ | with_reducible apply Blk.three | with_reducible apply Blk.both | with_reducible refine Blk.far' ?_ ?_ | (show _ ≠ _; omega)))), (show Blk _ _ _ #[.bool (negB (b * num)), .int .u64 (aHi (b * num)), .int .u64 (aLo (b * num))] from (by (repeat' first | with_reducible assumption | (with_reducible refine Blk.new' ?_; first | with_reducible rfl | (simp only [World.size_alloc, World.size_setCell, World.size_drew]; done)) | with_reducible refine Blk.alloc ?_ _ | with_reducible refine Blk.drew ?_ | with_reducible refine Blk.drewN ?_ _ | with_reducible apply Blk.three | with_reducible apply Blk.both | with_reducible refine Blk.far' ?_ ?_ | (show _ ≠ _; omega)))), (show Blk _ _ _ #[.int .i64 ((md (dn (a * num) (den)) (upq (b * num) (den))).1), .int .i64 ((md (dn (a * num) (den)) (upq (b * num) (den))).2.1)] from (Blk.set2 (cs' := #[.int .i64 ((md (dn (a * num) (den)) (upq (b * num) (den))).1), .int .i64 ((md (dn (a * num) (den)) (upq (b * num) (den))).2.1)]) (Blk.set2 (cs' := #[.int .i64 ((md (dn (a * num) (den)) (upq (b * num) (den))).1), .int .i64 (0)]) oR (i := 0) rfl) (i := 1) rfl))⟩ Reg.none_ trivial
          apply Reg.RC_pure (hc := rfl) (hst := rfl) (hw := rfl) (t := 7) (hd := rfl) (ht := Nat.le_of_ble_eq_true rfl)
          · intro D v W hc hj hf K hK
            go_step
            exact hK.out
          · rfl
          refine Reg.RC_end (fun D v W hd hj hf => ?_)
          obtain ⟨B, oX, oY, oR⟩ := hj
          have e11 : D 11 = true := hd 11 (by decide)
          have oR : Blk W (w.heap.size + 1) 23 #[.int .i64 ((md (dn (a * num) (den)) (upq (b * num) (den))).1), .int .i64 ((md (dn (a * num) (den)) (upq (b * num) (den))).2.1)] := by have o := oR; simp only [e11, Reg.sel_true] at o; exact o
          clear e11
          clear hd hf
          refine hQ _ _ ?_
          clear hQ hops Q' ops'
          have lR := oR.lt
          have cR0 := oR.c 0 rfl
          have cR1 := oR.c 1 rfl
          have fR := oR.fr
          repeat' (first | go_values | go_skip | go_guarded | go_step | go_upon)
          refine bodyPost_ret (by simp [results, Try.results17, go_sem, lR, cR0, cR1, fR]; rfl) rfl ?_
          show G3 w _ _ _
          rw [H.out]
          exact ⟨rfl, B⟩
  · have H1 : Hid (errV (V a b) = 8) := if_neg hv
    have H : Hid (scaleS a b num den = (0, 0, 8)) := if_neg hv
    clear hv
    go_enter Try.func17, Try.ntmps17
    go_wp2_with fail
    refine (rcheck a b _).mono ?_
    rintro e w1 ⟨rfl, hb1⟩
    have st : Steps _ w1 := hb1
    have Bn : Below w.heap.size w w1 := below_steps (by (repeat' first | with_reducible assumption | with_reducible exact Below.refl _ _ | with_reducible refine Below.alloc ?_ ?_ _ | with_reducible refine Below.drew ?_ | with_reducible refine belowN ?_ _ | with_reducible refine Below.setCell ?_ ?_ _ | go_size)) (Nat.le_refl _) st
    have nA : Blk w1 (w.heap.size) 23 #[.int .i64 (a), .int .i64 (b)] := Blk.steps (by (repeat' first | with_reducible assumption | (with_reducible refine Blk.new' ?_; first | with_reducible rfl | (simp only [World.size_alloc, World.size_setCell, World.size_drew]; done)) | with_reducible refine Blk.alloc ?_ _ | with_reducible refine Blk.drew ?_ | with_reducible refine Blk.drewN ?_ _ | with_reducible apply Blk.three | with_reducible apply Blk.both | with_reducible refine Blk.far' ?_ ?_ | (show _ ≠ _; omega))) st
    have nR : Blk w1 (w.heap.size + 1) 23 #[.int .i64 (0), .int .i64 (0)] := Blk.steps (by (repeat' first | with_reducible assumption | (with_reducible refine Blk.new' ?_; first | with_reducible rfl | (simp only [World.size_alloc, World.size_setCell, World.size_drew]; done)) | with_reducible refine Blk.alloc ?_ _ | with_reducible refine Blk.drew ?_ | with_reducible refine Blk.drewN ?_ _ | with_reducible apply Blk.three | with_reducible apply Blk.both | with_reducible refine Blk.far' ?_ ?_ | (show _ ≠ _; omega))) st
    clear st
    have B := Bn
    clear Bn
    have oA := nA
    clear nA
    have cA0 : World.cell? w1 ⟨w.heap.size, 0, none⟩ = some (.int .i64 (a)) := oA.c 0 rfl
    have cA1 : World.cell? w1 ⟨w.heap.size, 1, none⟩ = some (.int .i64 (b)) := oA.c 1 rfl
    have fA := oA.fr
    have lA := oA.lt
    have oR := nR
    clear nR
    have cR0 : World.cell? w1 ⟨w.heap.size + 1, 0, none⟩ = some (.int .i64 (0)) := oR.c 0 rfl
    have cR1 : World.cell? w1 ⟨w.heap.size + 1, 1, none⟩ = some (.int .i64 (0)) := oR.c 1 rfl
    have fR := oR.fr
    have lR := oR.lt
    rw [H1.out]
    go_wp2_with fail
    refine (rcheck a b _).mono ?_
    rintro e w2 ⟨rfl, hb2⟩
    have st : Steps _ w2 := hb2
    have Bn : Below w.heap.size w w2 := below_steps (by (repeat' first | with_reducible assumption | with_reducible exact Below.refl _ _ | with_reducible refine Below.alloc ?_ ?_ _ | with_reducible refine Below.drew ?_ | with_reducible refine belowN ?_ _ | with_reducible refine Below.setCell ?_ ?_ _ | go_size)) (Nat.le_refl _) st
    have nA : Blk w2 (w.heap.size) 23 #[.int .i64 (a), .int .i64 (b)] := Blk.steps (by (repeat' first | with_reducible assumption | (with_reducible refine Blk.new' ?_; first | with_reducible rfl | (simp only [World.size_alloc, World.size_setCell, World.size_drew]; done)) | with_reducible refine Blk.alloc ?_ _ | with_reducible refine Blk.drew ?_ | with_reducible refine Blk.drewN ?_ _ | with_reducible apply Blk.three | with_reducible apply Blk.both | with_reducible refine Blk.far' ?_ ?_ | (show _ ≠ _; omega))) st
    have nR : Blk w2 (w.heap.size + 1) 23 #[.int .i64 (0), .int .i64 (0)] := Blk.steps (by (repeat' first | with_reducible assumption | (with_reducible refine Blk.new' ?_; first | with_reducible rfl | (simp only [World.size_alloc, World.size_setCell, World.size_drew]; done)) | with_reducible refine Blk.alloc ?_ _ | with_reducible refine Blk.drew ?_ | with_reducible refine Blk.drewN ?_ _ | with_reducible apply Blk.three | with_reducible apply Blk.both | with_reducible refine Blk.far' ?_ ?_ | (show _ ≠ _; omega))) st
    clear B oA oR cA0 cA1 fA lA cR0 cR1 fR lR
    clear st
    have B := Bn
    clear Bn
    have oA := nA
    clear nA
    have cA0 : World.cell? w2 ⟨w.heap.size, 0, none⟩ = some (.int .i64 (a)) := oA.c 0 rfl
    have cA1 : World.cell? w2 ⟨w.heap.size, 1, none⟩ = some (.int .i64 (b)) := oA.c 1 rfl
    have fA := oA.fr
    have lA := oA.lt
    have oR := nR
    clear nR
    have cR0 : World.cell? w2 ⟨w.heap.size + 1, 0, none⟩ = some (.int .i64 (0)) := oR.c 0 rfl
    have cR1 : World.cell? w2 ⟨w.heap.size + 1, 1, none⟩ = some (.int .i64 (0)) := oR.c 1 rfl
    have fR := oR.fr
    have lR := oR.lt
    rw [H1.out]
    go_wp2_with fail
    refine bodyPost_ret (by simp [results, Try.results17, go_sem, cR0, cR1, fR, lR]; rfl) rfl ?_
    show G3 w _ _ _
    rw [H.out]
    exact ⟨rfl, by (repeat' first | with_reducible assumption | with_reducible exact Below.refl _ _ | with_reducible refine Below.alloc ?_ ?_ _ | with_reducible refine Below.drew ?_ | with_reducible refine belowN ?_ _ | with_reducible refine Below.setCell ?_ ?_ _ | go_size)⟩
