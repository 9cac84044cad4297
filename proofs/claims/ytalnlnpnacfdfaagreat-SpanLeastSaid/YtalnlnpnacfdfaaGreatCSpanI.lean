import Derived.Test.YtalnlnpnacfdfaaGreatCSpanH
import Derived.Test.YtalnlnpnacfdfaaGreatCReg
namespace Go.Proofs.YtalnlnpnacfdfaaGreat
open Go.RowKit
def scaleV (a b num den : Int) : Int × Int × Int := if den = 0 then (0, 0, 18) else if den < 0 then md (dn (mn (-(a * num)) (-(b * num))) (-den)) (upq (mx (-(a * num)) (-(b * num))) (-den)) else md (dn (mn (a * num) (b * num)) den) (upq (mx (a * num) (b * num)) den)
def scaleS (a b num den : Int) : Int × Int × Int := ifV (V a b) (scaleV a b num den)
set_option maxRecDepth 100000 in
set_option maxHeartbeats 4000000 in
theorem scale_p0 (a b num den : Int) (w : World) (n0 : -9223372036854775808 ≤ num) (n1 : num ≤ 9223372036854775807) (d0 : -9223372036854775808 ≤ den) (d1 : den ≤ 9223372036854775807) (hq : ¬ (V a b ∧ den ≠ 0)) : Calls Tryz.prog 21 #[.agg #[.int .i64 a, .int .i64 b], .int .i64 num, .int .i64 den] w (G3 w (scaleS a b num den)) := by
  by_cases hv : V a b
  · have hd : den = 0 := by by_cases h : den = 0; exact h; exact absurd ⟨hv, h⟩ hq
    subst hd
    clear hq
    have H : Hid (scaleS a b num 0 = (0, 0, 18)) := by show scaleS a b num 0 = _; unfold scaleS ifV scaleV; rw [if_pos hv, if_pos rfl]
    obtain ⟨v0, v1, v2⟩ := hv
    go_enter Tryz.func21, Tryz.ntmps21
    go_wp2_with fail
    refine (check1_ok _ a b _ (by simp [go_sem]) (by simp [go_sem]) v0 v1 v2).mono ?_
    rintro e w1 ⟨rfl, hb1⟩
    have st : Steps _ w1 := hb1
    have Bn : Below w.heap.size w w1 := belowA st
    have nR : Blk w1 (w.heap.size + 1) 23 #[.int .i64 (0), .int .i64 (0)] := Blk.stepsA st
    clear st
    have B := Bn
    clear Bn
    have oR := nR
    clear nR
    have cR0 := oR.q0
    have cR1 := oR.q1
    have fR := oR.fr
    have lR := oR.lt
    go_wp2_with fail
    refine bodyPost_ret (by simp [results, Tryz.results21, go_sem, cR0, cR1, fR, lR]; rfl) rfl ?_
    show G3 w _ _ _
    rw [H.out]
    exact ⟨rfl, belowB⟩
  · have H : Hid (scaleS a b num den = (0, 0, 8)) := if_neg hv
    clear hq
    go_enter Tryz.func21, Tryz.ntmps21
    go_wp2_with fail
    refine (check1_bad _ a b _ (by simp [go_sem]) (by simp [go_sem]) hv).mono ?_
    rintro e w1 ⟨rfl, hb1⟩
    have st : Steps _ w1 := hb1
    have Bn : Below w.heap.size w w1 := belowA st
    have nR : Blk w1 (w.heap.size + 1) 23 #[.int .i64 (0), .int .i64 (0)] := Blk.stepsA st
    clear st
    have B := Bn
    clear Bn
    have oR := nR
    clear nR
    have cR0 := oR.q0
    have cR1 := oR.q1
    have fR := oR.fr
    have lR := oR.lt
    go_wp2_with fail
    refine bodyPost_ret (by simp [results, Tryz.results21, go_sem, cR0, cR1, fR, lR]; rfl) rfl ?_
    show G3 w _ _ _
    rw [H.out]
    exact ⟨rfl, belowB⟩
set_option maxRecDepth 100000 in
set_option maxHeartbeats 4000000 in
theorem scale_pp (a b num den : Int) (w : World) (v0 : a ≤ b) (v1 : -2305843009213693952 ≤ a) (v2 : b ≤ 2305843009213693952) (n0 : -9223372036854775808 ≤ num) (n1 : num ≤ 9223372036854775807) (d0 : 0 < den) (d1 : den ≤ 9223372036854775807) : Calls Tryz.prog 21 #[.agg #[.int .i64 a, .int .i64 b], .int .i64 num, .int .i64 den] w (G3 w (scaleS a b num den)) := by
  have H : Hid (scaleS a b num den = md (dn (mn (a * num) (b * num)) den) (upq (mx (a * num) (b * num)) den)) := by show scaleS a b num den = _; unfold scaleS ifV scaleV; rw [if_pos ⟨v0, v1, v2⟩, if_neg (by omega), if_neg (by omega)]
  obtain ⟨p0, p1⟩ := prod_b (a := a) (b := num) (m := 2305843009213693952) (n := 9223372036854775808) (by omega) (by omega) (by omega) (by omega)
  obtain ⟨p2, p3⟩ := prod_b (a := b) (b := num) (m := 2305843009213693952) (n := 9223372036854775808) (by omega) (by omega) (by omega) (by omega)
  obtain ⟨g0, g1⟩ := hi64_b (t := a * num) (by omega) (by omega)
  obtain ⟨g2, g3⟩ := hi64_b (t := b * num) (by omega) (by omega)
  have hz : (den == 0) = false := by simp; omega
  go_enter Tryz.func21, Tryz.ntmps21
  go_wp2_with fail
  refine (check1_ok _ a b _ (by simp [go_sem]) (by simp [go_sem]) v0 v1 v2).mono ?_
  rintro e w1 ⟨rfl, hb1⟩
  have st : Steps _ w1 := hb1
  have Bn : Below w.heap.size w w1 := belowA st
  have nA : Blk w1 (w.heap.size) 23 #[.int .i64 (a), .int .i64 (b)] := Blk.stepsA st
  have nR : Blk w1 (w.heap.size + 1) 23 #[.int .i64 (0), .int .i64 (0)] := Blk.stepsA st
  clear st
  have B := Bn
  clear Bn
  have oA := nA
  clear nA
  have cA0 := oA.q0
  have cA1 := oA.q1
  have fA := oA.fr
  have lA := oA.lt
  have oR := nR
  clear nR
  have cR0 := oR.q0
  have cR1 := oR.q1
  have fR := oR.fr
  have lR := oR.lt
  go_wp2_with fail
  refine Reg.wp_chain_n (fun N0 => fun D v W => Below w.heap.size w W ∧ Blk W (w.heap.size) 23 #[.int .i64 (a), .int .i64 (b)] ∧ Blk W (w.heap.size + 1) 23 #[.int .i64 (0), .int .i64 (0)] ∧ (D 8 = true → ∃ g : Nat, v 8 = .pointer (some ⟨g, 0, none⟩) ∧ N0 ≤ g ∧ Blk W g 58 #[Reg.sel (D 10) (.int .i64 0) (.int .i64 (hi64 (a * num))), Reg.sel (D 10) (.int .u64 0) (.int .u64 (lo64 (a * num)))]) ∧ (D 9 = true → ∃ g : Nat, v 9 = .pointer (some ⟨g, 0, none⟩) ∧ N0 ≤ g ∧ Blk W g 58 #[Reg.sel (D 11) (.int .i64 0) (.int .i64 (hi64 (b * num))), Reg.sel (D 11) (.int .u64 0) (.int .u64 (lo64 (b * num)))]) ∧ (D 8 = true → D 9 = true → v 8 ≠ v 9) ∧ N0 ≤ W.heap.size)
    (Reg.inl [3, 7, 8, 9, 10, 11]) (Reg.gv [(3, fun x => x = .agg #[.int .i64 (hi64 (a * num)), .int .u64 (lo64 (a * num))]), (7, fun x => x = .agg #[.int .i64 (hi64 (b * num)), .int .u64 (lo64 (b * num))]), (8, fun x => ∃ g : Nat, x = .pointer (some ⟨g, 0, none⟩)), (9, fun x => ∃ g : Nat, x = .pointer (some ⟨g, 0, none⟩))]) Reg.None_ (fun _ => Reg.Any) (fun _ _ => False) (Reg.pl [(10, [(8, some 9)]), (11, [(9, some 10)]), (12, [(8, some 9), (9, some 10)])]) (Reg.pl [(8, [10]), (9, [11])])
    (by kernel_rfl) (by kernel_rfl) (by kernel_rfl) (Reg.gv_some _ (fun p hp => by simp only [List.mem_cons, List.not_mem_nil, or_false] at hp; rcases hp with rfl | rfl | rfl | rfl; exact ⟨_, rfl⟩; exact ⟨_, rfl⟩; exact ⟨_, 0, rfl⟩; exact ⟨_, 0, rfl⟩)) (fun N0 hN0 => ⟨fun v => ?_, (fun D v v' W hv hj => ?_), fun _ _ _ _ _ _ _ _ _ _ _ _ _ => Reg.none_, fun _ _ _ _ h => h.elim, fun ops' Q' hops hQ => ?_⟩)
  · exact ⟨(by first | with_reducible exact Below.drew B | with_reducible exact Below.drew (belowN B _) | (repeat' first | with_reducible assumption | with_reducible exact Below.refl _ _ | with_reducible refine Below.alloc ?_ ?_ _ | with_reducible refine Below.drew ?_ | with_reducible refine belowN ?_ _ | with_reducible refine Below.setCell ?_ ?_ _ | go_size)), (show Blk _ _ _ #[.int .i64 (a), .int .i64 (b)] from (by first | with_reducible exact oA | (repeat' first | with_reducible assumption | (with_reducible refine Blk.new' ?_; first | with_reducible rfl | (simp only [World.size_alloc, World.size_setCell, World.size_drew]; done)) | with_reducible refine Blk.alloc ?_ _ | with_reducible refine Blk.drew ?_ | with_reducible refine Blk.drewN ?_ _ | with_reducible apply Blk.both | with_reducible refine Blk.far' ?_ ?_ | (show _ ≠ _; omega)))), (show Blk _ _ _ #[.int .i64 (0), .int .i64 (0)] from (by first | with_reducible exact oR | (repeat' first | with_reducible assumption | (with_reducible refine Blk.new' ?_; first | with_reducible rfl | (simp only [World.size_alloc, World.size_setCell, World.size_drew]; done)) | with_reducible refine Blk.alloc ?_ _ | with_reducible refine Blk.drew ?_ | with_reducible refine Blk.drewN ?_ _ | with_reducible apply Blk.both | with_reducible refine Blk.far' ?_ ?_ | (show _ ≠ _; omega)))), (fun h => by cases h), (fun h => by cases h), (fun h => by cases h), (Nat.le_of_eq hN0.out)⟩
  · obtain ⟨B, oA, oR, pa8, pa9, q8_9, zN0⟩ := hj
    exact ⟨B, oA, oR, (fun h => hv 8 h ▸ pa8 h), (fun h => hv 9 h ▸ pa9 h), (fun h h' => hv 8 h ▸ hv 9 h' ▸ q8_9 h h'), zN0⟩
  have iA : w.heap.size < N0 := by have h := oA.lt; have e := hN0.out; (try simp only [World.size_alloc, World.size_setCell, World.size_drew, World.heap_drewN] at e); omega
  have iR : w.heap.size + 1 < N0 := by have h := oR.lt; have e := hN0.out; (try simp only [World.size_alloc, World.size_setCell, World.size_drew, World.heap_drewN] at e); omega
  have uN0 : w.heap.size ≤ N0 := by have h := Below.size B; have e := hN0.out; (try simp only [World.size_alloc, World.size_setCell, World.size_drew, World.heap_drewN] at e); (try simp only [World.size_alloc, World.size_setCell, World.size_drew, World.heap_drewN] at h); omega
  clear B oA oR hN0
  apply Reg.RC_pure (hc := rfl) (hst := rfl) (hw := rfl) (t := 22) (hd := rfl) (ht := Nat.le_of_ble_eq_true rfl)
  · intro D v W hc hj hf K hK
    go_step
    exact hK.out
  · rfl
  apply Reg.RC_pure (hc := rfl) (hst := rfl) (hw := rfl) (t := 23) (hd := rfl) (ht := Nat.le_of_ble_eq_true rfl)
  · intro D v W hc hj hf K hK
    obtain ⟨B, oA, oR, pa8, pa9, q8_9, zN0⟩ := hj
    have cA0 := oA.q0
    have cA1 := oA.q1
    go_step
    exact hK.out
  · rfl
  apply Reg.RC_pure (hc := rfl) (hst := rfl) (hw := rfl) (t := 24) (hd := rfl) (ht := Nat.le_of_ble_eq_true rfl)
  · intro D v W hc hj hf K hK
    go_step
    exact hK.out
  · rfl
  refine Reg.RC_call rfl (by intro t ht; cases ht; exact Nat.le_of_ble_eq_true rfl) rfl (fun D v W hc hj hf K hK => ?_) (fun x hx => ?_)
  · obtain ⟨B, oA, oR, pa8, pa9, q8_9, zN0⟩ := hj
    go_step
    refine (times_any _ _ _ (by omega) (by omega) (by omega) (by omega)).mono ?_
    rintro e W' ⟨rfl, hb⟩
    have st : Steps W W' := hb
    exact hK.out _ _ Reg.any ⟨below_steps B (Nat.le_refl _) st, oA.steps st, oR.steps st, (fun h => let ⟨g, h1, h2, h3⟩ := pa8 h; ⟨g, h1, h2, h3.steps st⟩), (fun h => let ⟨g, h1, h2, h3⟩ := pa9 h; ⟨g, h1, h2, h3.steps st⟩), (fun h h' => q8_9 h h'), (Nat.le_trans zN0 st.size)⟩ Reg.none_ rfl
  have hx : x = .agg #[.int .i64 (hi64 (a * num)), .int .u64 (lo64 (a * num))] := hx
  subst hx
  refine Reg.RC_at (b := ⟨#[_,_,_,_,_,_,_,_,_,_,_,_,_,_,_,_,_,_,_,_,_,_,_,_,_,_,_,_,_,_,_,_,_,_,_,_,_,_,_,_,_,_,_,_,_,_,_,_,_,_,_,_,_,_,_], []⟩) rfl ?_
  apply Reg.RC_pure (hc := rfl) (hst := rfl) (hw := rfl) (t := 26) (hd := rfl) (ht := Nat.le_of_ble_eq_true rfl)
  · intro D v W hc hj hf K hK
    go_step
    exact hK.out
  · rfl
  apply Reg.RC_pure (hc := rfl) (hst := rfl) (hw := rfl) (t := 27) (hd := rfl) (ht := Nat.le_of_ble_eq_true rfl)
  · intro D v W hc hj hf K hK
    obtain ⟨B, oA, oR, pa8, pa9, q8_9, zN0⟩ := hj
    have cA0 := oA.q0
    have cA1 := oA.q1
    go_step
    exact hK.out
  · rfl
  apply Reg.RC_pure (hc := rfl) (hst := rfl) (hw := rfl) (t := 28) (hd := rfl) (ht := Nat.le_of_ble_eq_true rfl)
  · intro D v W hc hj hf K hK
    go_step
    exact hK.out
  · rfl
  refine Reg.RC_call rfl (by intro t ht; cases ht; exact Nat.le_of_ble_eq_true rfl) rfl (fun D v W hc hj hf K hK => ?_) (fun x hx => ?_)
  · obtain ⟨B, oA, oR, pa8, pa9, q8_9, zN0⟩ := hj
    go_step
    refine (times_any _ _ _ (by omega) (by omega) (by omega) (by omega)).mono ?_
    rintro e W' ⟨rfl, hb⟩
    have st : Steps W W' := hb
    exact hK.out _ _ Reg.any ⟨below_steps B (Nat.le_refl _) st, oA.steps st, oR.steps st, (fun h => let ⟨g, h1, h2, h3⟩ := pa8 h; ⟨g, h1, h2, h3.steps st⟩), (fun h => let ⟨g, h1, h2, h3⟩ := pa9 h; ⟨g, h1, h2, h3.steps st⟩), (fun h h' => q8_9 h h'), (Nat.le_trans zN0 st.size)⟩ Reg.none_ rfl
  have hx : x = .agg #[.int .i64 (hi64 (b * num)), .int .u64 (lo64 (b * num))] := hx
  subst hx
  refine Reg.RC_at (b := ⟨#[_,_,_,_,_,_,_,_,_,_,_,_,_,_,_,_,_,_,_,_,_,_,_,_,_,_,_,_,_,_,_,_,_,_,_,_,_,_,_,_,_,_,_,_,_,_,_,_,_,_,_,_,_,_,_], []⟩) rfl ?_
  refine Reg.RC_call rfl (by intro t ht; cases ht; exact Nat.le_of_ble_eq_true rfl) rfl (fun D v W hc hj hf K hK => ?_) (fun x hx => ?_)
  · obtain ⟨B, oA, oR, pa8, pa9, q8_9, zN0⟩ := hj
    have hs : D 10 = false := hc.2 10 (.head _)
    go_step
    exact hK.out _ _ Reg.any ⟨Below.alloc B B.size _, oA.alloc _, oR.alloc _, (fun _ => ⟨W.heap.size, rfl, zN0, (by show Blk _ _ _ #[Reg.sel (D 10) (.int .i64 0) (.int .i64 (hi64 (a * num))), Reg.sel (D 10) (.int .u64 0) (.int .u64 (lo64 (a * num)))]; simp only [hs, Reg.sel_false]; exact Blk.new W _ _)⟩), (fun h => let ⟨g, h1, h2, h3⟩ := pa9 h; ⟨g, h1, h2, h3.alloc _⟩), (fun _ h' => let ⟨g, h1, _, h3⟩ := pa9 h'; fun e => Reg.ptr_ne h3.lt (e.trans h1)), (Nat.le_trans zN0 (by rw [World.size_alloc]; exact Nat.le_succ _))⟩ Reg.none_ ⟨_, rfl⟩
  obtain ⟨gX, hx⟩ : ∃ g : Nat, x = .pointer (some ⟨g, 0, none⟩) := hx
  subst hx
  refine Reg.RC_at (b := ⟨#[_,_,_,_,_,_,_,_,_,_,_,_,_,_,_,_,_,_,_,_,_,_,_,_,_,_,_,_,_,_,_,_,_,_,_,_,_,_,_,_,_,_,_,_,_,_,_,_,_,_,_,_,_,_,_], []⟩) rfl ?_
  refine Reg.RC_call rfl (by intro t ht; cases ht; exact Nat.le_of_ble_eq_true rfl) rfl (fun D v W hc hj hf K hK => ?_) (fun x hx => ?_)
  · obtain ⟨B, oA, oR, pa8, pa9, q8_9, zN0⟩ := hj
    have hs : D 11 = false := hc.2 11 (.head _)
    go_step
    exact hK.out _ _ Reg.any ⟨Below.alloc B B.size _, oA.alloc _, oR.alloc _, (fun h => let ⟨g, h1, h2, h3⟩ := pa8 h; ⟨g, h1, h2, h3.alloc _⟩), (fun _ => ⟨W.heap.size, rfl, zN0, (by show Blk _ _ _ #[Reg.sel (D 11) (.int .i64 0) (.int .i64 (hi64 (b * num))), Reg.sel (D 11) (.int .u64 0) (.int .u64 (lo64 (b * num)))]; simp only [hs, Reg.sel_false]; exact Blk.new W _ _)⟩), (fun h _ => let ⟨g, h1, _, h3⟩ := pa8 h; fun e => Reg.ptr_ne h3.lt (e.symm.trans h1)), (Nat.le_trans zN0 (by rw [World.size_alloc]; exact Nat.le_succ _))⟩ Reg.none_ ⟨_, rfl⟩
  obtain ⟨gY, hx⟩ : ∃ g : Nat, x = .pointer (some ⟨g, 0, none⟩) := hx
  subst hx
  refine Reg.RC_at (b := ⟨#[_,_,_,_,_,_,_,_,_,_,_,_,_,_,_,_,_,_,_,_,_,_,_,_,_,_,_,_,_,_,_,_,_,_,_,_,_,_,_,_,_,_,_,_,_,_,_,_,_,_,_,_,_,_,_], []⟩) rfl ?_
  refine Reg.RC_call rfl (by intro t ht; cases ht) rfl (fun D v W hc hj hf K hK => ?_) (fun _ _ => Reg.RC_at (b := ⟨_, []⟩) rfl ?_)
  · obtain ⟨B, oA, oR, pa8, pa9, q8_9, zN0⟩ := hj
    have hs : D 10 = false := hc.1
    obtain ⟨hd, he, -⟩ := hf (8, some 9) (.head _) rfl
    obtain ⟨g, h1, h2, h3⟩ := pa8 hd
    obtain rfl : gX = g := Reg.ptr_eq ((show v 8 = Value.pointer (some ⟨gX, 0, none⟩) from he).symm.trans h1)
    have oo : Blk W gX 58 #[.int .i64 0, .int .u64 0] := by have o := h3; simp only [hs, Reg.sel_false] at o; exact o
    have cc0 := oo.q0
    have cc1 := oo.q1
    have ff := oo.fr
    have ll := oo.lt
    go_step
    have nn := h2
    exact hK.out undef _ Reg.any ⟨(by (repeat' first | with_reducible assumption | with_reducible exact Below.refl _ _ | with_reducible refine Below.alloc ?_ ?_ _ | with_reducible refine Below.drew ?_ | with_reducible refine belowN ?_ _ | with_reducible refine Below.setCell ?_ ?_ _ | go_size)), (show Blk _ _ _ #[.int .i64 (a), .int .i64 (b)] from ownB), (show Blk _ _ _ #[.int .i64 (0), .int .i64 (0)] from ownB), (fun _ => ⟨gX, h1, h2, (show Blk _ _ _ #[.int .i64 (hi64 (a * num)), .int .u64 (lo64 (a * num))] from (Blk.set2 (cs' := #[.int .i64 (hi64 (a * num)), .int .u64 (lo64 (a * num))]) (Blk.set2 (cs' := #[.int .i64 (hi64 (a * num)), .int .u64 0]) oo (i := 0) rfl) (i := 1) rfl))⟩), (fun h => let ⟨g', h1', h2', h3'⟩ := pa9 h; have hne : g' ≠ gX := (fun e => q8_9 hd h (h1.trans ((congrArg (fun n => Value.pointer (some ⟨n, 0, none⟩)) e.symm).trans h1'.symm))); ⟨g', h1', h2', (show Blk _ _ _ #[Reg.sel (D 11) (.int .i64 0) (.int .i64 (hi64 (b * num))), Reg.sel (D 11) (.int .u64 0) (.int .u64 (lo64 (b * num)))] from ownB)⟩), (fun h h' => q8_9 h h'), (by simpa using zN0)⟩ Reg.none_ trivial
  refine Reg.RC_call rfl (by intro t ht; cases ht) rfl (fun D v W hc hj hf K hK => ?_) (fun _ _ => Reg.RC_at (b := ⟨_, []⟩) rfl ?_)
  · obtain ⟨B, oA, oR, pa8, pa9, q8_9, zN0⟩ := hj
    have hs : D 11 = false := hc.1
    obtain ⟨hd, he, -⟩ := hf (9, some 10) (.head _) rfl
    obtain ⟨g, h1, h2, h3⟩ := pa9 hd
    obtain rfl : gY = g := Reg.ptr_eq ((show v 9 = Value.pointer (some ⟨gY, 0, none⟩) from he).symm.trans h1)
    have oo : Blk W gY 58 #[.int .i64 0, .int .u64 0] := by have o := h3; simp only [hs, Reg.sel_false] at o; exact o
    have cc0 := oo.q0
    have cc1 := oo.q1
    have ff := oo.fr
    have ll := oo.lt
    go_step
    have nn := h2
    exact hK.out undef _ Reg.any ⟨(by (repeat' first | with_reducible assumption | with_reducible exact Below.refl _ _ | with_reducible refine Below.alloc ?_ ?_ _ | with_reducible refine Below.drew ?_ | with_reducible refine belowN ?_ _ | with_reducible refine Below.setCell ?_ ?_ _ | go_size)), (show Blk _ _ _ #[.int .i64 (a), .int .i64 (b)] from ownB), (show Blk _ _ _ #[.int .i64 (0), .int .i64 (0)] from ownB), (fun h => let ⟨g', h1', h2', h3'⟩ := pa8 h; have hne : g' ≠ gY := (fun e => q8_9 h hd (h1'.trans ((congrArg (fun n => Value.pointer (some ⟨n, 0, none⟩)) e).trans h1.symm))); ⟨g', h1', h2', (show Blk _ _ _ #[Reg.sel (D 10) (.int .i64 0) (.int .i64 (hi64 (a * num))), Reg.sel (D 10) (.int .u64 0) (.int .u64 (lo64 (a * num)))] from ownB)⟩), (fun _ => ⟨gY, h1, h2, (show Blk _ _ _ #[.int .i64 (hi64 (b * num)), .int .u64 (lo64 (b * num))] from (Blk.set2 (cs' := #[.int .i64 (hi64 (b * num)), .int .u64 (lo64 (b * num))]) (Blk.set2 (cs' := #[.int .i64 (hi64 (b * num)), .int .u64 0]) oo (i := 0) rfl) (i := 1) rfl))⟩), (fun h h' => q8_9 h h'), (by simpa using zN0)⟩ Reg.none_ trivial
  refine Reg.RC_end (fun D v W hd hj hf => ?_)
  obtain ⟨B, oA, oR, pa8, pa9, q8_9, zN0⟩ := hj
  obtain ⟨-, he, -⟩ := hf (8, some 9) (.head _) rfl
  obtain ⟨g, h1, hXn, h3⟩ := pa8 (hd 8 (by decide))
  obtain rfl : gX = g := Reg.ptr_eq ((show v 8 = Value.pointer (some ⟨gX, 0, none⟩) from he).symm.trans h1)
  have oX : Blk W gX 58 #[.int .i64 (hi64 (a * num)), .int .u64 (lo64 (a * num))] := by have o := h3; simp only [hd 10 (by decide), Reg.inl, Reg.sel_true] at o; exact o
  have lowX : w.heap.size ≤ gX := Nat.le_trans uN0 hXn
  have sAX : w.heap.size ≠ gX := by have := iA; have := hXn; omega
  have sRX : w.heap.size + 1 ≠ gX := by have := iR; have := hXn; omega
  have he8 := h1
  clear he h1 h3 pa8 hXn
  obtain ⟨-, he, -⟩ := hf (9, some 10) (.tail _ (.head _)) rfl
  obtain ⟨g, h1, hYn, h3⟩ := pa9 (hd 9 (by decide))
  obtain rfl : gY = g := Reg.ptr_eq ((show v 9 = Value.pointer (some ⟨gY, 0, none⟩) from he).symm.trans h1)
  have oY : Blk W gY 58 #[.int .i64 (hi64 (b * num)), .int .u64 (lo64 (b * num))] := by have o := h3; simp only [hd 11 (by decide), Reg.inl, Reg.sel_true] at o; exact o
  have lowY : w.heap.size ≤ gY := Nat.le_trans uN0 hYn
  have sAY : w.heap.size ≠ gY := by have := iA; have := hYn; omega
  have sRY : w.heap.size + 1 ≠ gY := by have := iR; have := hYn; omega
  have he9 := h1
  clear he h1 h3 pa9 hYn
  have nXY : gX ≠ gY := fun e => q8_9 (hd 8 (by decide)) (hd 9 (by decide)) (he8.trans ((congrArg (fun n => Value.pointer (some ⟨n, 0, none⟩)) e).trans he9.symm))
  have nYX : gY ≠ gX := Ne.symm nXY
  clear he8 he9 zN0 uN0
  clear hd hf q8_9 iA iR
  refine hQ _ _ ?_
  clear hQ hops Q' ops'
  have nX := Blk.ne_ oX oR (by decide)
  have nY := Blk.ne_ oY oR (by decide)
  repeat' (first | go_values | go_skip | go_guarded | go_step | go_upon)
  refine Reg.wp_chain_n (fun N0 => fun D v W => Below w.heap.size w W ∧ Blk W (w.heap.size + 1) 23 #[Reg.sel (D 15) (.int .i64 (0)) (.int .i64 ((md (dn (mn (a * num) (b * num)) (den)) (upq (mx (a * num) (b * num)) (den))).1)), Reg.sel (D 15) (.int .i64 (0)) (.int .i64 ((md (dn (mn (a * num) (b * num)) (den)) (upq (mx (a * num) (b * num)) (den))).2.1))] ∧ Blk W (gX) 58 #[.int .i64 (hi64 (a * num)), .int .u64 (lo64 (a * num))] ∧ Blk W (gY) 58 #[.int .i64 (hi64 (b * num)), .int .u64 (lo64 (b * num))] ∧ (D 2 = true → ∃ g : Nat, v 2 = .slice (some ⟨g, 0, none⟩) 1 1 ∧ N0 ≤ g ∧ Blk W g 58 #[.int .i64 (hi64 (b * num)), .int .u64 (lo64 (b * num))]) ∧ (D 8 = true → ∃ g : Nat, v 8 = .slice (some ⟨g, 0, none⟩) 1 1 ∧ N0 ≤ g ∧ Blk W g 58 #[.int .i64 (hi64 (b * num)), .int .u64 (lo64 (b * num))]) ∧ N0 ≤ W.heap.size)
    (Reg.inl [2, 3, 5, 8, 9, 11, 12, 15]) (Reg.gv [(3, fun x => x = .agg #[.int .i64 (hi64 (mn (a * num) (b * num))), .int .u64 (lo64 (mn (a * num) (b * num)))]), (5, fun x => x = .int .i64 (dn (mn (a * num) (b * num)) (den))), (9, fun x => x = .agg #[.int .i64 (hi64 (mx (a * num) (b * num))), .int .u64 (lo64 (mx (a * num) (b * num)))]), (11, fun x => x = .int .i64 (upq (mx (a * num) (b * num)) (den))), (12, fun x => x = .tuple #[.agg #[.int .i64 ((md (dn (mn (a * num) (b * num)) (den)) (upq (mx (a * num) (b * num)) (den))).1), .int .i64 ((md (dn (mn (a * num) (b * num)) (den)) (upq (mx (a * num) (b * num)) (den))).2.1)], .int .i64 ((md (dn (mn (a * num) (b * num)) (den)) (upq (mx (a * num) (b * num)) (den))).2.2)]), (2, fun x => ∃ g : Nat, x = .slice (some ⟨g, 0, none⟩) 1 1), (8, fun x => ∃ g : Nat, x = .slice (some ⟨g, 0, none⟩) 1 1)]) Reg.None_ (fun _ => Reg.Any) (fun _ _ => False) (Reg.pl [(3, [(2, some 42)]), (9, [(8, some 48)]), (17, [(2, some 42), (8, some 48)])]) (Reg.pl [])
    (by kernel_rfl) (by kernel_rfl) (by kernel_rfl) (Reg.gv_some _ (fun p hp => by simp only [List.mem_cons, List.not_mem_nil, or_false] at hp; rcases hp with rfl | rfl | rfl | rfl | rfl | rfl | rfl; exact ⟨_, rfl⟩; exact ⟨_, rfl⟩; exact ⟨_, rfl⟩; exact ⟨_, rfl⟩; exact ⟨_, rfl⟩; exact ⟨_, 0, rfl⟩; exact ⟨_, 0, rfl⟩)) (fun N0 hN0 => ⟨fun v => ?_, (fun D v v' W hv hj => ?_), fun _ _ _ _ _ _ _ _ _ _ _ _ _ => Reg.none_, fun _ _ _ _ h => h.elim, fun ops' Q' hops hQ => ?_⟩)
  · exact ⟨(by first | with_reducible exact Below.drew B | with_reducible exact Below.drew (belowN B _) | (repeat' first | with_reducible assumption | with_reducible exact Below.refl _ _ | with_reducible refine Below.alloc ?_ ?_ _ | with_reducible refine Below.drew ?_ | with_reducible refine belowN ?_ _ | with_reducible refine Below.setCell ?_ ?_ _ | go_size)), (show Blk _ _ _ #[.int .i64 (0), .int .i64 (0)] from (by first | with_reducible exact oR | (repeat' first | with_reducible assumption | (with_reducible refine Blk.new' ?_; first | with_reducible rfl | (simp only [World.size_alloc, World.size_setCell, World.size_drew]; done)) | with_reducible refine Blk.alloc ?_ _ | with_reducible refine Blk.drew ?_ | with_reducible refine Blk.drewN ?_ _ | with_reducible apply Blk.both | with_reducible refine Blk.far' ?_ ?_ | (show _ ≠ _; omega)))), (show Blk _ _ _ #[.int .i64 (hi64 (a * num)), .int .u64 (lo64 (a * num))] from (by first | with_reducible exact oX | (repeat' first | with_reducible assumption | (with_reducible refine Blk.new' ?_; first | with_reducible rfl | (simp only [World.size_alloc, World.size_setCell, World.size_drew]; done)) | with_reducible refine Blk.alloc ?_ _ | with_reducible refine Blk.drew ?_ | with_reducible refine Blk.drewN ?_ _ | with_reducible apply Blk.both | with_reducible refine Blk.far' ?_ ?_ | (show _ ≠ _; omega)))), (show Blk _ _ _ #[.int .i64 (hi64 (b * num)), .int .u64 (lo64 (b * num))] from (by first | with_reducible exact oY | (repeat' first | with_reducible assumption | (with_reducible refine Blk.new' ?_; first | with_reducible rfl | (simp only [World.size_alloc, World.size_setCell, World.size_drew]; done)) | with_reducible refine Blk.alloc ?_ _ | with_reducible refine Blk.drew ?_ | with_reducible refine Blk.drewN ?_ _ | with_reducible apply Blk.both | with_reducible refine Blk.far' ?_ ?_ | (show _ ≠ _; omega)))), (fun h => by cases h), (fun h => by cases h), (Nat.le_of_eq hN0.out)⟩
  · obtain ⟨B, oR, oX, oY, pa2, pa8, zN0⟩ := hj
    exact ⟨B, oR, oX, oY, (fun h => hv 2 h ▸ pa2 h), (fun h => hv 8 h ▸ pa8 h), zN0⟩
  have iR : w.heap.size + 1 < N0 := by have h := oR.lt; have e := hN0.out; (try simp only [World.size_alloc, World.size_setCell, World.size_drew, World.heap_drewN] at e); omega
  have iX : gX < N0 := by have h := oX.lt; have e := hN0.out; (try simp only [World.size_alloc, World.size_setCell, World.size_drew, World.heap_drewN] at e); omega
  have iY : gY < N0 := by have h := oY.lt; have e := hN0.out; (try simp only [World.size_alloc, World.size_setCell, World.size_drew, World.heap_drewN] at e); omega
  have uN0 : w.heap.size ≤ N0 := by have h := Below.size B; have e := hN0.out; (try simp only [World.size_alloc, World.size_setCell, World.size_drew, World.heap_drewN] at e); (try simp only [World.size_alloc, World.size_setCell, World.size_drew, World.heap_drewN] at h); omega
  clear B oR oX oY hN0
  apply Reg.RC_pure (hc := rfl) (hst := rfl) (hw := rfl) (t := 40) (hd := rfl) (ht := Nat.le_of_ble_eq_true rfl)
  · intro D v W hc hj hf K hK
    obtain ⟨B, oR, oX, oY, pa2, pa8, zN0⟩ := hj
    have cX0 := oX.q0
    have cX1 := oX.q1
    go_step
    exact hK.out
  · rfl
  apply Reg.RC_pure (hc := rfl) (hst := rfl) (hw := rfl) (t := 41) (hd := rfl) (ht := Nat.le_of_ble_eq_true rfl)
  · intro D v W hc hj hf K hK
    obtain ⟨B, oR, oX, oY, pa2, pa8, zN0⟩ := hj
    have cY0 := oY.q0
    have cY1 := oY.q1
    go_step
    exact hK.out
  · rfl
  refine Reg.RC_call rfl (by intro t ht; cases ht; exact Nat.le_of_ble_eq_true rfl) rfl (fun D v W hc hj hf K hK => ?_) (fun x hx => ?_)
  · obtain ⟨B, oR, oX, oY, pa2, pa8, zN0⟩ := hj
    go_step
    exact hK.out _ _ Reg.any ⟨Below.alloc B B.size _, oR.alloc _, oX.alloc _, oY.alloc _, (fun _ => ⟨W.heap.size, rfl, zN0, Blk.new W _ _⟩), (fun h => let ⟨g, h1, h2, h3⟩ := pa8 h; ⟨g, h1, h2, h3.alloc _⟩), (Nat.le_trans zN0 (by rw [World.size_alloc]; exact Nat.le_succ _))⟩ Reg.none_ ⟨_, rfl⟩
  obtain ⟨gS1, hx⟩ : ∃ g : Nat, x = .slice (some ⟨g, 0, none⟩) 1 1 := hx
  subst hx
  refine Reg.RC_at (b := ⟨#[_,_,_,_,_,_,_,_,_,_,_,_,_,_,_,_,_,_,_,_,_,_,_,_,_,_,_,_,_,_,_,_,_,_,_,_,_,_,_,_,_,_,_,_,_,_,_,_,_,_,_,_,_,_,_], []⟩) rfl ?_
  refine Reg.RC_call rfl (by intro t ht; cases ht; exact Nat.le_of_ble_eq_true rfl) rfl (fun D v W hc hj hf K hK => ?_) (fun x hx => ?_)
  · obtain ⟨B, oR, oX, oY, pa2, pa8, zN0⟩ := hj
    obtain ⟨hd, he, -⟩ := hf (2, some 42) (.head _) rfl
    obtain ⟨g, h1, h2, oS1⟩ := pa2 hd
    obtain rfl : gS1 = g := Reg.slc_eq ((show v 2 = Value.slice (some ⟨gS1, 0, none⟩) 1 1 from he).symm.trans h1)
    clear he h1 h2
    go_step
    refine (least1m _ _ _ _ oS1.lt (oS1.c 0 rfl) (oS1.c 1 rfl)).mono ?_
    rintro e W' ⟨rfl, hb⟩
    have st : Steps W W' := hb
    exact hK.out _ _ Reg.any ⟨below_steps B (Nat.le_refl _) st, oR.steps st, oX.steps st, oY.steps st, (fun h => let ⟨g, h1, h2, h3⟩ := pa2 h; ⟨g, h1, h2, h3.steps st⟩), (fun h => let ⟨g, h1, h2, h3⟩ := pa8 h; ⟨g, h1, h2, h3.steps st⟩), (Nat.le_trans zN0 st.size)⟩ Reg.none_ rfl
  have hx : x = .agg #[.int .i64 (hi64 (mn (a * num) (b * num))), .int .u64 (lo64 (mn (a * num) (b * num)))] := hx
  subst hx
  refine Reg.RC_at (b := ⟨#[_,_,_,_,_,_,_,_,_,_,_,_,_,_,_,_,_,_,_,_,_,_,_,_,_,_,_,_,_,_,_,_,_,_,_,_,_,_,_,_,_,_,_,_,_,_,_,_,_,_,_,_,_,_,_], []⟩) rfl ?_
  apply Reg.RC_pure (hc := rfl) (hst := rfl) (hw := rfl) (t := 44) (hd := rfl) (ht := Nat.le_of_ble_eq_true rfl)
  · intro D v W hc hj hf K hK
    go_step
    exact hK.out
  · rfl
  refine Reg.RC_call rfl (by intro t ht; cases ht; exact Nat.le_of_ble_eq_true rfl) rfl (fun D v W hc hj hf K hK => ?_) (fun x hx => ?_)
  · obtain ⟨B, oR, oX, oY, pa2, pa8, zN0⟩ := hj
    go_step
    refine (down_any _ _ _ (by simp only [mn, mx]; omega) (by simp only [mn, mx]; omega) (by omega) (by omega)).mono ?_
    rintro e W' ⟨rfl, hb⟩
    have st : Steps W W' := hb
    exact hK.out _ _ Reg.any ⟨below_steps B (Nat.le_refl _) st, oR.steps st, oX.steps st, oY.steps st, (fun h => let ⟨g, h1, h2, h3⟩ := pa2 h; ⟨g, h1, h2, h3.steps st⟩), (fun h => let ⟨g, h1, h2, h3⟩ := pa8 h; ⟨g, h1, h2, h3.steps st⟩), (Nat.le_trans zN0 st.size)⟩ Reg.none_ rfl
  have hx : x = .int .i64 (dn (mn (a * num) (b * num)) (den)) := hx
  subst hx
  refine Reg.RC_at (b := ⟨#[_,_,_,_,_,_,_,_,_,_,_,_,_,_,_,_,_,_,_,_,_,_,_,_,_,_,_,_,_,_,_,_,_,_,_,_,_,_,_,_,_,_,_,_,_,_,_,_,_,_,_,_,_,_,_], []⟩) rfl ?_
  apply Reg.RC_pure (hc := rfl) (hst := rfl) (hw := rfl) (t := 46) (hd := rfl) (ht := Nat.le_of_ble_eq_true rfl)
  · intro D v W hc hj hf K hK
    obtain ⟨B, oR, oX, oY, pa2, pa8, zN0⟩ := hj
    have cX0 := oX.q0
    have cX1 := oX.q1
    go_step
    exact hK.out
  · rfl
  apply Reg.RC_pure (hc := rfl) (hst := rfl) (hw := rfl) (t := 47) (hd := rfl) (ht := Nat.le_of_ble_eq_true rfl)
  · intro D v W hc hj hf K hK
    obtain ⟨B, oR, oX, oY, pa2, pa8, zN0⟩ := hj
    have cY0 := oY.q0
    have cY1 := oY.q1
    go_step
    exact hK.out
  · rfl
  refine Reg.RC_call rfl (by intro t ht; cases ht; exact Nat.le_of_ble_eq_true rfl) rfl (fun D v W hc hj hf K hK => ?_) (fun x hx => ?_)
  · obtain ⟨B, oR, oX, oY, pa2, pa8, zN0⟩ := hj
    go_step
    exact hK.out _ _ Reg.any ⟨Below.alloc B B.size _, oR.alloc _, oX.alloc _, oY.alloc _, (fun h => let ⟨g, h1, h2, h3⟩ := pa2 h; ⟨g, h1, h2, h3.alloc _⟩), (fun _ => ⟨W.heap.size, rfl, zN0, Blk.new W _ _⟩), (Nat.le_trans zN0 (by rw [World.size_alloc]; exact Nat.le_succ _))⟩ Reg.none_ ⟨_, rfl⟩
  obtain ⟨gS2, hx⟩ : ∃ g : Nat, x = .slice (some ⟨g, 0, none⟩) 1 1 := hx
  subst hx
  refine Reg.RC_at (b := ⟨#[_,_,_,_,_,_,_,_,_,_,_,_,_,_,_,_,_,_,_,_,_,_,_,_,_,_,_,_,_,_,_,_,_,_,_,_,_,_,_,_,_,_,_,_,_,_,_,_,_,_,_,_,_,_,_], []⟩) rfl ?_
  refine Reg.RC_call rfl (by intro t ht; cases ht; exact Nat.le_of_ble_eq_true rfl) rfl (fun D v W hc hj hf K hK => ?_) (fun x hx => ?_)
  · obtain ⟨B, oR, oX, oY, pa2, pa8, zN0⟩ := hj
    obtain ⟨hd, he, -⟩ := hf (8, some 48) (.head _) rfl
    obtain ⟨g, h1, h2, oS2⟩ := pa8 hd
    obtain rfl : gS2 = g := Reg.slc_eq ((show v 8 = Value.slice (some ⟨gS2, 0, none⟩) 1 1 from he).symm.trans h1)
    clear he h1 h2
    go_step
    refine (greatest1m _ _ _ _ oS2.lt (oS2.c 0 rfl) (oS2.c 1 rfl)).mono ?_
    rintro e W' ⟨rfl, hb⟩
    have st : Steps W W' := hb
    exact hK.out _ _ Reg.any ⟨below_steps B (Nat.le_refl _) st, oR.steps st, oX.steps st, oY.steps st, (fun h => let ⟨g, h1, h2, h3⟩ := pa2 h; ⟨g, h1, h2, h3.steps st⟩), (fun h => let ⟨g, h1, h2, h3⟩ := pa8 h; ⟨g, h1, h2, h3.steps st⟩), (Nat.le_trans zN0 st.size)⟩ Reg.none_ rfl
  have hx : x = .agg #[.int .i64 (hi64 (mx (a * num) (b * num))), .int .u64 (lo64 (mx (a * num) (b * num)))] := hx
  subst hx
  refine Reg.RC_at (b := ⟨#[_,_,_,_,_,_,_,_,_,_,_,_,_,_,_,_,_,_,_,_,_,_,_,_,_,_,_,_,_,_,_,_,_,_,_,_,_,_,_,_,_,_,_,_,_,_,_,_,_,_,_,_,_,_,_], []⟩) rfl ?_
  apply Reg.RC_pure (hc := rfl) (hst := rfl) (hw := rfl) (t := 50) (hd := rfl) (ht := Nat.le_of_ble_eq_true rfl)
  · intro D v W hc hj hf K hK
    go_step
    exact hK.out
  · rfl
  refine Reg.RC_call rfl (by intro t ht; cases ht; exact Nat.le_of_ble_eq_true rfl) rfl (fun D v W hc hj hf K hK => ?_) (fun x hx => ?_)
  · obtain ⟨B, oR, oX, oY, pa2, pa8, zN0⟩ := hj
    go_step
    refine (up_any _ _ _ (by simp only [mn, mx]; omega) (by simp only [mn, mx]; omega) (by omega) (by omega)).mono ?_
    rintro e W' ⟨rfl, hb⟩
    have st : Steps W W' := hb
    exact hK.out _ _ Reg.any ⟨below_steps B (Nat.le_refl _) st, oR.steps st, oX.steps st, oY.steps st, (fun h => let ⟨g, h1, h2, h3⟩ := pa2 h; ⟨g, h1, h2, h3.steps st⟩), (fun h => let ⟨g, h1, h2, h3⟩ := pa8 h; ⟨g, h1, h2, h3.steps st⟩), (Nat.le_trans zN0 st.size)⟩ Reg.none_ rfl
  have hx : x = .int .i64 (upq (mx (a * num) (b * num)) (den)) := hx
  subst hx
  refine Reg.RC_at (b := ⟨#[_,_,_,_,_,_,_,_,_,_,_,_,_,_,_,_,_,_,_,_,_,_,_,_,_,_,_,_,_,_,_,_,_,_,_,_,_,_,_,_,_,_,_,_,_,_,_,_,_,_,_,_,_,_,_], []⟩) rfl ?_
  refine Reg.RC_call rfl (by intro t ht; cases ht; exact Nat.le_of_ble_eq_true rfl) rfl (fun D v W hc hj hf K hK => ?_) (fun x hx => ?_)
  · obtain ⟨B, oR, oX, oY, pa2, pa8, zN0⟩ := hj
    go_step
    refine (made_any _ _ _).mono ?_
    rintro e W' ⟨rfl, hb⟩
    have st : Steps W W' := hb
    exact hK.out _ _ Reg.any ⟨below_steps B (Nat.le_refl _) st, oR.steps st, oX.steps st, oY.steps st, (fun h => let ⟨g, h1, h2, h3⟩ := pa2 h; ⟨g, h1, h2, h3.steps st⟩), (fun h => let ⟨g, h1, h2, h3⟩ := pa8 h; ⟨g, h1, h2, h3.steps st⟩), (Nat.le_trans zN0 st.size)⟩ Reg.none_ rfl
  have hx : x = .tuple #[.agg #[.int .i64 ((md (dn (mn (a * num) (b * num)) (den)) (upq (mx (a * num) (b * num)) (den))).1), .int .i64 ((md (dn (mn (a * num) (b * num)) (den)) (upq (mx (a * num) (b * num)) (den))).2.1)], .int .i64 ((md (dn (mn (a * num) (b * num)) (den)) (upq (mx (a * num) (b * num)) (den))).2.2)] := hx
  subst hx
  refine Reg.RC_at (b := ⟨#[_,_,_,_,_,_,_,_,_,_,_,_,_,_,_,_,_,_,_,_,_,_,_,_,_,_,_,_,_,_,_,_,_,_,_,_,_,_,_,_,_,_,_,_,_,_,_,_,_,_,_,_,_,_,_], []⟩) rfl ?_
  apply Reg.RC_pure (hc := rfl) (hst := rfl) (hw := rfl) (t := 53) (hd := rfl) (ht := Nat.le_of_ble_eq_true rfl)
  · intro D v W hc hj hf K hK
    go_step
    exact hK.out
  · rfl
  apply Reg.RC_pure (hc := rfl) (hst := rfl) (hw := rfl) (t := 54) (hd := rfl) (ht := Nat.le_of_ble_eq_true rfl)
  · intro D v W hc hj hf K hK
    go_step
    exact hK.out
  · rfl
  refine Reg.RC_call rfl (by intro t ht; cases ht) rfl (fun D v W hc hj hf K hK => ?_) (fun _ _ => Reg.RC_at (b := ⟨_, []⟩) rfl ?_)
  · obtain ⟨B, oR, oX, oY, pa2, pa8, zN0⟩ := hj
    have hs : D 15 = false := hc.1
    have oR : Blk W (w.heap.size + 1) 23 #[.int .i64 (0), .int .i64 (0)] := by have o := oR; simp only [hs, Reg.sel_false] at o; exact o
    have lR := oR.lt
    have fR := oR.fr
    have cR0 := oR.q0
    have cR1 := oR.q1
    go_step
    exact hK.out undef _ Reg.any ⟨(by (repeat' first | with_reducible assumption | with_reducible exact Below.refl _ _ | with_reducible refine Below.alloc ?_ ?_ _ | with_reducible refine Below.drew ?_ | with_reducible refine belowN ?_ _ | with_reducible refine Below.setCell ?_ ?_ _ | go_size)), (show Blk _ _ _ #[.int .i64 ((md (dn (mn (a * num) (b * num)) (den)) (upq (mx (a * num) (b * num)) (den))).1), .int .i64 ((md (dn (mn (a * num) (b * num)) (den)) (upq (mx (a * num) (b * num)) (den))).2.1)] from (Blk.set2 (cs' := #[.int .i64 ((md (dn (mn (a * num) (b * num)) (den)) (upq (mx (a * num) (b * num)) (den))).1), .int .i64 ((md (dn (mn (a * num) (b * num)) (den)) (upq (mx (a * num) (b * num)) (den))).2.1)]) (Blk.set2 (cs' := #[.int .i64 ((md (dn (mn (a * num) (b * num)) (den)) (upq (mx (a * num) (b * num)) (den))).1), .int .i64 (0)]) oR (i := 0) rfl) (i := 1) rfl)), (show Blk _ _ _ #[.int .i64 (hi64 (a * num)), .int .u64 (lo64 (a * num))] from ownB), (show Blk _ _ _ #[.int .i64 (hi64 (b * num)), .int .u64 (lo64 (b * num))] from ownB), (fun h => let ⟨g, h1, h2, h3⟩ := pa2 h; have hne : g ≠ w.heap.size + 1 := (by have := iR; omega); ⟨g, h1, h2, Blk.far' (Blk.far' (h3) hne) hne⟩), (fun h => let ⟨g, h1, h2, h3⟩ := pa8 h; have hne : g ≠ w.heap.size + 1 := (by have := iR; omega); ⟨g, h1, h2, Blk.far' (Blk.far' (h3) hne) hne⟩), (by simpa using zN0)⟩ Reg.none_ trivial
  apply Reg.RC_pure (hc := rfl) (hst := rfl) (hw := rfl) (t := 7) (hd := rfl) (ht := Nat.le_of_ble_eq_true rfl)
  · intro D v W hc hj hf K hK
    go_step
    exact hK.out
  · rfl
  refine Reg.RC_end (fun D v W hd hj hf => ?_)
  obtain ⟨B, oR, oX, oY, pa2, pa8, zN0⟩ := hj
  have e15 : D 15 = true := hd 15 (by decide)
  have oR : Blk W (w.heap.size + 1) 23 #[.int .i64 ((md (dn (mn (a * num) (b * num)) (den)) (upq (mx (a * num) (b * num)) (den))).1), .int .i64 ((md (dn (mn (a * num) (b * num)) (den)) (upq (mx (a * num) (b * num)) (den))).2.1)] := by have o := oR; simp only [e15, Reg.sel_true] at o; exact o
  obtain ⟨-, he, -⟩ := hf (2, some 42) (.head _) rfl
  obtain ⟨g, h1, hS1n, h3⟩ := pa2 (hd 2 (by decide))
  obtain rfl : gS1 = g := Reg.slc_eq ((show v 2 = Value.slice (some ⟨gS1, 0, none⟩) 1 1 from he).symm.trans h1)
  have oS1 : Blk W gS1 58 #[.int .i64 (hi64 (b * num)), .int .u64 (lo64 (b * num))] := h3
  have lowS1 : w.heap.size ≤ gS1 := Nat.le_trans uN0 hS1n
  have sRS1 : w.heap.size + 1 ≠ gS1 := by have := iR; have := hS1n; omega
  have sXS1 : gX ≠ gS1 := by have := iX; have := hS1n; omega
  have sYS1 : gY ≠ gS1 := by have := iY; have := hS1n; omega
  have he2 := h1
  clear he h1 h3 pa2 hS1n
  obtain ⟨-, he, -⟩ := hf (8, some 48) (.tail _ (.head _)) rfl
  obtain ⟨g, h1, hS2n, h3⟩ := pa8 (hd 8 (by decide))
  obtain rfl : gS2 = g := Reg.slc_eq ((show v 8 = Value.slice (some ⟨gS2, 0, none⟩) 1 1 from he).symm.trans h1)
  have oS2 : Blk W gS2 58 #[.int .i64 (hi64 (b * num)), .int .u64 (lo64 (b * num))] := h3
  have lowS2 : w.heap.size ≤ gS2 := Nat.le_trans uN0 hS2n
  have sRS2 : w.heap.size + 1 ≠ gS2 := by have := iR; have := hS2n; omega
  have sXS2 : gX ≠ gS2 := by have := iX; have := hS2n; omega
  have sYS2 : gY ≠ gS2 := by have := iY; have := hS2n; omega
  have he8 := h1
  clear he h1 h3 pa8 hS2n
  clear he2 he8 zN0 uN0
  clear e15
  clear hd hf iR iX iY
  refine hQ _ _ ?_
  clear hQ hops Q' ops'
  have lR := oR.lt
  have cR0 := oR.c 0 rfl
  have cR1 := oR.c 1 rfl
  have fR := oR.fr
  repeat' (first | go_values | go_skip | go_guarded | go_step | go_upon)
  refine bodyPost_ret (by simp [results, Tryz.results21, go_sem, lR, cR0, cR1, fR]; rfl) rfl ?_
  show G3 w _ _ _
  rw [H.out]
  exact ⟨rfl, B⟩
set_option maxRecDepth 100000 in
set_option maxHeartbeats 4000000 in
theorem scale_pn (a b num den ud : Int) (w : World) (v0 : a ≤ b) (v1 : -2305843009213693952 ≤ a) (v2 : b ≤ 2305843009213693952) (n0 : -9223372036854775808 ≤ num) (n1 : num ≤ 9223372036854775807) (d0 : -9223372036854775808 ≤ den) (d1 : den < 0) (eu : IntKind.u64.wrap den = ud) (en : IntKind.u64.wrap (-ud) = -den) (u0 : 0 ≤ ud) (u1 : ud < 18446744073709551616) : Calls Tryz.prog 21 #[.agg #[.int .i64 a, .int .i64 b], .int .i64 num, .int .i64 den] w (G3 w (scaleS a b num den)) := by
  have H : Hid (scaleS a b num den = md (dn (mn (-(a * num)) (-(b * num))) (-den)) (upq (mx (-(a * num)) (-(b * num))) (-den))) := by show scaleS a b num den = _; unfold scaleS ifV scaleV; rw [if_pos ⟨v0, v1, v2⟩, if_neg (by omega), if_pos (by omega)]
  obtain ⟨p0, p1⟩ := prod_b (a := a) (b := num) (m := 2305843009213693952) (n := 9223372036854775808) (by omega) (by omega) (by omega) (by omega)
  obtain ⟨p2, p3⟩ := prod_b (a := b) (b := num) (m := 2305843009213693952) (n := 9223372036854775808) (by omega) (by omega) (by omega) (by omega)
  obtain ⟨g0, g1⟩ := hi64_b (t := a * num) (by omega) (by omega)
  obtain ⟨g2, g3⟩ := hi64_b (t := b * num) (by omega) (by omega)
  have hz : (den == 0) = false := by simp; omega
  go_enter Tryz.func21, Tryz.ntmps21
  go_wp2_with fail
  refine (check1_ok _ a b _ (by simp [go_sem]) (by simp [go_sem]) v0 v1 v2).mono ?_
  rintro e w1 ⟨rfl, hb1⟩
  have st : Steps _ w1 := hb1
  have Bn : Below w.heap.size w w1 := belowA st
  have nA : Blk w1 (w.heap.size) 23 #[.int .i64 (a), .int .i64 (b)] := Blk.stepsA st
  have nR : Blk w1 (w.heap.size + 1) 23 #[.int .i64 (0), .int .i64 (0)] := Blk.stepsA st
  clear st
  have B := Bn
  clear Bn
  have oA := nA
  clear nA
  have cA0 := oA.q0
  have cA1 := oA.q1
  have fA := oA.fr
  have lA := oA.lt
  have oR := nR
  clear nR
  have cR0 := oR.q0
  have cR1 := oR.q1
  have fR := oR.fr
  have lR := oR.lt
  go_wp2_with fail
  refine Reg.wp_chain_n (fun N0 => fun D v W => Below w.heap.size w W ∧ Blk W (w.heap.size) 23 #[.int .i64 (a), .int .i64 (b)] ∧ Blk W (w.heap.size + 1) 23 #[.int .i64 (0), .int .i64 (0)] ∧ (D 8 = true → ∃ g : Nat, v 8 = .pointer (some ⟨g, 0, none⟩) ∧ N0 ≤ g ∧ Blk W g 58 #[Reg.sel (D 10) (.int .i64 0) (.int .i64 (hi64 (a * num))), Reg.sel (D 10) (.int .u64 0) (.int .u64 (lo64 (a * num)))]) ∧ (D 9 = true → ∃ g : Nat, v 9 = .pointer (some ⟨g, 0, none⟩) ∧ N0 ≤ g ∧ Blk W g 58 #[Reg.sel (D 11) (.int .i64 0) (.int .i64 (hi64 (b * num))), Reg.sel (D 11) (.int .u64 0) (.int .u64 (lo64 (b * num)))]) ∧ (D 8 = true → D 9 = true → v 8 ≠ v 9) ∧ N0 ≤ W.heap.size)
    (Reg.inl [3, 7, 8, 9, 10, 11]) (Reg.gv [(3, fun x => x = .agg #[.int .i64 (hi64 (a * num)), .int .u64 (lo64 (a * num))]), (7, fun x => x = .agg #[.int .i64 (hi64 (b * num)), .int .u64 (lo64 (b * num))]), (8, fun x => ∃ g : Nat, x = .pointer (some ⟨g, 0, none⟩)), (9, fun x => ∃ g : Nat, x = .pointer (some ⟨g, 0, none⟩))]) Reg.None_ (fun _ => Reg.Any) (fun _ _ => False) (Reg.pl [(10, [(8, some 9)]), (11, [(9, some 10)]), (12, [(8, some 9), (9, some 10)])]) (Reg.pl [(8, [10]), (9, [11])])
    (by kernel_rfl) (by kernel_rfl) (by kernel_rfl) (Reg.gv_some _ (fun p hp => by simp only [List.mem_cons, List.not_mem_nil, or_false] at hp; rcases hp with rfl | rfl | rfl | rfl; exact ⟨_, rfl⟩; exact ⟨_, rfl⟩; exact ⟨_, 0, rfl⟩; exact ⟨_, 0, rfl⟩)) (fun N0 hN0 => ⟨fun v => ?_, (fun D v v' W hv hj => ?_), fun _ _ _ _ _ _ _ _ _ _ _ _ _ => Reg.none_, fun _ _ _ _ h => h.elim, fun ops' Q' hops hQ => ?_⟩)
  · exact ⟨(by first | with_reducible exact Below.drew B | with_reducible exact Below.drew (belowN B _) | (repeat' first | with_reducible assumption | with_reducible exact Below.refl _ _ | with_reducible refine Below.alloc ?_ ?_ _ | with_reducible refine Below.drew ?_ | with_reducible refine belowN ?_ _ | with_reducible refine Below.setCell ?_ ?_ _ | go_size)), (show Blk _ _ _ #[.int .i64 (a), .int .i64 (b)] from (by first | with_reducible exact oA | (repeat' first | with_reducible assumption | (with_reducible refine Blk.new' ?_; first | with_reducible rfl | (simp only [World.size_alloc, World.size_setCell, World.size_drew]; done)) | with_reducible refine Blk.alloc ?_ _ | with_reducible refine Blk.drew ?_ | with_reducible refine Blk.drewN ?_ _ | with_reducible apply Blk.both | with_reducible refine Blk.far' ?_ ?_ | (show _ ≠ _; omega)))), (show Blk _ _ _ #[.int .i64 (0), .int .i64 (0)] from (by first | with_reducible exact oR | (repeat' first | with_reducible assumption | (with_reducible refine Blk.new' ?_; first | with_reducible rfl | (simp only [World.size_alloc, World.size_setCell, World.size_drew]; done)) | with_reducible refine Blk.alloc ?_ _ | with_reducible refine Blk.drew ?_ | with_reducible refine Blk.drewN ?_ _ | with_reducible apply Blk.both | with_reducible refine Blk.far' ?_ ?_ | (show _ ≠ _; omega)))), (fun h => by cases h), (fun h => by cases h), (fun h => by cases h), (Nat.le_of_eq hN0.out)⟩
  · obtain ⟨B, oA, oR, pa8, pa9, q8_9, zN0⟩ := hj
    exact ⟨B, oA, oR, (fun h => hv 8 h ▸ pa8 h), (fun h => hv 9 h ▸ pa9 h), (fun h h' => hv 8 h ▸ hv 9 h' ▸ q8_9 h h'), zN0⟩
  have iA : w.heap.size < N0 := by have h := oA.lt; have e := hN0.out; (try simp only [World.size_alloc, World.size_setCell, World.size_drew, World.heap_drewN] at e); omega
  have iR : w.heap.size + 1 < N0 := by have h := oR.lt; have e := hN0.out; (try simp only [World.size_alloc, World.size_setCell, World.size_drew, World.heap_drewN] at e); omega
  have uN0 : w.heap.size ≤ N0 := by have h := Below.size B; have e := hN0.out; (try simp only [World.size_alloc, World.size_setCell, World.size_drew, World.heap_drewN] at e); (try simp only [World.size_alloc, World.size_setCell, World.size_drew, World.heap_drewN] at h); omega
  clear B oA oR hN0
  apply Reg.RC_pure (hc := rfl) (hst := rfl) (hw := rfl) (t := 22) (hd := rfl) (ht := Nat.le_of_ble_eq_true rfl)
  · intro D v W hc hj hf K hK
    go_step
    exact hK.out
  · rfl
  apply Reg.RC_pure (hc := rfl) (hst := rfl) (hw := rfl) (t := 23) (hd := rfl) (ht := Nat.le_of_ble_eq_true rfl)
  · intro D v W hc hj hf K hK
    obtain ⟨B, oA, oR, pa8, pa9, q8_9, zN0⟩ := hj
    have cA0 := oA.q0
    have cA1 := oA.q1
    go_step
    exact hK.out
  · rfl
  apply Reg.RC_pure (hc := rfl) (hst := rfl) (hw := rfl) (t := 24) (hd := rfl) (ht := Nat.le_of_ble_eq_true rfl)
  · intro D v W hc hj hf K hK
    go_step
    exact hK.out
  · rfl
  refine Reg.RC_call rfl (by intro t ht; cases ht; exact Nat.le_of_ble_eq_true rfl) rfl (fun D v W hc hj hf K hK => ?_) (fun x hx => ?_)
  · obtain ⟨B, oA, oR, pa8, pa9, q8_9, zN0⟩ := hj
    go_step
    refine (times_any _ _ _ (by omega) (by omega) (by omega) (by omega)).mono ?_
    rintro e W' ⟨rfl, hb⟩
    have st : Steps W W' := hb
    exact hK.out _ _ Reg.any ⟨below_steps B (Nat.le_refl _) st, oA.steps st, oR.steps st, (fun h => let ⟨g, h1, h2, h3⟩ := pa8 h; ⟨g, h1, h2, h3.steps st⟩), (fun h => let ⟨g, h1, h2, h3⟩ := pa9 h; ⟨g, h1, h2, h3.steps st⟩), (fun h h' => q8_9 h h'), (Nat.le_trans zN0 st.size)⟩ Reg.none_ rfl
  have hx : x = .agg #[.int .i64 (hi64 (a * num)), .int .u64 (lo64 (a * num))] := hx
  subst hx
  refine Reg.RC_at (b := ⟨#[_,_,_,_,_,_,_,_,_,_,_,_,_,_,_,_,_,_,_,_,_,_,_,_,_,_,_,_,_,_,_,_,_,_,_,_,_,_,_,_,_,_,_,_,_,_,_,_,_,_,_,_,_,_,_], []⟩) rfl ?_
  apply Reg.RC_pure (hc := rfl) (hst := rfl) (hw := rfl) (t := 26) (hd := rfl) (ht := Nat.le_of_ble_eq_true rfl)
  · intro D v W hc hj hf K hK
    go_step
    exact hK.out
  · rfl
  apply Reg.RC_pure (hc := rfl) (hst := rfl) (hw := rfl) (t := 27) (hd := rfl) (ht := Nat.le_of_ble_eq_true rfl)
  · intro D v W hc hj hf K hK
    obtain ⟨B, oA, oR, pa8, pa9, q8_9, zN0⟩ := hj
    have cA0 := oA.q0
    have cA1 := oA.q1
    go_step
    exact hK.out
  · rfl
  apply Reg.RC_pure (hc := rfl) (hst := rfl) (hw := rfl) (t := 28) (hd := rfl) (ht := Nat.le_of_ble_eq_true rfl)
  · intro D v W hc hj hf K hK
    go_step
    exact hK.out
  · rfl
  refine Reg.RC_call rfl (by intro t ht; cases ht; exact Nat.le_of_ble_eq_true rfl) rfl (fun D v W hc hj hf K hK => ?_) (fun x hx => ?_)
  · obtain ⟨B, oA, oR, pa8, pa9, q8_9, zN0⟩ := hj
    go_step
    refine (times_any _ _ _ (by omega) (by omega) (by omega) (by omega)).mono ?_
    rintro e W' ⟨rfl, hb⟩
    have st : Steps W W' := hb
    exact hK.out _ _ Reg.any ⟨below_steps B (Nat.le_refl _) st, oA.steps st, oR.steps st, (fun h => let ⟨g, h1, h2, h3⟩ := pa8 h; ⟨g, h1, h2, h3.steps st⟩), (fun h => let ⟨g, h1, h2, h3⟩ := pa9 h; ⟨g, h1, h2, h3.steps st⟩), (fun h h' => q8_9 h h'), (Nat.le_trans zN0 st.size)⟩ Reg.none_ rfl
  have hx : x = .agg #[.int .i64 (hi64 (b * num)), .int .u64 (lo64 (b * num))] := hx
  subst hx
  refine Reg.RC_at (b := ⟨#[_,_,_,_,_,_,_,_,_,_,_,_,_,_,_,_,_,_,_,_,_,_,_,_,_,_,_,_,_,_,_,_,_,_,_,_,_,_,_,_,_,_,_,_,_,_,_,_,_,_,_,_,_,_,_], []⟩) rfl ?_
  refine Reg.RC_call rfl (by intro t ht; cases ht; exact Nat.le_of_ble_eq_true rfl) rfl (fun D v W hc hj hf K hK => ?_) (fun x hx => ?_)
  · obtain ⟨B, oA, oR, pa8, pa9, q8_9, zN0⟩ := hj
    have hs : D 10 = false := hc.2 10 (.head _)
    go_step
    exact hK.out _ _ Reg.any ⟨Below.alloc B B.size _, oA.alloc _, oR.alloc _, (fun _ => ⟨W.heap.size, rfl, zN0, (by show Blk _ _ _ #[Reg.sel (D 10) (.int .i64 0) (.int .i64 (hi64 (a * num))), Reg.sel (D 10) (.int .u64 0) (.int .u64 (lo64 (a * num)))]; simp only [hs, Reg.sel_false]; exact Blk.new W _ _)⟩), (fun h => let ⟨g, h1, h2, h3⟩ := pa9 h; ⟨g, h1, h2, h3.alloc _⟩), (fun _ h' => let ⟨g, h1, _, h3⟩ := pa9 h'; fun e => Reg.ptr_ne h3.lt (e.trans h1)), (Nat.le_trans zN0 (by rw [World.size_alloc]; exact Nat.le_succ _))⟩ Reg.none_ ⟨_, rfl⟩
  obtain ⟨gX, hx⟩ : ∃ g : Nat, x = .pointer (some ⟨g, 0, none⟩) := hx
  subst hx
  refine Reg.RC_at (b := ⟨#[_,_,_,_,_,_,_,_,_,_,_,_,_,_,_,_,_,_,_,_,_,_,_,_,_,_,_,_,_,_,_,_,_,_,_,_,_,_,_,_,_,_,_,_,_,_,_,_,_,_,_,_,_,_,_], []⟩) rfl ?_
  refine Reg.RC_call rfl (by intro t ht; cases ht; exact Nat.le_of_ble_eq_true rfl) rfl (fun D v W hc hj hf K hK => ?_) (fun x hx => ?_)
  · obtain ⟨B, oA, oR, pa8, pa9, q8_9, zN0⟩ := hj
    have hs : D 11 = false := hc.2 11 (.head _)
    go_step
    exact hK.out _ _ Reg.any ⟨Below.alloc B B.size _, oA.alloc _, oR.alloc _, (fun h => let ⟨g, h1, h2, h3⟩ := pa8 h; ⟨g, h1, h2, h3.alloc _⟩), (fun _ => ⟨W.heap.size, rfl, zN0, (by show Blk _ _ _ #[Reg.sel (D 11) (.int .i64 0) (.int .i64 (hi64 (b * num))), Reg.sel (D 11) (.int .u64 0) (.int .u64 (lo64 (b * num)))]; simp only [hs, Reg.sel_false]; exact Blk.new W _ _)⟩), (fun h _ => let ⟨g, h1, _, h3⟩ := pa8 h; fun e => Reg.ptr_ne h3.lt (e.symm.trans h1)), (Nat.le_trans zN0 (by rw [World.size_alloc]; exact Nat.le_succ _))⟩ Reg.none_ ⟨_, rfl⟩
  obtain ⟨gY, hx⟩ : ∃ g : Nat, x = .pointer (some ⟨g, 0, none⟩) := hx
  subst hx
  refine Reg.RC_at (b := ⟨#[_,_,_,_,_,_,_,_,_,_,_,_,_,_,_,_,_,_,_,_,_,_,_,_,_,_,_,_,_,_,_,_,_,_,_,_,_,_,_,_,_,_,_,_,_,_,_,_,_,_,_,_,_,_,_], []⟩) rfl ?_
  refine Reg.RC_call rfl (by intro t ht; cases ht) rfl (fun D v W hc hj hf K hK => ?_) (fun _ _ => Reg.RC_at (b := ⟨_, []⟩) rfl ?_)
  · obtain ⟨B, oA, oR, pa8, pa9, q8_9, zN0⟩ := hj
    have hs : D 10 = false := hc.1
    obtain ⟨hd, he, -⟩ := hf (8, some 9) (.head _) rfl
    obtain ⟨g, h1, h2, h3⟩ := pa8 hd
    obtain rfl : gX = g := Reg.ptr_eq ((show v 8 = Value.pointer (some ⟨gX, 0, none⟩) from he).symm.trans h1)
    have oo : Blk W gX 58 #[.int .i64 0, .int .u64 0] := by have o := h3; simp only [hs, Reg.sel_false] at o; exact o
    have cc0 := oo.q0
    have cc1 := oo.q1
    have ff := oo.fr
    have ll := oo.lt
    go_step
    have nn := h2
    exact hK.out undef _ Reg.any ⟨(by (repeat' first | with_reducible assumption | with_reducible exact Below.refl _ _ | with_reducible refine Below.alloc ?_ ?_ _ | with_reducible refine Below.drew ?_ | with_reducible refine belowN ?_ _ | with_reducible refine Below.setCell ?_ ?_ _ | go_size)), (show Blk _ _ _ #[.int .i64 (a), .int .i64 (b)] from ownB), (show Blk _ _ _ #[.int .i64 (0), .int .i64 (0)] from ownB), (fun _ => ⟨gX, h1, h2, (show Blk _ _ _ #[.int .i64 (hi64 (a * num)), .int .u64 (lo64 (a * num))] from (Blk.set2 (cs' := #[.int .i64 (hi64 (a * num)), .int .u64 (lo64 (a * num))]) (Blk.set2 (cs' := #[.int .i64 (hi64 (a * num)), .int .u64 0]) oo (i := 0) rfl) (i := 1) rfl))⟩), (fun h => let ⟨g', h1', h2', h3'⟩ := pa9 h; have hne : g' ≠ gX := (fun e => q8_9 hd h (h1.trans ((congrArg (fun n => Value.pointer (some ⟨n, 0, none⟩)) e.symm).trans h1'.symm))); ⟨g', h1', h2', (show Blk _ _ _ #[Reg.sel (D 11) (.int .i64 0) (.int .i64 (hi64 (b * num))), Reg.sel (D 11) (.int .u64 0) (.int .u64 (lo64 (b * num)))] from ownB)⟩), (fun h h' => q8_9 h h'), (by simpa using zN0)⟩ Reg.none_ trivial
  refine Reg.RC_call rfl (by intro t ht; cases ht) rfl (fun D v W hc hj hf K hK => ?_) (fun _ _ => Reg.RC_at (b := ⟨_, []⟩) rfl ?_)
  · obtain ⟨B, oA, oR, pa8, pa9, q8_9, zN0⟩ := hj
    have hs : D 11 = false := hc.1
    obtain ⟨hd, he, -⟩ := hf (9, some 10) (.head _) rfl
    obtain ⟨g, h1, h2, h3⟩ := pa9 hd
    obtain rfl : gY = g := Reg.ptr_eq ((show v 9 = Value.pointer (some ⟨gY, 0, none⟩) from he).symm.trans h1)
    have oo : Blk W gY 58 #[.int .i64 0, .int .u64 0] := by have o := h3; simp only [hs, Reg.sel_false] at o; exact o
    have cc0 := oo.q0
    have cc1 := oo.q1
    have ff := oo.fr
    have ll := oo.lt
    go_step
    have nn := h2
    exact hK.out undef _ Reg.any ⟨(by (repeat' first | with_reducible assumption | with_reducible exact Below.refl _ _ | with_reducible refine Below.alloc ?_ ?_ _ | with_reducible refine Below.drew ?_ | with_reducible refine belowN ?_ _ | with_reducible refine Below.setCell ?_ ?_ _ | go_size)), (show Blk _ _ _ #[.int .i64 (a), .int .i64 (b)] from ownB), (show Blk _ _ _ #[.int .i64 (0), .int .i64 (0)] from ownB), (fun h => let ⟨g', h1', h2', h3'⟩ := pa8 h; have hne : g' ≠ gY := (fun e => q8_9 h hd (h1'.trans ((congrArg (fun n => Value.pointer (some ⟨n, 0, none⟩)) e).trans h1.symm))); ⟨g', h1', h2', (show Blk _ _ _ #[Reg.sel (D 10) (.int .i64 0) (.int .i64 (hi64 (a * num))), Reg.sel (D 10) (.int .u64 0) (.int .u64 (lo64 (a * num)))] from ownB)⟩), (fun _ => ⟨gY, h1, h2, (show Blk _ _ _ #[.int .i64 (hi64 (b * num)), .int .u64 (lo64 (b * num))] from (Blk.set2 (cs' := #[.int .i64 (hi64 (b * num)), .int .u64 (lo64 (b * num))]) (Blk.set2 (cs' := #[.int .i64 (hi64 (b * num)), .int .u64 0]) oo (i := 0) rfl) (i := 1) rfl))⟩), (fun h h' => q8_9 h h'), (by simpa using zN0)⟩ Reg.none_ trivial
  refine Reg.RC_end (fun D v W hd hj hf => ?_)
  obtain ⟨B, oA, oR, pa8, pa9, q8_9, zN0⟩ := hj
  obtain ⟨-, he, -⟩ := hf (8, some 9) (.head _) rfl
  obtain ⟨g, h1, hXn, h3⟩ := pa8 (hd 8 (by decide))
  obtain rfl : gX = g := Reg.ptr_eq ((show v 8 = Value.pointer (some ⟨gX, 0, none⟩) from he).symm.trans h1)
  have oX : Blk W gX 58 #[.int .i64 (hi64 (a * num)), .int .u64 (lo64 (a * num))] := by have o := h3; simp only [hd 10 (by decide), Reg.inl, Reg.sel_true] at o; exact o
  have lowX : w.heap.size ≤ gX := Nat.le_trans uN0 hXn
  have sAX : w.heap.size ≠ gX := by have := iA; have := hXn; omega
  have sRX : w.heap.size + 1 ≠ gX := by have := iR; have := hXn; omega
  have he8 := h1
  clear he h1 h3 pa8 hXn
  obtain ⟨-, he, -⟩ := hf (9, some 10) (.tail _ (.head _)) rfl
  obtain ⟨g, h1, hYn, h3⟩ := pa9 (hd 9 (by decide))
  obtain rfl : gY = g := Reg.ptr_eq ((show v 9 = Value.pointer (some ⟨gY, 0, none⟩) from he).symm.trans h1)
  have oY : Blk W gY 58 #[.int .i64 (hi64 (b * num)), .int .u64 (lo64 (b * num))] := by have o := h3; simp only [hd 11 (by decide), Reg.inl, Reg.sel_true] at o; exact o
  have lowY : w.heap.size ≤ gY := Nat.le_trans uN0 hYn
  have sAY : w.heap.size ≠ gY := by have := iA; have := hYn; omega
  have sRY : w.heap.size + 1 ≠ gY := by have := iR; have := hYn; omega
  have he9 := h1
  clear he h1 h3 pa9 hYn
  have nXY : gX ≠ gY := fun e => q8_9 (hd 8 (by decide)) (hd 9 (by decide)) (he8.trans ((congrArg (fun n => Value.pointer (some ⟨n, 0, none⟩)) e).trans he9.symm))
  have nYX : gY ≠ gX := Ne.symm nXY
  clear he8 he9 zN0 uN0
  clear hd hf q8_9 iA iR
  refine hQ _ _ ?_
  clear hQ hops Q' ops'
  have nX := Blk.ne_ oX oR (by decide)
  have nY := Blk.ne_ oY oR (by decide)
  repeat' (first | go_values | go_skip | go_guarded | go_step | go_upon)
  refine Reg.wp_chain (fun D v W => Below w.heap.size w W ∧ Blk W (w.heap.size + 1) 23 #[.int .i64 (0), .int .i64 (0)] ∧ Blk W (gX) 58 #[Reg.sel (D 6) (.int .i64 (hi64 (a * num))) (.int .i64 (hi64 (-(a * num)))), Reg.sel (D 6) (.int .u64 (lo64 (a * num))) (.int .u64 (lo64 (-(a * num))))] ∧ Blk W (gY) 58 #[Reg.sel (D 7) (.int .i64 (hi64 (b * num))) (.int .i64 (hi64 (-(b * num)))), Reg.sel (D 7) (.int .u64 (lo64 (b * num))) (.int .u64 (lo64 (-(b * num))))])
    (Reg.inl [1, 3, 6, 7]) (Reg.ge [(1, .agg #[.int .i64 (hi64 (-(a * num))), .int .u64 (lo64 (-(a * num)))]), (3, .agg #[.int .i64 (hi64 (-(b * num))), .int .u64 (lo64 (-(b * num)))])]) Reg.None_ (fun _ => Reg.Any) (fun _ _ => False) (Reg.pl []) (Reg.pl [(0, [6]), (2, [7])])
    (by kernel_rfl) (by kernel_rfl) (by kernel_rfl) (Reg.ge_some _) (fun v => ?_) (fun _ _ _ _ _ h => h) (fun _ _ _ _ _ _ _ _ _ _ _ _ _ => Reg.none_) (fun _ _ _ _ h => h.elim) (fun ops' Q' hops hQ => ?_)
  · exact ⟨(by first | with_reducible exact Below.drew B | with_reducible exact Below.drew (belowN B _) | (repeat' first | with_reducible assumption | with_reducible exact Below.refl _ _ | with_reducible refine Below.alloc ?_ ?_ _ | with_reducible refine Below.drew ?_ | with_reducible refine belowN ?_ _ | with_reducible refine Below.setCell ?_ ?_ _ | go_size)), (show Blk _ _ _ #[.int .i64 (0), .int .i64 (0)] from (by first | with_reducible exact oR | (repeat' first | with_reducible assumption | (with_reducible refine Blk.new' ?_; first | with_reducible rfl | (simp only [World.size_alloc, World.size_setCell, World.size_drew]; done)) | with_reducible refine Blk.alloc ?_ _ | with_reducible refine Blk.drew ?_ | with_reducible refine Blk.drewN ?_ _ | with_reducible apply Blk.both | with_reducible refine Blk.far' ?_ ?_ | (show _ ≠ _; omega)))), (show Blk _ _ _ #[.int .i64 (hi64 (a * num)), .int .u64 (lo64 (a * num))] from (by first | with_reducible exact oX | (repeat' first | with_reducible assumption | (with_reducible refine Blk.new' ?_; first | with_reducible rfl | (simp only [World.size_alloc, World.size_setCell, World.size_drew]; done)) | with_reducible refine Blk.alloc ?_ _ | with_reducible refine Blk.drew ?_ | with_reducible refine Blk.drewN ?_ _ | with_reducible apply Blk.both | with_reducible refine Blk.far' ?_ ?_ | (show _ ≠ _; omega)))), (show Blk _ _ _ #[.int .i64 (hi64 (b * num)), .int .u64 (lo64 (b * num))] from (by first | with_reducible exact oY | (repeat' first | with_reducible assumption | (with_reducible refine Blk.new' ?_; first | with_reducible rfl | (simp only [World.size_alloc, World.size_setCell, World.size_drew]; done)) | with_reducible refine Blk.alloc ?_ _ | with_reducible refine Blk.drew ?_ | with_reducible refine Blk.drewN ?_ _ | with_reducible apply Blk.both | with_reducible refine Blk.far' ?_ ?_ | (show _ ≠ _; omega))))⟩
  clear B oR oX oY
  apply Reg.RC_pure (hc := rfl) (hst := rfl) (hw := rfl) (t := 34) (hd := rfl) (ht := Nat.le_of_ble_eq_true rfl)
  · intro D v W hc hj hf K hK
    obtain ⟨B, oR, oX, oY⟩ := hj
    have oX : Blk W (gX) 58 #[.int .i64 (hi64 (a * num)), .int .u64 (lo64 (a * num))] := by have o := oX; simp only [hc.2 6 (by decide), Reg.sel_false] at o; exact o
    have cX0 := oX.q0
    have cX1 := oX.q1
    go_step
    exact hK.out
  · rfl
  refine Reg.RC_exact _ (fun _ h => h) rfl (by intro t ht; cases ht; exact Nat.le_of_ble_eq_true rfl) rfl (fun D v W hc hj hf K hK => ?_) (Reg.RC_at (b := ⟨#[_,_,_,_,_,_,_,_,_,_,_,_,_,_,_,_,_,_,_,_,_,_,_,_,_,_,_,_,_,_,_,_,_,_,_,_,_,_,_,_,_,_,_,_,_,_,_,_,_,_,_,_,_,_,_], []⟩) rfl ?_)
  · obtain ⟨B, oR, oX, oY⟩ := hj
    go_step
    refine (neg_any _ _ (by omega) (by omega)).mono ?_
    rintro e W' ⟨rfl, hb⟩
    have st : Steps W W' := hb
    exact hK.out _ _ Reg.any ⟨below_steps B (Nat.le_refl _) st, oR.steps st, oX.steps st, oY.steps st⟩ Reg.none_ rfl
  apply Reg.RC_pure (hc := rfl) (hst := rfl) (hw := rfl) (t := 36) (hd := rfl) (ht := Nat.le_of_ble_eq_true rfl)
  · intro D v W hc hj hf K hK
    obtain ⟨B, oR, oX, oY⟩ := hj
    have oY : Blk W (gY) 58 #[.int .i64 (hi64 (b * num)), .int .u64 (lo64 (b * num))] := by have o := oY; simp only [hc.2 7 (by decide), Reg.sel_false] at o; exact o
    have cY0 := oY.q0
    have cY1 := oY.q1
    go_step
    exact hK.out
  · rfl
  refine Reg.RC_exact _ (fun _ h => h) rfl (by intro t ht; cases ht; exact Nat.le_of_ble_eq_true rfl) rfl (fun D v W hc hj hf K hK => ?_) (Reg.RC_at (b := ⟨#[_,_,_,_,_,_,_,_,_,_,_,_,_,_,_,_,_,_,_,_,_,_,_,_,_,_,_,_,_,_,_,_,_,_,_,_,_,_,_,_,_,_,_,_,_,_,_,_,_,_,_,_,_,_,_], []⟩) rfl ?_)
  · obtain ⟨B, oR, oX, oY⟩ := hj
    go_step
    refine (neg_any _ _ (by omega) (by omega)).mono ?_
    rintro e W' ⟨rfl, hb⟩
    have st : Steps W W' := hb
    exact hK.out _ _ Reg.any ⟨below_steps B (Nat.le_refl _) st, oR.steps st, oX.steps st, oY.steps st⟩ Reg.none_ rfl
  apply Reg.RC_pure (hc := rfl) (hst := rfl) (hw := rfl) (t := 38) (hd := rfl) (ht := Nat.le_of_ble_eq_true rfl)
  · intro D v W hc hj hf K hK
    go_step
    exact hK.out
  · rfl
  apply Reg.RC_pure (hc := rfl) (hst := rfl) (hw := rfl) (t := 39) (hd := rfl) (ht := Nat.le_of_ble_eq_true rfl)
  · intro D v W hc hj hf K hK
    go_step
    exact hK.out
  · rfl
  refine Reg.RC_call rfl (by intro t ht; cases ht) rfl (fun D v W hc hj hf K hK => ?_) (fun _ _ => Reg.RC_at (b := ⟨_, []⟩) rfl ?_)
  · obtain ⟨B, oR, oX, oY⟩ := hj
    have hs : D 6 = false := hc.1
    have oX : Blk W (gX) 58 #[.int .i64 (hi64 (a * num)), .int .u64 (lo64 (a * num))] := by have o := oX; simp only [hs, Reg.sel_false] at o; exact o
    have lX := oX.lt
    have fX := oX.fr
    have cX0 := oX.q0
    have cX1 := oX.q1
    go_step
    exact hK.out undef _ Reg.any ⟨(by (repeat' first | with_reducible assumption | with_reducible exact Below.refl _ _ | with_reducible refine Below.alloc ?_ ?_ _ | with_reducible refine Below.drew ?_ | with_reducible refine belowN ?_ _ | with_reducible refine Below.setCell ?_ ?_ _ | go_size)), (show Blk _ _ _ #[.int .i64 (0), .int .i64 (0)] from ownB), (show Blk _ _ _ #[.int .i64 (hi64 (-(a * num))), .int .u64 (lo64 (-(a * num)))] from (Blk.set2 (cs' := #[.int .i64 (hi64 (-(a * num))), .int .u64 (lo64 (-(a * num)))]) (Blk.set2 (cs' := #[.int .i64 (hi64 (-(a * num))), .int .u64 (lo64 (a * num))]) oX (i := 0) rfl) (i := 1) rfl)), (show Blk _ _ _ #[Reg.sel (D 7) (.int .i64 (hi64 (b * num))) (.int .i64 (hi64 (-(b * num)))), Reg.sel (D 7) (.int .u64 (lo64 (b * num))) (.int .u64 (lo64 (-(b * num))))] from ownB)⟩ Reg.none_ trivial
  refine Reg.RC_call rfl (by intro t ht; cases ht) rfl (fun D v W hc hj hf K hK => ?_) (fun _ _ => Reg.RC_at (b := ⟨_, []⟩) rfl ?_)
  · obtain ⟨B, oR, oX, oY⟩ := hj
    have hs : D 7 = false := hc.1
    have oY : Blk W (gY) 58 #[.int .i64 (hi64 (b * num)), .int .u64 (lo64 (b * num))] := by have o := oY; simp only [hs, Reg.sel_false] at o; exact o
    have lY := oY.lt
    have fY := oY.fr
    have cY0 := oY.q0
    have cY1 := oY.q1
    go_step
    exact hK.out undef _ Reg.any ⟨(by (repeat' first | with_reducible assumption | with_reducible exact Below.refl _ _ | with_reducible refine Below.alloc ?_ ?_ _ | with_reducible refine Below.drew ?_ | with_reducible refine belowN ?_ _ | with_reducible refine Below.setCell ?_ ?_ _ | go_size)), (show Blk _ _ _ #[.int .i64 (0), .int .i64 (0)] from ownB), (show Blk _ _ _ #[Reg.sel (D 6) (.int .i64 (hi64 (a * num))) (.int .i64 (hi64 (-(a * num)))), Reg.sel (D 6) (.int .u64 (lo64 (a * num))) (.int .u64 (lo64 (-(a * num))))] from ownB), (show Blk _ _ _ #[.int .i64 (hi64 (-(b * num))), .int .u64 (lo64 (-(b * num)))] from (Blk.set2 (cs' := #[.int .i64 (hi64 (-(b * num))), .int .u64 (lo64 (-(b * num)))]) (Blk.set2 (cs' := #[.int .i64 (hi64 (-(b * num))), .int .u64 (lo64 (b * num))]) oY (i := 0) rfl) (i := 1) rfl))⟩ Reg.none_ trivial
  apply Reg.RC_pure (hc := rfl) (hst := rfl) (hw := rfl) (t := 11) (hd := rfl) (ht := Nat.le_of_ble_eq_true rfl)
  · intro D v W hc hj hf K hK
    go_step
    exact hK.out
  · rfl
  refine Reg.RC_end (fun D v W hd hj hf => ?_)
  obtain ⟨B, oR, oX, oY⟩ := hj
  have e6 : D 6 = true := hd 6 (by decide)
  have e7 : D 7 = true := hd 7 (by decide)
  have oX : Blk W (gX) 58 #[.int .i64 (hi64 (-(a * num))), .int .u64 (lo64 (-(a * num)))] := by have o := oX; simp only [e6, Reg.sel_true] at o; exact o
  have oY : Blk W (gY) 58 #[.int .i64 (hi64 (-(b * num))), .int .u64 (lo64 (-(b * num)))] := by have o := oY; simp only [e7, Reg.sel_true] at o; exact o
  clear e6 e7
  clear hd hf
  refine hQ _ _ ?_
  clear hQ hops Q' ops'
  repeat' (first | go_values | go_skip | go_guarded | go_step | go_upon)
  refine Reg.wp_chain_n (fun N0 => fun D v W => Below w.heap.size w W ∧ Blk W (w.heap.size + 1) 23 #[Reg.sel (D 15) (.int .i64 (0)) (.int .i64 ((md (dn (mn (-(a * num)) (-(b * num))) (-den)) (upq (mx (-(a * num)) (-(b * num))) (-den))).1)), Reg.sel (D 15) (.int .i64 (0)) (.int .i64 ((md (dn (mn (-(a * num)) (-(b * num))) (-den)) (upq (mx (-(a * num)) (-(b * num))) (-den))).2.1))] ∧ Blk W (gX) 58 #[.int .i64 (hi64 (-(a * num))), .int .u64 (lo64 (-(a * num)))] ∧ Blk W (gY) 58 #[.int .i64 (hi64 (-(b * num))), .int .u64 (lo64 (-(b * num)))] ∧ (D 2 = true → ∃ g : Nat, v 2 = .slice (some ⟨g, 0, none⟩) 1 1 ∧ N0 ≤ g ∧ Blk W g 58 #[.int .i64 (hi64 (-(b * num))), .int .u64 (lo64 (-(b * num)))]) ∧ (D 8 = true → ∃ g : Nat, v 8 = .slice (some ⟨g, 0, none⟩) 1 1 ∧ N0 ≤ g ∧ Blk W g 58 #[.int .i64 (hi64 (-(b * num))), .int .u64 (lo64 (-(b * num)))]) ∧ N0 ≤ W.heap.size)
    (Reg.inl [2, 3, 5, 8, 9, 11, 12, 15]) (Reg.gv [(3, fun x => x = .agg #[.int .i64 (hi64 (mn (-(a * num)) (-(b * num)))), .int .u64 (lo64 (mn (-(a * num)) (-(b * num))))]), (5, fun x => x = .int .i64 (dn (mn (-(a * num)) (-(b * num))) (-den))), (9, fun x => x = .agg #[.int .i64 (hi64 (mx (-(a * num)) (-(b * num)))), .int .u64 (lo64 (mx (-(a * num)) (-(b * num))))]), (11, fun x => x = .int .i64 (upq (mx (-(a * num)) (-(b * num))) (-den))), (12, fun x => x = .tuple #[.agg #[.int .i64 ((md (dn (mn (-(a * num)) (-(b * num))) (-den)) (upq (mx (-(a * num)) (-(b * num))) (-den))).1), .int .i64 ((md (dn (mn (-(a * num)) (-(b * num))) (-den)) (upq (mx (-(a * num)) (-(b * num))) (-den))).2.1)], .int .i64 ((md (dn (mn (-(a * num)) (-(b * num))) (-den)) (upq (mx (-(a * num)) (-(b * num))) (-den))).2.2)]), (2, fun x => ∃ g : Nat, x = .slice (some ⟨g, 0, none⟩) 1 1), (8, fun x => ∃ g : Nat, x = .slice (some ⟨g, 0, none⟩) 1 1)]) Reg.None_ (fun _ => Reg.Any) (fun _ _ => False) (Reg.pl [(3, [(2, some 42)]), (9, [(8, some 48)]), (17, [(2, some 42), (8, some 48)])]) (Reg.pl [])
    (by kernel_rfl) (by kernel_rfl) (by kernel_rfl) (Reg.gv_some _ (fun p hp => by simp only [List.mem_cons, List.not_mem_nil, or_false] at hp; rcases hp with rfl | rfl | rfl | rfl | rfl | rfl | rfl; exact ⟨_, rfl⟩; exact ⟨_, rfl⟩; exact ⟨_, rfl⟩; exact ⟨_, rfl⟩; exact ⟨_, rfl⟩; exact ⟨_, 0, rfl⟩; exact ⟨_, 0, rfl⟩)) (fun N0 hN0 => ⟨fun v => ?_, (fun D v v' W hv hj => ?_), fun _ _ _ _ _ _ _ _ _ _ _ _ _ => Reg.none_, fun _ _ _ _ h => h.elim, fun ops' Q' hops hQ => ?_⟩)
  · exact ⟨(by first | with_reducible exact Below.drew B | with_reducible exact Below.drew (belowN B _) | (repeat' first | with_reducible assumption | with_reducible exact Below.refl _ _ | with_reducible refine Below.alloc ?_ ?_ _ | with_reducible refine Below.drew ?_ | with_reducible refine belowN ?_ _ | with_reducible refine Below.setCell ?_ ?_ _ | go_size)), (show Blk _ _ _ #[.int .i64 (0), .int .i64 (0)] from (by first | with_reducible exact oR | (repeat' first | with_reducible assumption | (with_reducible refine Blk.new' ?_; first | with_reducible rfl | (simp only [World.size_alloc, World.size_setCell, World.size_drew]; done)) | with_reducible refine Blk.alloc ?_ _ | with_reducible refine Blk.drew ?_ | with_reducible refine Blk.drewN ?_ _ | with_reducible apply Blk.both | with_reducible refine Blk.far' ?_ ?_ | (show _ ≠ _; omega)))), (show Blk _ _ _ #[.int .i64 (hi64 (-(a * num))), .int .u64 (lo64 (-(a * num)))] from (by first | with_reducible exact oX | (repeat' first | with_reducible assumption | (with_reducible refine Blk.new' ?_; first | with_reducible rfl | (simp only [World.size_alloc, World.size_setCell, World.size_drew]; done)) | with_reducible refine Blk.alloc ?_ _ | with_reducible refine Blk.drew ?_ | with_reducible refine Blk.drewN ?_ _ | with_reducible apply Blk.both | with_reducible refine Blk.far' ?_ ?_ | (show _ ≠ _; omega)))), (show Blk _ _ _ #[.int .i64 (hi64 (-(b * num))), .int .u64 (lo64 (-(b * num)))] from (by first | with_reducible exact oY | (repeat' first | with_reducible assumption | (with_reducible refine Blk.new' ?_; first | with_reducible rfl | (simp only [World.size_alloc, World.size_setCell, World.size_drew]; done)) | with_reducible refine Blk.alloc ?_ _ | with_reducible refine Blk.drew ?_ | with_reducible refine Blk.drewN ?_ _ | with_reducible apply Blk.both | with_reducible refine Blk.far' ?_ ?_ | (show _ ≠ _; omega)))), (fun h => by cases h), (fun h => by cases h), (Nat.le_of_eq hN0.out)⟩
  · obtain ⟨B, oR, oX, oY, pa2, pa8, zN0⟩ := hj
    exact ⟨B, oR, oX, oY, (fun h => hv 2 h ▸ pa2 h), (fun h => hv 8 h ▸ pa8 h), zN0⟩
  have iR : w.heap.size + 1 < N0 := by have h := oR.lt; have e := hN0.out; (try simp only [World.size_alloc, World.size_setCell, World.size_drew, World.heap_drewN] at e); omega
  have iX : gX < N0 := by have h := oX.lt; have e := hN0.out; (try simp only [World.size_alloc, World.size_setCell, World.size_drew, World.heap_drewN] at e); omega
  have iY : gY < N0 := by have h := oY.lt; have e := hN0.out; (try simp only [World.size_alloc, World.size_setCell, World.size_drew, World.heap_drewN] at e); omega
  have uN0 : w.heap.size ≤ N0 := by have h := Below.size B; have e := hN0.out; (try simp only [World.size_alloc, World.size_setCell, World.size_drew, World.heap_drewN] at e); (try simp only [World.size_alloc, World.size_setCell, World.size_drew, World.heap_drewN] at h); omega
  clear B oR oX oY hN0
  apply Reg.RC_pure (hc := rfl) (hst := rfl) (hw := rfl) (t := 40) (hd := rfl) (ht := Nat.le_of_ble_eq_true rfl)
  · intro D v W hc hj hf K hK
    obtain ⟨B, oR, oX, oY, pa2, pa8, zN0⟩ := hj
    have cX0 := oX.q0
    have cX1 := oX.q1
    go_step
    exact hK.out
  · rfl
  apply Reg.RC_pure (hc := rfl) (hst := rfl) (hw := rfl) (t := 41) (hd := rfl) (ht := Nat.le_of_ble_eq_true rfl)
  · intro D v W hc hj hf K hK
    obtain ⟨B, oR, oX, oY, pa2, pa8, zN0⟩ := hj
    have cY0 := oY.q0
    have cY1 := oY.q1
    go_step
    exact hK.out
  · rfl
  refine Reg.RC_call rfl (by intro t ht; cases ht; exact Nat.le_of_ble_eq_true rfl) rfl (fun D v W hc hj hf K hK => ?_) (fun x hx => ?_)
  · obtain ⟨B, oR, oX, oY, pa2, pa8, zN0⟩ := hj
    go_step
    exact hK.out _ _ Reg.any ⟨Below.alloc B B.size _, oR.alloc _, oX.alloc _, oY.alloc _, (fun _ => ⟨W.heap.size, rfl, zN0, Blk.new W _ _⟩), (fun h => let ⟨g, h1, h2, h3⟩ := pa8 h; ⟨g, h1, h2, h3.alloc _⟩), (Nat.le_trans zN0 (by rw [World.size_alloc]; exact Nat.le_succ _))⟩ Reg.none_ ⟨_, rfl⟩
  obtain ⟨gS1, hx⟩ : ∃ g : Nat, x = .slice (some ⟨g, 0, none⟩) 1 1 := hx
  subst hx
  refine Reg.RC_at (b := ⟨#[_,_,_,_,_,_,_,_,_,_,_,_,_,_,_,_,_,_,_,_,_,_,_,_,_,_,_,_,_,_,_,_,_,_,_,_,_,_,_,_,_,_,_,_,_,_,_,_,_,_,_,_,_,_,_], []⟩) rfl ?_
  refine Reg.RC_call rfl (by intro t ht; cases ht; exact Nat.le_of_ble_eq_true rfl) rfl (fun D v W hc hj hf K hK => ?_) (fun x hx => ?_)
  · obtain ⟨B, oR, oX, oY, pa2, pa8, zN0⟩ := hj
    obtain ⟨hd, he, -⟩ := hf (2, some 42) (.head _) rfl
    obtain ⟨g, h1, h2, oS1⟩ := pa2 hd
    obtain rfl : gS1 = g := Reg.slc_eq ((show v 2 = Value.slice (some ⟨gS1, 0, none⟩) 1 1 from he).symm.trans h1)
    clear he h1 h2
    go_step
    refine (least1m _ _ _ _ oS1.lt (oS1.c 0 rfl) (oS1.c 1 rfl)).mono ?_
    rintro e W' ⟨rfl, hb⟩
    have st : Steps W W' := hb
    exact hK.out _ _ Reg.any ⟨below_steps B (Nat.le_refl _) st, oR.steps st, oX.steps st, oY.steps st, (fun h => let ⟨g, h1, h2, h3⟩ := pa2 h; ⟨g, h1, h2, h3.steps st⟩), (fun h => let ⟨g, h1, h2, h3⟩ := pa8 h; ⟨g, h1, h2, h3.steps st⟩), (Nat.le_trans zN0 st.size)⟩ Reg.none_ rfl
  have hx : x = .agg #[.int .i64 (hi64 (mn (-(a * num)) (-(b * num)))), .int .u64 (lo64 (mn (-(a * num)) (-(b * num))))] := hx
  subst hx
  refine Reg.RC_at (b := ⟨#[_,_,_,_,_,_,_,_,_,_,_,_,_,_,_,_,_,_,_,_,_,_,_,_,_,_,_,_,_,_,_,_,_,_,_,_,_,_,_,_,_,_,_,_,_,_,_,_,_,_,_,_,_,_,_], []⟩) rfl ?_
  apply Reg.RC_pure (hc := rfl) (hst := rfl) (hw := rfl) (t := 44) (hd := rfl) (ht := Nat.le_of_ble_eq_true rfl)
  · intro D v W hc hj hf K hK
    go_step
    exact hK.out
  · rfl
  refine Reg.RC_call rfl (by intro t ht; cases ht; exact Nat.le_of_ble_eq_true rfl) rfl (fun D v W hc hj hf K hK => ?_) (fun x hx => ?_)
  · obtain ⟨B, oR, oX, oY, pa2, pa8, zN0⟩ := hj
    go_step
    refine (down_any _ _ _ (by simp only [mn, mx]; omega) (by simp only [mn, mx]; omega) (by omega) (by omega)).mono ?_
    rintro e W' ⟨rfl, hb⟩
    have st : Steps W W' := hb
    exact hK.out _ _ Reg.any ⟨below_steps B (Nat.le_refl _) st, oR.steps st, oX.steps st, oY.steps st, (fun h => let ⟨g, h1, h2, h3⟩ := pa2 h; ⟨g, h1, h2, h3.steps st⟩), (fun h => let ⟨g, h1, h2, h3⟩ := pa8 h; ⟨g, h1, h2, h3.steps st⟩), (Nat.le_trans zN0 st.size)⟩ Reg.none_ rfl
  have hx : x = .int .i64 (dn (mn (-(a * num)) (-(b * num))) (-den)) := hx
  subst hx
  refine Reg.RC_at (b := ⟨#[_,_,_,_,_,_,_,_,_,_,_,_,_,_,_,_,_,_,_,_,_,_,_,_,_,_,_,_,_,_,_,_,_,_,_,_,_,_,_,_,_,_,_,_,_,_,_,_,_,_,_,_,_,_,_], []⟩) rfl ?_
  apply Reg.RC_pure (hc := rfl) (hst := rfl) (hw := rfl) (t := 46) (hd := rfl) (ht := Nat.le_of_ble_eq_true rfl)
  · intro D v W hc hj hf K hK
    obtain ⟨B, oR, oX, oY, pa2, pa8, zN0⟩ := hj
    have cX0 := oX.q0
    have cX1 := oX.q1
    go_step
    exact hK.out
  · rfl
  apply Reg.RC_pure (hc := rfl) (hst := rfl) (hw := rfl) (t := 47) (hd := rfl) (ht := Nat.le_of_ble_eq_true rfl)
  · intro D v W hc hj hf K hK
    obtain ⟨B, oR, oX, oY, pa2, pa8, zN0⟩ := hj
    have cY0 := oY.q0
    have cY1 := oY.q1
    go_step
    exact hK.out
  · rfl
  refine Reg.RC_call rfl (by intro t ht; cases ht; exact Nat.le_of_ble_eq_true rfl) rfl (fun D v W hc hj hf K hK => ?_) (fun x hx => ?_)
  · obtain ⟨B, oR, oX, oY, pa2, pa8, zN0⟩ := hj
    go_step
    exact hK.out _ _ Reg.any ⟨Below.alloc B B.size _, oR.alloc _, oX.alloc _, oY.alloc _, (fun h => let ⟨g, h1, h2, h3⟩ := pa2 h; ⟨g, h1, h2, h3.alloc _⟩), (fun _ => ⟨W.heap.size, rfl, zN0, Blk.new W _ _⟩), (Nat.le_trans zN0 (by rw [World.size_alloc]; exact Nat.le_succ _))⟩ Reg.none_ ⟨_, rfl⟩
  obtain ⟨gS2, hx⟩ : ∃ g : Nat, x = .slice (some ⟨g, 0, none⟩) 1 1 := hx
  subst hx
  refine Reg.RC_at (b := ⟨#[_,_,_,_,_,_,_,_,_,_,_,_,_,_,_,_,_,_,_,_,_,_,_,_,_,_,_,_,_,_,_,_,_,_,_,_,_,_,_,_,_,_,_,_,_,_,_,_,_,_,_,_,_,_,_], []⟩) rfl ?_
  refine Reg.RC_call rfl (by intro t ht; cases ht; exact Nat.le_of_ble_eq_true rfl) rfl (fun D v W hc hj hf K hK => ?_) (fun x hx => ?_)
  · obtain ⟨B, oR, oX, oY, pa2, pa8, zN0⟩ := hj
    obtain ⟨hd, he, -⟩ := hf (8, some 48) (.head _) rfl
    obtain ⟨g, h1, h2, oS2⟩ := pa8 hd
    obtain rfl : gS2 = g := Reg.slc_eq ((show v 8 = Value.slice (some ⟨gS2, 0, none⟩) 1 1 from he).symm.trans h1)
    clear he h1 h2
    go_step
    refine (greatest1m _ _ _ _ oS2.lt (oS2.c 0 rfl) (oS2.c 1 rfl)).mono ?_
    rintro e W' ⟨rfl, hb⟩
    have st : Steps W W' := hb
    exact hK.out _ _ Reg.any ⟨below_steps B (Nat.le_refl _) st, oR.steps st, oX.steps st, oY.steps st, (fun h => let ⟨g, h1, h2, h3⟩ := pa2 h; ⟨g, h1, h2, h3.steps st⟩), (fun h => let ⟨g, h1, h2, h3⟩ := pa8 h; ⟨g, h1, h2, h3.steps st⟩), (Nat.le_trans zN0 st.size)⟩ Reg.none_ rfl
  have hx : x = .agg #[.int .i64 (hi64 (mx (-(a * num)) (-(b * num)))), .int .u64 (lo64 (mx (-(a * num)) (-(b * num))))] := hx
  subst hx
  refine Reg.RC_at (b := ⟨#[_,_,_,_,_,_,_,_,_,_,_,_,_,_,_,_,_,_,_,_,_,_,_,_,_,_,_,_,_,_,_,_,_,_,_,_,_,_,_,_,_,_,_,_,_,_,_,_,_,_,_,_,_,_,_], []⟩) rfl ?_
  apply Reg.RC_pure (hc := rfl) (hst := rfl) (hw := rfl) (t := 50) (hd := rfl) (ht := Nat.le_of_ble_eq_true rfl)
  · intro D v W hc hj hf K hK
    go_step
    exact hK.out
  · rfl
  refine Reg.RC_call rfl (by intro t ht; cases ht; exact Nat.le_of_ble_eq_true rfl) rfl (fun D v W hc hj hf K hK => ?_) (fun x hx => ?_)
  · obtain ⟨B, oR, oX, oY, pa2, pa8, zN0⟩ := hj
    go_step
    refine (up_any _ _ _ (by simp only [mn, mx]; omega) (by simp only [mn, mx]; omega) (by omega) (by omega)).mono ?_
    rintro e W' ⟨rfl, hb⟩
    have st : Steps W W' := hb
    exact hK.out _ _ Reg.any ⟨below_steps B (Nat.le_refl _) st, oR.steps st, oX.steps st, oY.steps st, (fun h => let ⟨g, h1, h2, h3⟩ := pa2 h; ⟨g, h1, h2, h3.steps st⟩), (fun h => let ⟨g, h1, h2, h3⟩ := pa8 h; ⟨g, h1, h2, h3.steps st⟩), (Nat.le_trans zN0 st.size)⟩ Reg.none_ rfl
  have hx : x = .int .i64 (upq (mx (-(a * num)) (-(b * num))) (-den)) := hx
  subst hx
  refine Reg.RC_at (b := ⟨#[_,_,_,_,_,_,_,_,_,_,_,_,_,_,_,_,_,_,_,_,_,_,_,_,_,_,_,_,_,_,_,_,_,_,_,_,_,_,_,_,_,_,_,_,_,_,_,_,_,_,_,_,_,_,_], []⟩) rfl ?_
  refine Reg.RC_call rfl (by intro t ht; cases ht; exact Nat.le_of_ble_eq_true rfl) rfl (fun D v W hc hj hf K hK => ?_) (fun x hx => ?_)
  · obtain ⟨B, oR, oX, oY, pa2, pa8, zN0⟩ := hj
    go_step
    refine (made_any _ _ _).mono ?_
    rintro e W' ⟨rfl, hb⟩
    have st : Steps W W' := hb
    exact hK.out _ _ Reg.any ⟨below_steps B (Nat.le_refl _) st, oR.steps st, oX.steps st, oY.steps st, (fun h => let ⟨g, h1, h2, h3⟩ := pa2 h; ⟨g, h1, h2, h3.steps st⟩), (fun h => let ⟨g, h1, h2, h3⟩ := pa8 h; ⟨g, h1, h2, h3.steps st⟩), (Nat.le_trans zN0 st.size)⟩ Reg.none_ rfl
  have hx : x = .tuple #[.agg #[.int .i64 ((md (dn (mn (-(a * num)) (-(b * num))) (-den)) (upq (mx (-(a * num)) (-(b * num))) (-den))).1), .int .i64 ((md (dn (mn (-(a * num)) (-(b * num))) (-den)) (upq (mx (-(a * num)) (-(b * num))) (-den))).2.1)], .int .i64 ((md (dn (mn (-(a * num)) (-(b * num))) (-den)) (upq (mx (-(a * num)) (-(b * num))) (-den))).2.2)] := hx
  subst hx
  refine Reg.RC_at (b := ⟨#[_,_,_,_,_,_,_,_,_,_,_,_,_,_,_,_,_,_,_,_,_,_,_,_,_,_,_,_,_,_,_,_,_,_,_,_,_,_,_,_,_,_,_,_,_,_,_,_,_,_,_,_,_,_,_], []⟩) rfl ?_
  apply Reg.RC_pure (hc := rfl) (hst := rfl) (hw := rfl) (t := 53) (hd := rfl) (ht := Nat.le_of_ble_eq_true rfl)
  · intro D v W hc hj hf K hK
    go_step
    exact hK.out
  · rfl
  apply Reg.RC_pure (hc := rfl) (hst := rfl) (hw := rfl) (t := 54) (hd := rfl) (ht := Nat.le_of_ble_eq_true rfl)
  · intro D v W hc hj hf K hK
    go_step
    exact hK.out
  · rfl
  refine Reg.RC_call rfl (by intro t ht; cases ht) rfl (fun D v W hc hj hf K hK => ?_) (fun _ _ => Reg.RC_at (b := ⟨_, []⟩) rfl ?_)
  · obtain ⟨B, oR, oX, oY, pa2, pa8, zN0⟩ := hj
    have hs : D 15 = false := hc.1
    have oR : Blk W (w.heap.size + 1) 23 #[.int .i64 (0), .int .i64 (0)] := by have o := oR; simp only [hs, Reg.sel_false] at o; exact o
    have lR := oR.lt
    have fR := oR.fr
    have cR0 := oR.q0
    have cR1 := oR.q1
    go_step
    exact hK.out undef _ Reg.any ⟨(by (repeat' first | with_reducible assumption | with_reducible exact Below.refl _ _ | with_reducible refine Below.alloc ?_ ?_ _ | with_reducible refine Below.drew ?_ | with_reducible refine belowN ?_ _ | with_reducible refine Below.setCell ?_ ?_ _ | go_size)), (show Blk _ _ _ #[.int .i64 ((md (dn (mn (-(a * num)) (-(b * num))) (-den)) (upq (mx (-(a * num)) (-(b * num))) (-den))).1), .int .i64 ((md (dn (mn (-(a * num)) (-(b * num))) (-den)) (upq (mx (-(a * num)) (-(b * num))) (-den))).2.1)] from (Blk.set2 (cs' := #[.int .i64 ((md (dn (mn (-(a * num)) (-(b * num))) (-den)) (upq (mx (-(a * num)) (-(b * num))) (-den))).1), .int .i64 ((md (dn (mn (-(a * num)) (-(b * num))) (-den)) (upq (mx (-(a * num)) (-(b * num))) (-den))).2.1)]) (Blk.set2 (cs' := #[.int .i64 ((md (dn (mn (-(a * num)) (-(b * num))) (-den)) (upq (mx (-(a * num)) (-(b * num))) (-den))).1), .int .i64 (0)]) oR (i := 0) rfl) (i := 1) rfl)), (show Blk _ _ _ #[.int .i64 (hi64 (-(a * num))), .int .u64 (lo64 (-(a * num)))] from ownB), (show Blk _ _ _ #[.int .i64 (hi64 (-(b * num))), .int .u64 (lo64 (-(b * num)))] from ownB), (fun h => let ⟨g, h1, h2, h3⟩ := pa2 h; have hne : g ≠ w.heap.size + 1 := (by have := iR; omega); ⟨g, h1, h2, Blk.far' (Blk.far' (h3) hne) hne⟩), (fun h => let ⟨g, h1, h2, h3⟩ := pa8 h; have hne : g ≠ w.heap.size + 1 := (by have := iR; omega); ⟨g, h1, h2, Blk.far' (Blk.far' (h3) hne) hne⟩), (by simpa using zN0)⟩ Reg.none_ trivial
  apply Reg.RC_pure (hc := rfl) (hst := rfl) (hw := rfl) (t := 7) (hd := rfl) (ht := Nat.le_of_ble_eq_true rfl)
  · intro D v W hc hj hf K hK
    go_step
    exact hK.out
  · rfl
  refine Reg.RC_end (fun D v W hd hj hf => ?_)
  obtain ⟨B, oR, oX, oY, pa2, pa8, zN0⟩ := hj
  have e15 : D 15 = true := hd 15 (by decide)
  have oR : Blk W (w.heap.size + 1) 23 #[.int .i64 ((md (dn (mn (-(a * num)) (-(b * num))) (-den)) (upq (mx (-(a * num)) (-(b * num))) (-den))).1), .int .i64 ((md (dn (mn (-(a * num)) (-(b * num))) (-den)) (upq (mx (-(a * num)) (-(b * num))) (-den))).2.1)] := by have o := oR; simp only [e15, Reg.sel_true] at o; exact o
  obtain ⟨-, he, -⟩ := hf (2, some 42) (.head _) rfl
  obtain ⟨g, h1, hS1n, h3⟩ := pa2 (hd 2 (by decide))
  obtain rfl : gS1 = g := Reg.slc_eq ((show v 2 = Value.slice (some ⟨gS1, 0, none⟩) 1 1 from he).symm.trans h1)
  have oS1 : Blk W gS1 58 #[.int .i64 (hi64 (-(b * num))), .int .u64 (lo64 (-(b * num)))] := h3
  have lowS1 : w.heap.size ≤ gS1 := Nat.le_trans uN0 hS1n
  have sRS1 : w.heap.size + 1 ≠ gS1 := by have := iR; have := hS1n; omega
  have sXS1 : gX ≠ gS1 := by have := iX; have := hS1n; omega
  have sYS1 : gY ≠ gS1 := by have := iY; have := hS1n; omega
  have he2 := h1
  clear he h1 h3 pa2 hS1n
  obtain ⟨-, he, -⟩ := hf (8, some 48) (.tail _ (.head _)) rfl
  obtain ⟨g, h1, hS2n, h3⟩ := pa8 (hd 8 (by decide))
  obtain rfl : gS2 = g := Reg.slc_eq ((show v 8 = Value.slice (some ⟨gS2, 0, none⟩) 1 1 from he).symm.trans h1)
  have oS2 : Blk W gS2 58 #[.int .i64 (hi64 (-(b * num))), .int .u64 (lo64 (-(b * num)))] := h3
  have lowS2 : w.heap.size ≤ gS2 := Nat.le_trans uN0 hS2n
  have sRS2 : w.heap.size + 1 ≠ gS2 := by have := iR; have := hS2n; omega
  have sXS2 : gX ≠ gS2 := by have := iX; have := hS2n; omega
  have sYS2 : gY ≠ gS2 := by have := iY; have := hS2n; omega
  have he8 := h1
  clear he h1 h3 pa8 hS2n
  clear he2 he8 zN0 uN0
  clear e15
  clear hd hf iR iX iY
  refine hQ _ _ ?_
  clear hQ hops Q' ops'
  have lR := oR.lt
  have cR0 := oR.c 0 rfl
  have cR1 := oR.c 1 rfl
  have fR := oR.fr
  repeat' (first | go_values | go_skip | go_guarded | go_step | go_upon)
  refine bodyPost_ret (by simp [results, Tryz.results21, go_sem, lR, cR0, cR1, fR]; rfl) rfl ?_
  show G3 w _ _ _
  rw [H.out]
  exact ⟨rfl, B⟩
end Go.Proofs.YtalnlnpnacfdfaaGreat
