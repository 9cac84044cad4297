import Derived.Test.YtalnlnpnacfdfaaGreatCSpanC
import Derived.Test.YtalnlnpnacfdfaaGreatCReg
import Derived.Test.YtalnlnpnacfdfaaGreatCTry0
namespace Go.Proofs.YtalnlnpnacfdfaaGreat
open Go.RowKit
def divQ (lo hi near far : Int) : Int × Int × Int := md (min (dn (lo * 1099511627776) near) (dn (lo * 1099511627776) far)) (max (upq (hi * 1099511627776) near) (upq (hi * 1099511627776) far))
theorem divQ_if (lo hi near far : Int) : divQ lo hi near far = md (if dn (lo * 1099511627776) far < dn (lo * 1099511627776) near then dn (lo * 1099511627776) far else dn (lo * 1099511627776) near) (if upq (hi * 1099511627776) near < upq (hi * 1099511627776) far then upq (hi * 1099511627776) far else upq (hi * 1099511627776) near) := by
  unfold divQ
  generalize dn (lo * 1099511627776) near = a
  generalize dn (lo * 1099511627776) far = b
  generalize upq (hi * 1099511627776) near = c
  generalize upq (hi * 1099511627776) far = d
  congr 1 <;> split <;> omega
set_option maxRecDepth 100000 in
set_option maxHeartbeats 4000000 in
theorem div_pos (a b c d : Int) (w : World) (v0 : a ≤ b) (v1 : -2305843009213693952 ≤ a) (v2 : b ≤ 2305843009213693952) (v3 : c ≤ d) (v4 : -2305843009213693952 ≤ c) (v5 : d ≤ 2305843009213693952) (hc1 : 1 ≤ c) :
    Calls Tryz.prog 17 #[.agg #[.int .i64 a, .int .i64 b], .agg #[.int .i64 c, .int .i64 d]] w (G3 w (divQ a b c d)) := by
  go_enter Tryz.func17, Tryz.ntmps17
  go_wp2_with fail
  refine (check2_ok _ a b c d _ (by go_size) (by simp [go_sem]) (by simp [go_sem]) (by simp [go_sem]) (by simp [go_sem]) v0 v1 v2 v3 v4 v5).mono ?_
  rintro e w1 ⟨rfl, hb1⟩
  have st : Steps _ w1 := hb1
  have Bn : Below w.heap.size w w1 := belowA st
  have nA : Blk w1 (w.heap.size) 23 #[.int .i64 (a), .int .i64 (b)] := Blk.stepsA st
  have nB : Blk w1 (w.heap.size + 1) 23 #[.int .i64 (c), .int .i64 (d)] := Blk.stepsA st
  have nR : Blk w1 (w.heap.size + 1 + 1) 23 #[.int .i64 (0), .int .i64 (0)] := Blk.stepsA st
  clear st
  have B := Bn
  clear Bn
  have oA := nA
  clear nA
  have cA0 := oA.q0
  have cA1 := oA.q1
  have fA := oA.fr
  have lA := oA.lt
  have oB := nB
  clear nB
  have cB0 := oB.q0
  have cB1 := oB.q1
  have fB := oB.fr
  have lB := oB.lt
  have oR := nR
  clear nR
  have cR0 := oR.q0
  have cR1 := oR.q1
  have fR := oR.fr
  have lR := oR.lt
  go_wp2_with fail
  refine Reg.wp_chain_n (fun N0 => fun D v W => Below w.heap.size w W ∧ Blk W (w.heap.size) 23 #[.int .i64 (a), .int .i64 (b)] ∧ Blk W (w.heap.size + 1) 23 #[.int .i64 (c), .int .i64 (d)] ∧ Blk W (w.heap.size + 1 + 1) 23 #[.int .i64 (0), .int .i64 (0)] ∧ (D 6 = true → ∃ g : Nat, v 6 = .pointer (some ⟨g, 0, none⟩) ∧ N0 ≤ g ∧ Blk W g 58 #[Reg.sel (D 8) (.int .i64 0) (.int .i64 (hi64 (a * 1099511627776))), Reg.sel (D 8) (.int .u64 0) (.int .u64 (lo64 (a * 1099511627776)))]) ∧ (D 7 = true → ∃ g : Nat, v 7 = .pointer (some ⟨g, 0, none⟩) ∧ N0 ≤ g ∧ Blk W g 58 #[Reg.sel (D 9) (.int .i64 0) (.int .i64 (hi64 (b * 1099511627776))), Reg.sel (D 9) (.int .u64 0) (.int .u64 (lo64 (b * 1099511627776)))]) ∧ (D 6 = true → D 7 = true → v 6 ≠ v 7) ∧ N0 ≤ W.heap.size)
    (Reg.inl [2, 5, 6, 7, 8, 9]) (Reg.gv [(2, fun x => x = .agg #[.int .i64 (hi64 (a * 1099511627776)), .int .u64 (lo64 (a * 1099511627776))]), (5, fun x => x = .agg #[.int .i64 (hi64 (b * 1099511627776)), .int .u64 (lo64 (b * 1099511627776))]), (6, fun x => ∃ g : Nat, x = .pointer (some ⟨g, 0, none⟩)), (7, fun x => ∃ g : Nat, x = .pointer (some ⟨g, 0, none⟩))]) Reg.None_ (fun _ => Reg.Any) (fun _ _ => False) (Reg.pl [(8, [(6, some 7)]), (9, [(7, some 8)]), (10, [(6, some 7), (7, some 8)])]) (Reg.pl [(6, [8]), (7, [9])])
    (by kernel_rfl) (by kernel_rfl) (by kernel_rfl) (Reg.gv_some _ (fun p hp => by simp only [List.mem_cons, List.not_mem_nil, or_false] at hp; rcases hp with rfl | rfl | rfl | rfl; exact ⟨_, rfl⟩; exact ⟨_, rfl⟩; exact ⟨_, 0, rfl⟩; exact ⟨_, 0, rfl⟩)) (fun N0 hN0 => ⟨fun v => ?_, (fun D v v' W hv hj => ?_), fun _ _ _ _ _ _ _ _ _ _ _ _ _ => Reg.none_, fun _ _ _ _ h => h.elim, fun ops' Q' hops hQ => ?_⟩)
  · exact ⟨(by first | with_reducible exact Below.drew B | with_reducible exact Below.drew (belowN B _) | (repeat' first | with_reducible assumption | with_reducible exact Below.refl _ _ | with_reducible refine Below.alloc ?_ ?_ _ | with_reducible refine Below.drew ?_ | with_reducible refine belowN ?_ _ | with_reducible refine Below.setCell ?_ ?_ _ | go_size)), (show Blk _ _ _ #[.int .i64 (a), .int .i64 (b)] from (by first | with_reducible exact oA | (repeat' first | with_reducible assumption | (with_reducible refine Blk.new' ?_; first | with_reducible rfl | (simp only [World.size_alloc, World.size_setCell, World.size_drew]; done)) | with_reducible refine Blk.alloc ?_ _ | with_reducible refine Blk.drew ?_ | with_reducible refine Blk.drewN ?_ _ | with_reducible apply Blk.both | with_reducible refine Blk.far' ?_ ?_ | (show _ ≠ _; omega)))), (show Blk _ _ _ #[.int .i64 (c), .int .i64 (d)] from (by first | with_reducible exact oB | (repeat' first | with_reducible assumption | (with_reducible refine Blk.new' ?_; first | with_reducible rfl | (simp only [World.size_alloc, World.size_setCell, World.size_drew]; done)) | with_reducible refine Blk.alloc ?_ _ | with_reducible refine Blk.drew ?_ | with_reducible refine Blk.drewN ?_ _ | with_reducible apply Blk.both | with_reducible refine Blk.far' ?_ ?_ | (show _ ≠ _; omega)))), (show Blk _ _ _ #[.int .i64 (0), .int .i64 (0)] from (by first | with_reducible exact oR | (repeat' first | with_reducible assumption | (with_reducible refine Blk.new' ?_; first | with_reducible rfl | (simp only [World.size_alloc, World.size_setCell, World.size_drew]; done)) | with_reducible refine Blk.alloc ?_ _ | with_reducible refine Blk.drew ?_ | with_reducible refine Blk.drewN ?_ _ | with_reducible apply Blk.both | with_reducible refine Blk.far' ?_ ?_ | (show _ ≠ _; omega)))), (fun h => by cases h), (fun h => by cases h), (fun h => by cases h), (Nat.le_of_eq hN0.out)⟩
  · obtain ⟨B, oA, oB, oR, pa6, pa7, q6_7, zN0⟩ := hj
    exact ⟨B, oA, oB, oR, (fun h => hv 6 h ▸ pa6 h), (fun h => hv 7 h ▸ pa7 h), (fun h h' => hv 6 h ▸ hv 7 h' ▸ q6_7 h h'), zN0⟩
  have iA : w.heap.size < N0 := by have h := oA.lt; have e := hN0.out; (try simp only [World.size_alloc, World.size_setCell, World.size_drew, World.heap_drewN] at e); omega
  have iB : w.heap.size + 1 < N0 := by have h := oB.lt; have e := hN0.out; (try simp only [World.size_alloc, World.size_setCell, World.size_drew, World.heap_drewN] at e); omega
  have iR : w.heap.size + 1 + 1 < N0 := by have h := oR.lt; have e := hN0.out; (try simp only [World.size_alloc, World.size_setCell, World.size_drew, World.heap_drewN] at e); omega
  have uN0 : w.heap.size ≤ N0 := by have h := Below.size B; have e := hN0.out; (try simp only [World.size_alloc, World.size_setCell, World.size_drew, World.heap_drewN] at e); (try simp only [World.size_alloc, World.size_setCell, World.size_drew, World.heap_drewN] at h); omega
  clear B oA oB oR hN0
  apply Reg.RC_pure (hc := rfl) (hst := rfl) (hw := rfl) (t := 47) (hd := rfl) (ht := Nat.le_of_ble_eq_true rfl)
  · intro D v W hc hj hf K hK
    go_step
    exact hK.out
  · rfl
  apply Reg.RC_pure (hc := rfl) (hst := rfl) (hw := rfl) (t := 48) (hd := rfl) (ht := Nat.le_of_ble_eq_true rfl)
  · intro D v W hc hj hf K hK
    obtain ⟨B, oA, oB, oR, pa6, pa7, q6_7, zN0⟩ := hj
    have cA0 := oA.q0
    have cA1 := oA.q1
    go_step
    exact hK.out
  · rfl
  refine Reg.RC_call rfl (by intro t ht; cases ht; exact Nat.le_of_ble_eq_true rfl) rfl (fun D v W hc hj hf K hK => ?_) (fun x hx => ?_)
  · obtain ⟨B, oA, oB, oR, pa6, pa7, q6_7, zN0⟩ := hj
    go_step
    refine (times_any _ _ _ (by omega) (by omega) (by omega) (by omega)).mono ?_
    rintro e W' ⟨rfl, hb⟩
    have st : Steps W W' := hb
    exact hK.out _ _ Reg.any ⟨below_steps B (Nat.le_refl _) st, oA.steps st, oB.steps st, oR.steps st, (fun h => let ⟨g, h1, h2, h3⟩ := pa6 h; ⟨g, h1, h2, h3.steps st⟩), (fun h => let ⟨g, h1, h2, h3⟩ := pa7 h; ⟨g, h1, h2, h3.steps st⟩), (fun h h' => q6_7 h h'), (Nat.le_trans zN0 st.size)⟩ Reg.none_ rfl
  have hx : x = .agg #[.int .i64 (hi64 (a * 1099511627776)), .int .u64 (lo64 (a * 1099511627776))] := hx
  subst hx
  refine Reg.RC_at (b := ⟨#[_,_,_,_,_,_,_,_,_,_,_,_,_,_,_,_,_,_,_,_,_,_,_,_,_,_,_,_,_,_,_,_,_,_,_,_,_,_,_,_,_,_,_,_,_,_,_,_,_,_,_,_,_,_,_,_,_,_,_,_,_,_,_,_,_,_,_,_,_,_,_,_,_,_,_,_], []⟩) rfl ?_
  apply Reg.RC_pure (hc := rfl) (hst := rfl) (hw := rfl) (t := 50) (hd := rfl) (ht := Nat.le_of_ble_eq_true rfl)
  · intro D v W hc hj hf K hK
    go_step
    exact hK.out
  · rfl
  apply Reg.RC_pure (hc := rfl) (hst := rfl) (hw := rfl) (t := 51) (hd := rfl) (ht := Nat.le_of_ble_eq_true rfl)
  · intro D v W hc hj hf K hK
    obtain ⟨B, oA, oB, oR, pa6, pa7, q6_7, zN0⟩ := hj
    have cA0 := oA.q0
    have cA1 := oA.q1
    go_step
    exact hK.out
  · rfl
  refine Reg.RC_call rfl (by intro t ht; cases ht; exact Nat.le_of_ble_eq_true rfl) rfl (fun D v W hc hj hf K hK => ?_) (fun x hx => ?_)
  · obtain ⟨B, oA, oB, oR, pa6, pa7, q6_7, zN0⟩ := hj
    go_step
    refine (times_any _ _ _ (by omega) (by omega) (by omega) (by omega)).mono ?_
    rintro e W' ⟨rfl, hb⟩
    have st : Steps W W' := hb
    exact hK.out _ _ Reg.any ⟨below_steps B (Nat.le_refl _) st, oA.steps st, oB.steps st, oR.steps st, (fun h => let ⟨g, h1, h2, h3⟩ := pa6 h; ⟨g, h1, h2, h3.steps st⟩), (fun h => let ⟨g, h1, h2, h3⟩ := pa7 h; ⟨g, h1, h2, h3.steps st⟩), (fun h h' => q6_7 h h'), (Nat.le_trans zN0 st.size)⟩ Reg.none_ rfl
  have hx : x = .agg #[.int .i64 (hi64 (b * 1099511627776)), .int .u64 (lo64 (b * 1099511627776))] := hx
  subst hx
  refine Reg.RC_at (b := ⟨#[_,_,_,_,_,_,_,_,_,_,_,_,_,_,_,_,_,_,_,_,_,_,_,_,_,_,_,_,_,_,_,_,_,_,_,_,_,_,_,_,_,_,_,_,_,_,_,_,_,_,_,_,_,_,_,_,_,_,_,_,_,_,_,_,_,_,_,_,_,_,_,_,_,_,_,_], []⟩) rfl ?_
  refine Reg.RC_call rfl (by intro t ht; cases ht; exact Nat.le_of_ble_eq_true rfl) rfl (fun D v W hc hj hf K hK => ?_) (fun x hx => ?_)
  · obtain ⟨B, oA, oB, oR, pa6, pa7, q6_7, zN0⟩ := hj
    have hs : D 8 = false := hc.2 8 (.head _)
    go_step
    exact hK.out _ _ Reg.any ⟨Below.alloc B B.size _, oA.alloc _, oB.alloc _, oR.alloc _, (fun _ => ⟨W.heap.size, rfl, zN0, (by show Blk _ _ _ #[Reg.sel (D 8) (.int .i64 0) (.int .i64 (hi64 (a * 1099511627776))), Reg.sel (D 8) (.int .u64 0) (.int .u64 (lo64 (a * 1099511627776)))]; simp only [hs, Reg.sel_false]; exact Blk.new W _ _)⟩), (fun h => let ⟨g, h1, h2, h3⟩ := pa7 h; ⟨g, h1, h2, h3.alloc _⟩), (fun _ h' => let ⟨g, h1, _, h3⟩ := pa7 h'; fun e => Reg.ptr_ne h3.lt (e.trans h1)), (Nat.le_trans zN0 (by rw [World.size_alloc]; exact Nat.le_succ _))⟩ Reg.none_ ⟨_, rfl⟩
  obtain ⟨gG, hx⟩ : ∃ g : Nat, x = .pointer (some ⟨g, 0, none⟩) := hx
  subst hx
  refine Reg.RC_at (b := ⟨#[_,_,_,_,_,_,_,_,_,_,_,_,_,_,_,_,_,_,_,_,_,_,_,_,_,_,_,_,_,_,_,_,_,_,_,_,_,_,_,_,_,_,_,_,_,_,_,_,_,_,_,_,_,_,_,_,_,_,_,_,_,_,_,_,_,_,_,_,_,_,_,_,_,_,_,_], []⟩) rfl ?_
  refine Reg.RC_call rfl (by intro t ht; cases ht; exact Nat.le_of_ble_eq_true rfl) rfl (fun D v W hc hj hf K hK => ?_) (fun x hx => ?_)
  · obtain ⟨B, oA, oB, oR, pa6, pa7, q6_7, zN0⟩ := hj
    have hs : D 9 = false := hc.2 9 (.head _)
    go_step
    exact hK.out _ _ Reg.any ⟨Below.alloc B B.size _, oA.alloc _, oB.alloc _, oR.alloc _, (fun h => let ⟨g, h1, h2, h3⟩ := pa6 h; ⟨g, h1, h2, h3.alloc _⟩), (fun _ => ⟨W.heap.size, rfl, zN0, (by show Blk _ _ _ #[Reg.sel (D 9) (.int .i64 0) (.int .i64 (hi64 (b * 1099511627776))), Reg.sel (D 9) (.int .u64 0) (.int .u64 (lo64 (b * 1099511627776)))]; simp only [hs, Reg.sel_false]; exact Blk.new W _ _)⟩), (fun h _ => let ⟨g, h1, _, h3⟩ := pa6 h; fun e => Reg.ptr_ne h3.lt (e.symm.trans h1)), (Nat.le_trans zN0 (by rw [World.size_alloc]; exact Nat.le_succ _))⟩ Reg.none_ ⟨_, rfl⟩
  obtain ⟨gK, hx⟩ : ∃ g : Nat, x = .pointer (some ⟨g, 0, none⟩) := hx
  subst hx
  refine Reg.RC_at (b := ⟨#[_,_,_,_,_,_,_,_,_,_,_,_,_,_,_,_,_,_,_,_,_,_,_,_,_,_,_,_,_,_,_,_,_,_,_,_,_,_,_,_,_,_,_,_,_,_,_,_,_,_,_,_,_,_,_,_,_,_,_,_,_,_,_,_,_,_,_,_,_,_,_,_,_,_,_,_], []⟩) rfl ?_
  refine Reg.RC_call rfl (by intro t ht; cases ht) rfl (fun D v W hc hj hf K hK => ?_) (fun _ _ => Reg.RC_at (b := ⟨_, []⟩) rfl ?_)
  · obtain ⟨B, oA, oB, oR, pa6, pa7, q6_7, zN0⟩ := hj
    have hs : D 8 = false := hc.1
    obtain ⟨hd, he, -⟩ := hf (6, some 7) (.head _) rfl
    obtain ⟨g, h1, h2, h3⟩ := pa6 hd
    obtain rfl : gG = g := Reg.ptr_eq ((show v 6 = Value.pointer (some ⟨gG, 0, none⟩) from he).symm.trans h1)
    have oo : Blk W gG 58 #[.int .i64 0, .int .u64 0] := by have o := h3; simp only [hs, Reg.sel_false] at o; exact o
    have cc0 := oo.q0
    have cc1 := oo.q1
    have ff := oo.fr
    have ll := oo.lt
    go_step
    have nn := h2
    exact hK.out undef _ Reg.any ⟨(by (repeat' first | with_reducible assumption | with_reducible exact Below.refl _ _ | with_reducible refine Below.alloc ?_ ?_ _ | with_reducible refine Below.drew ?_ | with_reducible refine belowN ?_ _ | with_reducible refine Below.setCell ?_ ?_ _ | go_size)), (show Blk _ _ _ #[.int .i64 (a), .int .i64 (b)] from ownB), (show Blk _ _ _ #[.int .i64 (c), .int .i64 (d)] from ownB), (show Blk _ _ _ #[.int .i64 (0), .int .i64 (0)] from ownB), (fun _ => ⟨gG, h1, h2, (show Blk _ _ _ #[.int .i64 (hi64 (a * 1099511627776)), .int .u64 (lo64 (a * 1099511627776))] from (Blk.set2 (cs' := #[.int .i64 (hi64 (a * 1099511627776)), .int .u64 (lo64 (a * 1099511627776))]) (Blk.set2 (cs' := #[.int .i64 (hi64 (a * 1099511627776)), .int .u64 0]) oo (i := 0) rfl) (i := 1) rfl))⟩), (fun h => let ⟨g', h1', h2', h3'⟩ := pa7 h; have hne : g' ≠ gG := (fun e => q6_7 hd h (h1.trans ((congrArg (fun n => Value.pointer (some ⟨n, 0, none⟩)) e.symm).trans h1'.symm))); ⟨g', h1', h2', (show Blk _ _ _ #[Reg.sel (D 9) (.int .i64 0) (.int .i64 (hi64 (b * 1099511627776))), Reg.sel (D 9) (.int .u64 0) (.int .u64 (lo64 (b * 1099511627776)))] from ownB)⟩), (fun h h' => q6_7 h h'), (by simpa using zN0)⟩ Reg.none_ trivial
  refine Reg.RC_call rfl (by intro t ht; cases ht) rfl (fun D v W hc hj hf K hK => ?_) (fun _ _ => Reg.RC_at (b := ⟨_, []⟩) rfl ?_)
  · obtain ⟨B, oA, oB, oR, pa6, pa7, q6_7, zN0⟩ := hj
    have hs : D 9 = false := hc.1
    obtain ⟨hd, he, -⟩ := hf (7, some 8) (.head _) rfl
    obtain ⟨g, h1, h2, h3⟩ := pa7 hd
    obtain rfl : gK = g := Reg.ptr_eq ((show v 7 = Value.pointer (some ⟨gK, 0, none⟩) from he).symm.trans h1)
    have oo : Blk W gK 58 #[.int .i64 0, .int .u64 0] := by have o := h3; simp only [hs, Reg.sel_false] at o; exact o
    have cc0 := oo.q0
    have cc1 := oo.q1
    have ff := oo.fr
    have ll := oo.lt
    go_step
    have nn := h2
    exact hK.out undef _ Reg.any ⟨(by (repeat' first | with_reducible assumption | with_reducible exact Below.refl _ _ | with_reducible refine Below.alloc ?_ ?_ _ | with_reducible refine Below.drew ?_ | with_reducible refine belowN ?_ _ | with_reducible refine Below.setCell ?_ ?_ _ | go_size)), (show Blk _ _ _ #[.int .i64 (a), .int .i64 (b)] from ownB), (show Blk _ _ _ #[.int .i64 (c), .int .i64 (d)] from ownB), (show Blk _ _ _ #[.int .i64 (0), .int .i64 (0)] from ownB), (fun h => let ⟨g', h1', h2', h3'⟩ := pa6 h; have hne : g' ≠ gK := (fun e => q6_7 h hd (h1'.trans ((congrArg (fun n => Value.pointer (some ⟨n, 0, none⟩)) e).trans h1.symm))); ⟨g', h1', h2', (show Blk _ _ _ #[Reg.sel (D 8) (.int .i64 0) (.int .i64 (hi64 (a * 1099511627776))), Reg.sel (D 8) (.int .u64 0) (.int .u64 (lo64 (a * 1099511627776)))] from ownB)⟩), (fun _ => ⟨gK, h1, h2, (show Blk _ _ _ #[.int .i64 (hi64 (b * 1099511627776)), .int .u64 (lo64 (b * 1099511627776))] from (Blk.set2 (cs' := #[.int .i64 (hi64 (b * 1099511627776)), .int .u64 (lo64 (b * 1099511627776))]) (Blk.set2 (cs' := #[.int .i64 (hi64 (b * 1099511627776)), .int .u64 0]) oo (i := 0) rfl) (i := 1) rfl))⟩), (fun h h' => q6_7 h h'), (by simpa using zN0)⟩ Reg.none_ trivial
  refine Reg.RC_end (fun D v W hd hj hf => ?_)
  obtain ⟨B, oA, oB, oR, pa6, pa7, q6_7, zN0⟩ := hj
  obtain ⟨-, he, -⟩ := hf (6, some 7) (.head _) rfl
  obtain ⟨g, h1, hGn, h3⟩ := pa6 (hd 6 (by decide))
  obtain rfl : gG = g := Reg.ptr_eq ((show v 6 = Value.pointer (some ⟨gG, 0, none⟩) from he).symm.trans h1)
  have oG : Blk W gG 58 #[.int .i64 (hi64 (a * 1099511627776)), .int .u64 (lo64 (a * 1099511627776))] := by have o := h3; simp only [hd 8 (by decide), Reg.inl, Reg.sel_true] at o; exact o
  have lowG : w.heap.size ≤ gG := Nat.le_trans uN0 hGn
  have sAG : w.heap.size ≠ gG := by have := iA; have := hGn; omega
  have sBG : w.heap.size + 1 ≠ gG := by have := iB; have := hGn; omega
  have sRG : w.heap.size + 1 + 1 ≠ gG := by have := iR; have := hGn; omega
  have he6 := h1
  clear he h1 h3 pa6 hGn
  obtain ⟨-, he, -⟩ := hf (7, some 8) (.tail _ (.head _)) rfl
  obtain ⟨g, h1, hKn, h3⟩ := pa7 (hd 7 (by decide))
  obtain rfl : gK = g := Reg.ptr_eq ((show v 7 = Value.pointer (some ⟨gK, 0, none⟩) from he).symm.trans h1)
  have oK : Blk W gK 58 #[.int .i64 (hi64 (b * 1099511627776)), .int .u64 (lo64 (b * 1099511627776))] := by have o := h3; simp only [hd 9 (by decide), Reg.inl, Reg.sel_true] at o; exact o
  have lowK : w.heap.size ≤ gK := Nat.le_trans uN0 hKn
  have sAK : w.heap.size ≠ gK := by have := iA; have := hKn; omega
  have sBK : w.heap.size + 1 ≠ gK := by have := iB; have := hKn; omega
  have sRK : w.heap.size + 1 + 1 ≠ gK := by have := iR; have := hKn; omega
  have he7 := h1
  clear he h1 h3 pa7 hKn
  have nGK : gG ≠ gK := fun e => q6_7 (hd 6 (by decide)) (hd 7 (by decide)) (he6.trans ((congrArg (fun n => Value.pointer (some ⟨n, 0, none⟩)) e).trans he7.symm))
  have nKG : gK ≠ gG := Ne.symm nGK
  clear he6 he7 zN0 uN0
  clear hd hf q6_7 iA iB iR
  refine hQ _ _ ?_
  clear hQ hops Q' ops'
  have cB0 := oB.c 0 rfl
  have cB1 := oB.c 1 rfl
  have nG := Blk.ne_ oG oR (by decide)
  have nK := Blk.ne_ oK oR (by decide)
  repeat go_step
  go_quiet (fail)
  clear cB0 cB1
  repeat go_step
  refine Reg.wp_chain (fun D v W => Below w.heap.size w W ∧ Blk W (w.heap.size + 1 + 1) 23 #[Reg.sel (D 17) (.int .i64 (0)) (.int .i64 ((md (if dn (a * 1099511627776) (d) < dn (a * 1099511627776) (c) then dn (a * 1099511627776) (d) else dn (a * 1099511627776) (c)) (if upq (b * 1099511627776) (c) < upq (b * 1099511627776) (d) then upq (b * 1099511627776) (d) else upq (b * 1099511627776) (c))).1)), Reg.sel (D 17) (.int .i64 (0)) (.int .i64 ((md (if dn (a * 1099511627776) (d) < dn (a * 1099511627776) (c) then dn (a * 1099511627776) (d) else dn (a * 1099511627776) (c)) (if upq (b * 1099511627776) (c) < upq (b * 1099511627776) (d) then upq (b * 1099511627776) (d) else upq (b * 1099511627776) (c))).2.1))] ∧ Blk W (gG) 58 #[.int .i64 (hi64 (a * 1099511627776)), .int .u64 (lo64 (a * 1099511627776))] ∧ Blk W (gK) 58 #[.int .i64 (hi64 (b * 1099511627776)), .int .u64 (lo64 (b * 1099511627776))])
    (Reg.inl [2, 5, 9, 12, 14, 17]) (Reg.ge [(2, .int .i64 (dn (a * 1099511627776) (c))), (5, .int .i64 (dn (a * 1099511627776) (d))), (9, .int .i64 (upq (b * 1099511627776) (c))), (12, .int .i64 (upq (b * 1099511627776) (d))), (14, .tuple #[.agg #[.int .i64 ((md (if dn (a * 1099511627776) (d) < dn (a * 1099511627776) (c) then dn (a * 1099511627776) (d) else dn (a * 1099511627776) (c)) (if upq (b * 1099511627776) (c) < upq (b * 1099511627776) (d) then upq (b * 1099511627776) (d) else upq (b * 1099511627776) (c))).1), .int .i64 ((md (if dn (a * 1099511627776) (d) < dn (a * 1099511627776) (c) then dn (a * 1099511627776) (d) else dn (a * 1099511627776) (c)) (if upq (b * 1099511627776) (c) < upq (b * 1099511627776) (d) then upq (b * 1099511627776) (d) else upq (b * 1099511627776) (c))).2.1)], .int .i64 ((md (if dn (a * 1099511627776) (d) < dn (a * 1099511627776) (c) then dn (a * 1099511627776) (d) else dn (a * 1099511627776) (c)) (if upq (b * 1099511627776) (c) < upq (b * 1099511627776) (d) then upq (b * 1099511627776) (d) else upq (b * 1099511627776) (c))).2.2)])]) Reg.None_ (fun _ => Reg.Any) (fun _ _ => False) (Reg.pl []) (Reg.pl [])
    (by kernel_rfl) (by kernel_rfl) (by kernel_rfl) (Reg.ge_some _) (fun v => ?_) (fun _ _ _ _ _ h => h) (fun _ _ _ _ _ _ _ _ _ _ _ _ _ => Reg.none_) (fun _ _ _ _ h => h.elim) (fun ops' Q' hops hQ => ?_)
  · exact ⟨(by first | with_reducible exact Below.drew B | with_reducible exact Below.drew (belowN B _) | (repeat' first | with_reducible assumption | with_reducible exact Below.refl _ _ | with_reducible refine Below.alloc ?_ ?_ _ | with_reducible refine Below.drew ?_ | with_reducible refine belowN ?_ _ | with_reducible refine Below.setCell ?_ ?_ _ | go_size)), (show Blk _ _ _ #[.int .i64 (0), .int .i64 (0)] from (by first | with_reducible exact oR | (repeat' first | with_reducible assumption | (with_reducible refine Blk.new' ?_; first | with_reducible rfl | (simp only [World.size_alloc, World.size_setCell, World.size_drew]; done)) | with_reducible refine Blk.alloc ?_ _ | with_reducible refine Blk.drew ?_ | with_reducible refine Blk.drewN ?_ _ | with_reducible apply Blk.both | with_reducible refine Blk.far' ?_ ?_ | (show _ ≠ _; omega)))), (show Blk _ _ _ #[.int .i64 (hi64 (a * 1099511627776)), .int .u64 (lo64 (a * 1099511627776))] from (by first | with_reducible exact oG | (repeat' first | with_reducible assumption | (with_reducible refine Blk.new' ?_; first | with_reducible rfl | (simp only [World.size_alloc, World.size_setCell, World.size_drew]; done)) | with_reducible refine Blk.alloc ?_ _ | with_reducible refine Blk.drew ?_ | with_reducible refine Blk.drewN ?_ _ | with_reducible apply Blk.both | with_reducible refine Blk.far' ?_ ?_ | (show _ ≠ _; omega)))), (show Blk _ _ _ #[.int .i64 (hi64 (b * 1099511627776)), .int .u64 (lo64 (b * 1099511627776))] from (by first | with_reducible exact oK | (repeat' first | with_reducible assumption | (with_reducible refine Blk.new' ?_; first | with_reducible rfl | (simp only [World.size_alloc, World.size_setCell, World.size_drew]; done)) | with_reducible refine Blk.alloc ?_ _ | with_reducible refine Blk.drew ?_ | with_reducible refine Blk.drewN ?_ _ | with_reducible apply Blk.both | with_reducible refine Blk.far' ?_ ?_ | (show _ ≠ _; omega))))⟩
  clear B oR oG oK
  apply Reg.RC_pure (hc := rfl) (hst := rfl) (hw := rfl) (t := 59) (hd := rfl) (ht := Nat.le_of_ble_eq_true rfl)
  · intro D v W hc hj hf K hK
    obtain ⟨B, oR, oG, oK⟩ := hj
    have cG0 := oG.q0
    have cG1 := oG.q1
    go_step
    exact hK.out
  · rfl
  apply Reg.RC_pure (hc := rfl) (hst := rfl) (hw := rfl) (t := 60) (hd := rfl) (ht := Nat.le_of_ble_eq_true rfl)
  · intro D v W hc hj hf K hK
    go_step
    exact hK.out
  · rfl
  refine Reg.RC_exact _ (fun _ h => h) rfl (by intro t ht; cases ht; exact Nat.le_of_ble_eq_true rfl) rfl (fun D v W hc hj hf K hK => ?_) (Reg.RC_at (b := ⟨#[_,_,_,_,_,_,_,_,_,_,_,_,_,_,_,_,_,_,_,_,_,_,_,_,_,_,_,_,_,_,_,_,_,_,_,_,_,_,_,_,_,_,_,_,_,_,_,_,_,_,_,_,_,_,_,_,_,_,_,_,_,_,_,_,_,_,_,_,_,_,_,_,_,_,_,_], []⟩) rfl ?_)
  · obtain ⟨B, oR, oG, oK⟩ := hj
    go_step
    refine (down_any _ _ _ (by omega) (by omega) (by omega) (by omega)).mono ?_
    rintro e W' ⟨rfl, hb⟩
    have st : Steps W W' := hb
    exact hK.out _ _ Reg.any ⟨below_steps B (Nat.le_refl _) st, oR.steps st, oG.steps st, oK.steps st⟩ Reg.none_ rfl
  apply Reg.RC_pure (hc := rfl) (hst := rfl) (hw := rfl) (t := 62) (hd := rfl) (ht := Nat.le_of_ble_eq_true rfl)
  · intro D v W hc hj hf K hK
    obtain ⟨B, oR, oG, oK⟩ := hj
    have cG0 := oG.q0
    have cG1 := oG.q1
    go_step
    exact hK.out
  · rfl
  apply Reg.RC_pure (hc := rfl) (hst := rfl) (hw := rfl) (t := 63) (hd := rfl) (ht := Nat.le_of_ble_eq_true rfl)
  · intro D v W hc hj hf K hK
    go_step
    exact hK.out
  · rfl
  refine Reg.RC_exact _ (fun _ h => h) rfl (by intro t ht; cases ht; exact Nat.le_of_ble_eq_true rfl) rfl (fun D v W hc hj hf K hK => ?_) (Reg.RC_at (b := ⟨#[_,_,_,_,_,_,_,_,_,_,_,_,_,_,_,_,_,_,_,_,_,_,_,_,_,_,_,_,_,_,_,_,_,_,_,_,_,_,_,_,_,_,_,_,_,_,_,_,_,_,_,_,_,_,_,_,_,_,_,_,_,_,_,_,_,_,_,_,_,_,_,_,_,_,_,_], []⟩) rfl ?_)
  · obtain ⟨B, oR, oG, oK⟩ := hj
    go_step
    refine (down_any _ _ _ (by omega) (by omega) (by omega) (by omega)).mono ?_
    rintro e W' ⟨rfl, hb⟩
    have st : Steps W W' := hb
    exact hK.out _ _ Reg.any ⟨below_steps B (Nat.le_refl _) st, oR.steps st, oG.steps st, oK.steps st⟩ Reg.none_ rfl
  apply Reg.RC_pure (hc := rfl) (hst := rfl) (hw := rfl) (t := 65) (hd := rfl) (ht := Nat.le_of_ble_eq_true rfl)
  · intro D v W hc hj hf K hK
    go_step
    exact hK.out
  · rfl
  apply Reg.RC_pure (hc := rfl) (hst := rfl) (hw := rfl) (t := 66) (hd := rfl) (ht := Nat.le_of_ble_eq_true rfl)
  · intro D v W hc hj hf K hK
    obtain ⟨B, oR, oG, oK⟩ := hj
    have cK0 := oK.q0
    have cK1 := oK.q1
    go_step
    exact hK.out
  · rfl
  apply Reg.RC_pure (hc := rfl) (hst := rfl) (hw := rfl) (t := 67) (hd := rfl) (ht := Nat.le_of_ble_eq_true rfl)
  · intro D v W hc hj hf K hK
    go_step
    exact hK.out
  · rfl
  refine Reg.RC_exact _ (fun _ h => h) rfl (by intro t ht; cases ht; exact Nat.le_of_ble_eq_true rfl) rfl (fun D v W hc hj hf K hK => ?_) (Reg.RC_at (b := ⟨#[_,_,_,_,_,_,_,_,_,_,_,_,_,_,_,_,_,_,_,_,_,_,_,_,_,_,_,_,_,_,_,_,_,_,_,_,_,_,_,_,_,_,_,_,_,_,_,_,_,_,_,_,_,_,_,_,_,_,_,_,_,_,_,_,_,_,_,_,_,_,_,_,_,_,_,_], []⟩) rfl ?_)
  · obtain ⟨B, oR, oG, oK⟩ := hj
    go_step
    refine (up_any _ _ _ (by omega) (by omega) (by omega) (by omega)).mono ?_
    rintro e W' ⟨rfl, hb⟩
    have st : Steps W W' := hb
    exact hK.out _ _ Reg.any ⟨below_steps B (Nat.le_refl _) st, oR.steps st, oG.steps st, oK.steps st⟩ Reg.none_ rfl
  apply Reg.RC_pure (hc := rfl) (hst := rfl) (hw := rfl) (t := 69) (hd := rfl) (ht := Nat.le_of_ble_eq_true rfl)
  · intro D v W hc hj hf K hK
    obtain ⟨B, oR, oG, oK⟩ := hj
    have cK0 := oK.q0
    have cK1 := oK.q1
    go_step
    exact hK.out
  · rfl
  apply Reg.RC_pure (hc := rfl) (hst := rfl) (hw := rfl) (t := 70) (hd := rfl) (ht := Nat.le_of_ble_eq_true rfl)
  · intro D v W hc hj hf K hK
    go_step
    exact hK.out
  · rfl
  refine Reg.RC_exact _ (fun _ h => h) rfl (by intro t ht; cases ht; exact Nat.le_of_ble_eq_true rfl) rfl (fun D v W hc hj hf K hK => ?_) (Reg.RC_at (b := ⟨#[_,_,_,_,_,_,_,_,_,_,_,_,_,_,_,_,_,_,_,_,_,_,_,_,_,_,_,_,_,_,_,_,_,_,_,_,_,_,_,_,_,_,_,_,_,_,_,_,_,_,_,_,_,_,_,_,_,_,_,_,_,_,_,_,_,_,_,_,_,_,_,_,_,_,_,_], []⟩) rfl ?_)
  · obtain ⟨B, oR, oG, oK⟩ := hj
    go_step
    refine (up_any _ _ _ (by omega) (by omega) (by omega) (by omega)).mono ?_
    rintro e W' ⟨rfl, hb⟩
    have st : Steps W W' := hb
    exact hK.out _ _ Reg.any ⟨below_steps B (Nat.le_refl _) st, oR.steps st, oG.steps st, oK.steps st⟩ Reg.none_ rfl
  apply Reg.RC_pure (hc := rfl) (hst := rfl) (hw := rfl) (t := 72) (hd := rfl) (ht := Nat.le_of_ble_eq_true rfl)
  · intro D v W hc hj hf K hK
    go_step
    exact hK.out
  · rfl
  refine Reg.RC_exact _ (fun _ h => h) rfl (by intro t ht; cases ht; exact Nat.le_of_ble_eq_true rfl) rfl (fun D v W hc hj hf K hK => ?_) (Reg.RC_at (b := ⟨#[_,_,_,_,_,_,_,_,_,_,_,_,_,_,_,_,_,_,_,_,_,_,_,_,_,_,_,_,_,_,_,_,_,_,_,_,_,_,_,_,_,_,_,_,_,_,_,_,_,_,_,_,_,_,_,_,_,_,_,_,_,_,_,_,_,_,_,_,_,_,_,_,_,_,_,_], []⟩) rfl ?_)
  · obtain ⟨B, oR, oG, oK⟩ := hj
    go_step
    refine (made_any _ _ _).mono ?_
    rintro e W' ⟨rfl, hb⟩
    have st : Steps W W' := hb
    exact hK.out _ _ Reg.any ⟨below_steps B (Nat.le_refl _) st, oR.steps st, oG.steps st, oK.steps st⟩ Reg.none_ rfl
  apply Reg.RC_pure (hc := rfl) (hst := rfl) (hw := rfl) (t := 74) (hd := rfl) (ht := Nat.le_of_ble_eq_true rfl)
  · intro D v W hc hj hf K hK
    go_step
    exact hK.out
  · rfl
  apply Reg.RC_pure (hc := rfl) (hst := rfl) (hw := rfl) (t := 75) (hd := rfl) (ht := Nat.le_of_ble_eq_true rfl)
  · intro D v W hc hj hf K hK
    go_step
    exact hK.out
  · rfl
  refine Reg.RC_call rfl (by intro t ht; cases ht) rfl (fun D v W hc hj hf K hK => ?_) (fun _ _ => Reg.RC_at (b := ⟨_, []⟩) rfl ?_)
  · obtain ⟨B, oR, oG, oK⟩ := hj
    have hs : D 17 = false := hc.1
    have oR : Blk W (w.heap.size + 1 + 1) 23 #[.int .i64 (0), .int .i64 (0)] := by have o := oR; simp only [hs, Reg.sel_false] at o; exact o
    have lR := oR.lt
    have fR := oR.fr
    have cR0 := oR.q0
    have cR1 := oR.q1
    go_step
    exact hK.out undef _ Reg.any ⟨(by (repeat' first | with_reducible assumption | with_reducible exact Below.refl _ _ | with_reducible refine Below.alloc ?_ ?_ _ | with_reducible refine Below.drew ?_ | with_reducible refine belowN ?_ _ | with_reducible refine Below.setCell ?_ ?_ _ | go_size)), (show Blk _ _ _ #[.int .i64 ((md (if dn (a * 1099511627776) (d) < dn (a * 1099511627776) (c) then dn (a * 1099511627776) (d) else dn (a * 1099511627776) (c)) (if upq (b * 1099511627776) (c) < upq (b * 1099511627776) (d) then upq (b * 1099511627776) (d) else upq (b * 1099511627776) (c))).1), .int .i64 ((md (if dn (a * 1099511627776) (d) < dn (a * 1099511627776) (c) then dn (a * 1099511627776) (d) else dn (a * 1099511627776) (c)) (if upq (b * 1099511627776) (c) < upq (b * 1099511627776) (d) then upq (b * 1099511627776) (d) else upq (b * 1099511627776) (c))).2.1)] from (Blk.set2 (cs' := #[.int .i64 ((md (if dn (a * 1099511627776) (d) < dn (a * 1099511627776) (c) then dn (a * 1099511627776) (d) else dn (a * 1099511627776) (c)) (if upq (b * 1099511627776) (c) < upq (b * 1099511627776) (d) then upq (b * 1099511627776) (d) else upq (b * 1099511627776) (c))).1), .int .i64 ((md (if dn (a * 1099511627776) (d) < dn (a * 1099511627776) (c) then dn (a * 1099511627776) (d) else dn (a * 1099511627776) (c)) (if upq (b * 1099511627776) (c) < upq (b * 1099511627776) (d) then upq (b * 1099511627776) (d) else upq (b * 1099511627776) (c))).2.1)]) (Blk.set2 (cs' := #[.int .i64 ((md (if dn (a * 1099511627776) (d) < dn (a * 1099511627776) (c) then dn (a * 1099511627776) (d) else dn (a * 1099511627776) (c)) (if upq (b * 1099511627776) (c) < upq (b * 1099511627776) (d) then upq (b * 1099511627776) (d) else upq (b * 1099511627776) (c))).1), .int .i64 (0)]) oR (i := 0) rfl) (i := 1) rfl)), (show Blk _ _ _ #[.int .i64 (hi64 (a * 1099511627776)), .int .u64 (lo64 (a * 1099511627776))] from ownB), (show Blk _ _ _ #[.int .i64 (hi64 (b * 1099511627776)), .int .u64 (lo64 (b * 1099511627776))] from ownB)⟩ Reg.none_ trivial
  apply Reg.RC_pure (hc := rfl) (hst := rfl) (hw := rfl) (t := 5) (hd := rfl) (ht := Nat.le_of_ble_eq_true rfl)
  · intro D v W hc hj hf K hK
    go_step
    exact hK.out
  · rfl
  refine Reg.RC_end (fun D v W hd hj hf => ?_)
  obtain ⟨B, oR, oG, oK⟩ := hj
  have e17 : D 17 = true := hd 17 (by decide)
  have oR : Blk W (w.heap.size + 1 + 1) 23 #[.int .i64 ((md (if dn (a * 1099511627776) (d) < dn (a * 1099511627776) (c) then dn (a * 1099511627776) (d) else dn (a * 1099511627776) (c)) (if upq (b * 1099511627776) (c) < upq (b * 1099511627776) (d) then upq (b * 1099511627776) (d) else upq (b * 1099511627776) (c))).1), .int .i64 ((md (if dn (a * 1099511627776) (d) < dn (a * 1099511627776) (c) then dn (a * 1099511627776) (d) else dn (a * 1099511627776) (c)) (if upq (b * 1099511627776) (c) < upq (b * 1099511627776) (d) then upq (b * 1099511627776) (d) else upq (b * 1099511627776) (c))).2.1)] := by have o := oR; simp only [e17, Reg.sel_true] at o; exact o
  clear e17
  clear hd hf
  refine hQ _ _ ?_
  clear hQ hops Q' ops'
  have lR := oR.lt
  have cR0 := oR.c 0 rfl
  have cR1 := oR.c 1 rfl
  have fR := oR.fr
  repeat go_step
  rw [divQ_if]
  refine bodyPost_ret (by simp [results, Tryz.results17, go_sem, lR, cR0, cR1, fR]; rfl) rfl ?_
  exact ⟨rfl, B⟩
end Go.Proofs.YtalnlnpnacfdfaaGreat
