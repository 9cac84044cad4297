import Derived.Test.YtalnlnpnacfdfaaRefC
import Derived.Test.YtalnlnpnacfdfaaSpanI
import Derived.Test.YtalnlnpnacfdfaaSpanJ
namespace Go.Proofs.Ytalnlnpnacfdfaa
open Go.RowKit
def fmn (p0 p1 p2 p3 : Int) : Nat → Int
  | 1 => p0
  | 2 => mn p0 p1
  | 3 => mn (mn p0 p1) p2
  | _ => mn (mn (mn p0 p1) p2) p3
def fmx (p0 p1 p2 p3 : Int) : Nat → Int
  | 1 => p0
  | 2 => mx p0 p1
  | 3 => mx (mx p0 p1) p2
  | _ => mx (mx (mx p0 p1) p2) p3
theorem mn_lt {x v : Int} (h : v < x) : mn x v = v := by unfold mn; omega
theorem mn_ge {x v : Int} (h : ¬ v < x) : mn x v = x := by unfold mn; omega
theorem mx_lt {x v : Int} (h : x < v) : mx x v = v := by unfold mx; omega
theorem mx_ge {x v : Int} (h : ¬ x < v) : mx x v = x := by unfold mx; omega
theorem rless_q (t u : Int) (w : World) (q : Bool) (hq : decide (t < u) = q) : Calls Try.prog 61 #[.agg #[.bool (negB (t)), .int .u64 (aHi (t)), .int .u64 (aLo (t))], .agg #[.bool (negB (u)), .int .u64 (aHi (u)), .int .u64 (aLo (u))]] w fun e w' => e = .returned (.bool q) ∧ Below w.heap.size w w' := hq ▸ rless t u w
set_option maxRecDepth 100000 in
set_option maxHeartbeats 4000000 in
theorem rends (a b c d : Int) (w : World) (v0 : a ≤ b) (v1 : -2305843009213693952 ≤ a) (v2 : b ≤ 2305843009213693952) (v3 : c ≤ d) (v4 : -2305843009213693952 ≤ c) (v5 : d ≤ 2305843009213693952) : Calls Try.prog 66 #[.agg #[.int .i64 a, .int .i64 b], .agg #[.int .i64 c, .int .i64 d]] w fun e w' => e = .returned (.tuple #[.agg #[.bool (negB (mn (mn (mn (a * c) (a * d)) (b * c)) (b * d))), .int .u64 (aHi (mn (mn (mn (a * c) (a * d)) (b * c)) (b * d))), .int .u64 (aLo (mn (mn (mn (a * c) (a * d)) (b * c)) (b * d)))], .agg #[.bool (negB (mx (mx (mx (a * c) (a * d)) (b * c)) (b * d))), .int .u64 (aHi (mx (mx (mx (a * c) (a * d)) (b * c)) (b * d))), .int .u64 (aLo (mx (mx (mx (a * c) (a * d)) (b * c)) (b * d)))]]) ∧ Below w.heap.size w w' := by
  go_enter Try.func66, Try.ntmps66
  go_wp2_with fail
  have oA : Blk ((((w.alloc (.cells #[.int .i64 (a), .int .i64 (b)] 23)).alloc (.cells #[.int .i64 (c), .int .i64 (d)] 23)).alloc (.cells #[.bool false, .int .u64 0, .int .u64 0] 77)).alloc (.cells #[.bool false, .int .u64 0, .int .u64 0] 77)) (w.heap.size) 23 #[.int .i64 (a), .int .i64 (b)] := by (repeat' first | with_reducible assumption | (with_reducible refine Blk.new' ?_; first | with_reducible rfl | (simp only [World.size_alloc, World.size_setCell, World.size_drew]; done)) | with_reducible refine Blk.alloc ?_ _ | with_reducible refine Blk.drew ?_ | with_reducible refine Blk.drewN ?_ _ | with_reducible apply Blk.both | with_reducible refine Blk.far' ?_ ?_ | (show _ ≠ _; omega))
  have oB : Blk ((((w.alloc (.cells #[.int .i64 (a), .int .i64 (b)] 23)).alloc (.cells #[.int .i64 (c), .int .i64 (d)] 23)).alloc (.cells #[.bool false, .int .u64 0, .int .u64 0] 77)).alloc (.cells #[.bool false, .int .u64 0, .int .u64 0] 77)) (w.heap.size + 1) 23 #[.int .i64 (c), .int .i64 (d)] := by (repeat' first | with_reducible assumption | (with_reducible refine Blk.new' ?_; first | with_reducible rfl | (simp only [World.size_alloc, World.size_setCell, World.size_drew]; done)) | with_reducible refine Blk.alloc ?_ _ | with_reducible refine Blk.drew ?_ | with_reducible refine Blk.drewN ?_ _ | with_reducible apply Blk.both | with_reducible refine Blk.far' ?_ ?_ | (show _ ≠ _; omega))
  have oP : Blk ((((w.alloc (.cells #[.int .i64 (a), .int .i64 (b)] 23)).alloc (.cells #[.int .i64 (c), .int .i64 (d)] 23)).alloc (.cells #[.bool false, .int .u64 0, .int .u64 0] 77)).alloc (.cells #[.bool false, .int .u64 0, .int .u64 0] 77)) (w.heap.size + 1 + 1) 77 #[.bool false, .int .u64 0, .int .u64 0] := by (repeat' first | with_reducible assumption | (with_reducible refine Blk.new' ?_; first | with_reducible rfl | (simp only [World.size_alloc, World.size_setCell, World.size_drew]; done)) | with_reducible refine Blk.alloc ?_ _ | with_reducible refine Blk.drew ?_ | with_reducible refine Blk.drewN ?_ _ | with_reducible apply Blk.both | with_reducible refine Blk.far' ?_ ?_ | (show _ ≠ _; omega))
  have oQ : Blk ((((w.alloc (.cells #[.int .i64 (a), .int .i64 (b)] 23)).alloc (.cells #[.int .i64 (c), .int .i64 (d)] 23)).alloc (.cells #[.bool false, .int .u64 0, .int .u64 0] 77)).alloc (.cells #[.bool false, .int .u64 0, .int .u64 0] 77)) (w.heap.size + 1 + 1 + 1) 77 #[.bool false, .int .u64 0, .int .u64 0] := by (repeat' first | with_reducible assumption | (with_reducible refine Blk.new' ?_; first | with_reducible rfl | (simp only [World.size_alloc, World.size_setCell, World.size_drew]; done)) | with_reducible refine Blk.alloc ?_ _ | with_reducible refine Blk.drew ?_ | with_reducible refine Blk.drewN ?_ _ | with_reducible apply Blk.both | with_reducible refine Blk.far' ?_ ?_ | (show _ ≠ _; omega))
  have B : Below w.heap.size w ((((w.alloc (.cells #[.int .i64 (a), .int .i64 (b)] 23)).alloc (.cells #[.int .i64 (c), .int .i64 (d)] 23)).alloc (.cells #[.bool false, .int .u64 0, .int .u64 0] 77)).alloc (.cells #[.bool false, .int .u64 0, .int .u64 0] 77)) := by go_grown
  refine Reg.wp_chain_n (fun N0 => fun D v W => Below w.heap.size w W ∧ Blk W (w.heap.size) 23 #[.int .i64 (a), .int .i64 (b)] ∧ Blk W (w.heap.size + 1) 23 #[.int .i64 (c), .int .i64 (d)] ∧ Blk W (w.heap.size + 1 + 1) 77 #[.bool false, .int .u64 0, .int .u64 0] ∧ Blk W (w.heap.size + 1 + 1 + 1) 77 #[.bool false, .int .u64 0, .int .u64 0] ∧ (D 21 = true → ∃ g : Nat, v 21 = .pointer (some ⟨g, 0, none⟩) ∧ N0 ≤ g ∧ Blk W g 109 #[Reg.sel (D 22) (.bool false) (.bool (negB (a * c))), Reg.sel (D 22) (.int .u64 0) (.int .u64 (aHi (a * c))), Reg.sel (D 22) (.int .u64 0) (.int .u64 (aLo (a * c))), Reg.sel (D 22) (.bool false) (.bool (negB (a * d))), Reg.sel (D 22) (.int .u64 0) (.int .u64 (aHi (a * d))), Reg.sel (D 22) (.int .u64 0) (.int .u64 (aLo (a * d))), Reg.sel (D 22) (.bool false) (.bool (negB (b * c))), Reg.sel (D 22) (.int .u64 0) (.int .u64 (aHi (b * c))), Reg.sel (D 22) (.int .u64 0) (.int .u64 (aLo (b * c))), Reg.sel (D 22) (.bool false) (.bool (negB (b * d))), Reg.sel (D 22) (.int .u64 0) (.int .u64 (aHi (b * d))), Reg.sel (D 22) (.int .u64 0) (.int .u64 (aLo (b * d)))]) ∧ N0 ≤ W.heap.size)
    (Reg.inl [4, 9, 14, 19, 21, 22]) (Reg.gv [(4, fun x => x = .agg #[.bool (negB (a * c)), .int .u64 (aHi (a * c)), .int .u64 (aLo (a * c))]), (9, fun x => x = .agg #[.bool (negB (a * d)), .int .u64 (aHi (a * d)), .int .u64 (aLo (a * d))]), (14, fun x => x = .agg #[.bool (negB (b * c)), .int .u64 (aHi (b * c)), .int .u64 (aLo (b * c))]), (19, fun x => x = .agg #[.bool (negB (b * d)), .int .u64 (aHi (b * d)), .int .u64 (aLo (b * d))]), (21, fun x => ∃ g : Nat, x = .pointer (some ⟨g, 0, none⟩))]) Reg.None_ (fun _ => Reg.Any) (fun _ _ => False) (Reg.pl [(22, [(21, some 6)]), (23, [(21, some 6)])]) (Reg.pl [(21, [22])])
    (by kernel_rfl) (by kernel_rfl) (by kernel_rfl) (Reg.gv_some _ (fun p hp => by simp only [List.mem_cons, List.not_mem_nil, or_false] at hp; rcases hp with rfl | rfl | rfl | rfl | rfl; exact ⟨_, rfl⟩; exact ⟨_, rfl⟩; exact ⟨_, rfl⟩; exact ⟨_, rfl⟩; exact ⟨_, 0, rfl⟩)) (fun N0 hN0 => ⟨fun v => ?_, (fun D v v' W hv hj => ?_), fun _ _ _ _ _ _ _ _ _ _ _ _ _ => Reg.none_, fun _ _ _ _ h => h.elim, fun ops' Q' hops hQ => ?_⟩)
  · exact ⟨(by first | with_reducible exact Below.drew B | with_reducible exact Below.drew (belowN B _) | (repeat' first | with_reducible assumption | with_reducible exact Below.refl _ _ | with_reducible refine Below.alloc ?_ ?_ _ | with_reducible refine Below.drew ?_ | with_reducible refine belowN ?_ _ | with_reducible refine Below.setCell ?_ ?_ _ | go_size)), (show Blk _ _ _ #[.int .i64 (a), .int .i64 (b)] from (by first | with_reducible exact oA | (repeat' first | with_reducible assumption | (with_reducible refine Blk.new' ?_; first | with_reducible rfl | (simp only [World.size_alloc, World.size_setCell, World.size_drew]; done)) | with_reducible refine Blk.alloc ?_ _ | with_reducible refine Blk.drew ?_ | with_reducible refine Blk.drewN ?_ _ | with_reducible apply Blk.both | with_reducible refine Blk.far' ?_ ?_ | (show _ ≠ _; omega)))), (show Blk _ _ _ #[.int .i64 (c), .int .i64 (d)] from (by first | with_reducible exact oB | (repeat' first | with_reducible assumption | (with_reducible refine Blk.new' ?_; first | with_reducible rfl | (simp only [World.size_alloc, World.size_setCell, World.size_drew]; done)) | with_reducible refine Blk.alloc ?_ _ | with_reducible refine Blk.drew ?_ | with_reducible refine Blk.drewN ?_ _ | with_reducible apply Blk.both | with_reducible refine Blk.far' ?_ ?_ | (show _ ≠ _; omega)))), (show Blk _ _ _ #[.bool false, .int .u64 0, .int .u64 0] from (by first | with_reducible exact oP | (repeat' first | with_reducible assumption | (with_reducible refine Blk.new' ?_; first | with_reducible rfl | (simp only [World.size_alloc, World.size_setCell, World.size_drew]; done)) | with_reducible refine Blk.alloc ?_ _ | with_reducible refine Blk.drew ?_ | with_reducible refine Blk.drewN ?_ _ | with_reducible apply Blk.both | with_reducible refine Blk.far' ?_ ?_ | (show _ ≠ _; omega)))), (show Blk _ _ _ #[.bool false, .int .u64 0, .int .u64 0] from (by first | with_reducible exact oQ | (repeat' first | with_reducible assumption | (with_reducible refine Blk.new' ?_; first | with_reducible rfl | (simp only [World.size_alloc, World.size_setCell, World.size_drew]; done)) | with_reducible refine Blk.alloc ?_ _ | with_reducible refine Blk.drew ?_ | with_reducible refine Blk.drewN ?_ _ | with_reducible apply Blk.both | with_reducible refine Blk.far' ?_ ?_ | (show _ ≠ _; omega)))), (fun h => by cases h), (Nat.le_of_eq hN0.out)⟩
  · obtain ⟨B, oA, oB, oP, oQ, pa21, zN0⟩ := hj
    exact ⟨B, oA, oB, oP, oQ, (fun h => hv 21 h ▸ pa21 h), zN0⟩
  have iA : w.heap.size < N0 := by have h := oA.lt; have e := hN0.out; (try simp only [World.size_alloc, World.size_setCell, World.size_drew, World.heap_drewN] at e); omega
  have iB : w.heap.size + 1 < N0 := by have h := oB.lt; have e := hN0.out; (try simp only [World.size_alloc, World.size_setCell, World.size_drew, World.heap_drewN] at e); omega
  have iP : w.heap.size + 1 + 1 < N0 := by have h := oP.lt; have e := hN0.out; (try simp only [World.size_alloc, World.size_setCell, World.size_drew, World.heap_drewN] at e); omega
  have iQ : w.heap.size + 1 + 1 + 1 < N0 := by have h := oQ.lt; have e := hN0.out; (try simp only [World.size_alloc, World.size_setCell, World.size_drew, World.heap_drewN] at e); omega
  have uN0 : w.heap.size ≤ N0 := by have h := Below.size B; have e := hN0.out; (try simp only [World.size_alloc, World.size_setCell, World.size_drew, World.heap_drewN] at e); (try simp only [World.size_alloc, World.size_setCell, World.size_drew, World.heap_drewN] at h); omega
  clear B oA oB oP oQ hN0
  apply Reg.RC_pure (hc := rfl) (hst := rfl) (hw := rfl) (t := 10) (hd := rfl) (ht := Nat.le_of_ble_eq_true rfl)
  · intro D v W hc hj hf K hK
    go_step
    exact hK.out
  · rfl
  apply Reg.RC_pure (hc := rfl) (hst := rfl) (hw := rfl) (t := 11) (hd := rfl) (ht := Nat.le_of_ble_eq_true rfl)
  · intro D v W hc hj hf K hK
    obtain ⟨B, oA, oB, oP, oQ, pa21, zN0⟩ := hj
    have cA0 : World.cell? W ⟨w.heap.size, 0, none⟩ = some (.int .i64 (a)) := oA.c 0 rfl
    have cA1 : World.cell? W ⟨w.heap.size, 1, none⟩ = some (.int .i64 (b)) := oA.c 1 rfl
    go_step
    exact hK.out
  · rfl
  apply Reg.RC_pure (hc := rfl) (hst := rfl) (hw := rfl) (t := 12) (hd := rfl) (ht := Nat.le_of_ble_eq_true rfl)
  · intro D v W hc hj hf K hK
    go_step
    exact hK.out
  · rfl
  apply Reg.RC_pure (hc := rfl) (hst := rfl) (hw := rfl) (t := 13) (hd := rfl) (ht := Nat.le_of_ble_eq_true rfl)
  · intro D v W hc hj hf K hK
    obtain ⟨B, oA, oB, oP, oQ, pa21, zN0⟩ := hj
    have cB0 : World.cell? W ⟨w.heap.size + 1, 0, none⟩ = some (.int .i64 (c)) := oB.c 0 rfl
    have cB1 : World.cell? W ⟨w.heap.size + 1, 1, none⟩ = some (.int .i64 (d)) := oB.c 1 rfl
    go_step
    exact hK.out
  · rfl
  refine Reg.RC_call rfl (by intro t ht; cases ht; exact Nat.le_of_ble_eq_true rfl) rfl (fun D v W hc hj hf K hK => ?_) (fun x hx => ?_)
  · obtain ⟨B, oA, oB, oP, oQ, pa21, zN0⟩ := hj
    go_step
    refine (rtimes_b _ _ _ (by omega) (by omega) (by omega) (by omega)).mono ?_
    rintro e W' ⟨rfl, hb⟩
    have st : Steps W W' := hb
    exact hK.out _ _ Reg.any ⟨below_steps B (Nat.le_refl _) st, oA.steps st, oB.steps st, oP.steps st, oQ.steps st, (fun h => let ⟨g, h1, h2, h3⟩ := pa21 h; ⟨g, h1, h2, h3.steps st⟩), (Nat.le_trans zN0 st.size)⟩ Reg.none_ rfl
  have hx : x = .agg #[.bool (negB (a * c)), .int .u64 (aHi (a * c)), .int .u64 (aLo (a * c))] := hx
  subst hx
  refine Reg.RC_at (b := ⟨#[_, _, _, _, _, _, _, _, _, _, _, _, _, _, _, _, _, _, _, _, _, _, _, _, _, _, _, _, _, _, _, _, _, _, _, _, _, _, _, _, _, _, _, _, _, _, _, _, _, _, _, _, _, _, _, _, _], []⟩) rfl ?_
  apply Reg.RC_pure (hc := rfl) (hst := rfl) (hw := rfl) (t := 15) (hd := rfl) (ht := Nat.le_of_ble_eq_true rfl)
  · intro D v W hc hj hf K hK
    go_step
    exact hK.out
  · rfl
  apply Reg.RC_pure (hc := rfl) (hst := rfl) (hw := rfl) (t := 16) (hd := rfl) (ht := Nat.le_of_ble_eq_true rfl)
  · intro D v W hc hj hf K hK
    obtain ⟨B, oA, oB, oP, oQ, pa21, zN0⟩ := hj
    have cA0 : World.cell? W ⟨w.heap.size, 0, none⟩ = some (.int .i64 (a)) := oA.c 0 rfl
    have cA1 : World.cell? W ⟨w.heap.size, 1, none⟩ = some (.int .i64 (b)) := oA.c 1 rfl
    go_step
    exact hK.out
  · rfl
  apply Reg.RC_pure (hc := rfl) (hst := rfl) (hw := rfl) (t := 17) (hd := rfl) (ht := Nat.le_of_ble_eq_true rfl)
  · intro D v W hc hj hf K hK
    go_step
    exact hK.out
  · rfl
  apply Reg.RC_pure (hc := rfl) (hst := rfl) (hw := rfl) (t := 18) (hd := rfl) (ht := Nat.le_of_ble_eq_true rfl)
  · intro D v W hc hj hf K hK
    obtain ⟨B, oA, oB, oP, oQ, pa21, zN0⟩ := hj
    have cB0 : World.cell? W ⟨w.heap.size + 1, 0, none⟩ = some (.int .i64 (c)) := oB.c 0 rfl
    have cB1 : World.cell? W ⟨w.heap.size + 1, 1, none⟩ = some (.int .i64 (d)) := oB.c 1 rfl
    go_step
    exact hK.out
  · rfl
  refine Reg.RC_call rfl (by intro t ht; cases ht; exact Nat.le_of_ble_eq_true rfl) rfl (fun D v W hc hj hf K hK => ?_) (fun x hx => ?_)
  · obtain ⟨B, oA, oB, oP, oQ, pa21, zN0⟩ := hj
    go_step
    refine (rtimes_b _ _ _ (by omega) (by omega) (by omega) (by omega)).mono ?_
    rintro e W' ⟨rfl, hb⟩
    have st : Steps W W' := hb
    exact hK.out _ _ Reg.any ⟨below_steps B (Nat.le_refl _) st, oA.steps st, oB.steps st, oP.steps st, oQ.steps st, (fun h => let ⟨g, h1, h2, h3⟩ := pa21 h; ⟨g, h1, h2, h3.steps st⟩), (Nat.le_trans zN0 st.size)⟩ Reg.none_ rfl
  have hx : x = .agg #[.bool (negB (a * d)), .int .u64 (aHi (a * d)), .int .u64 (aLo (a * d))] := hx
  subst hx
  refine Reg.RC_at (b := ⟨#[_, _, _, _, _, _, _, _, _, _, _, _, _, _, _, _, _, _, _, _, _, _, _, _, _, _, _, _, _, _, _, _, _, _, _, _, _, _, _, _, _, _, _, _, _, _, _, _, _, _, _, _, _, _, _, _, _], []⟩) rfl ?_
  apply Reg.RC_pure (hc := rfl) (hst := rfl) (hw := rfl) (t := 20) (hd := rfl) (ht := Nat.le_of_ble_eq_true rfl)
  · intro D v W hc hj hf K hK
    go_step
    exact hK.out
  · rfl
  apply Reg.RC_pure (hc := rfl) (hst := rfl) (hw := rfl) (t := 21) (hd := rfl) (ht := Nat.le_of_ble_eq_true rfl)
  · intro D v W hc hj hf K hK
    obtain ⟨B, oA, oB, oP, oQ, pa21, zN0⟩ := hj
    have cA0 : World.cell? W ⟨w.heap.size, 0, none⟩ = some (.int .i64 (a)) := oA.c 0 rfl
    have cA1 : World.cell? W ⟨w.heap.size, 1, none⟩ = some (.int .i64 (b)) := oA.c 1 rfl
    go_step
    exact hK.out
  · rfl
  apply Reg.RC_pure (hc := rfl) (hst := rfl) (hw := rfl) (t := 22) (hd := rfl) (ht := Nat.le_of_ble_eq_true rfl)
  · intro D v W hc hj hf K hK
    go_step
    exact hK.out
  · rfl
  apply Reg.RC_pure (hc := rfl) (hst := rfl) (hw := rfl) (t := 23) (hd := rfl) (ht := Nat.le_of_ble_eq_true rfl)
  · intro D v W hc hj hf K hK
    obtain ⟨B, oA, oB, oP, oQ, pa21, zN0⟩ := hj
    have cB0 : World.cell? W ⟨w.heap.size + 1, 0, none⟩ = some (.int .i64 (c)) := oB.c 0 rfl
    have cB1 : World.cell? W ⟨w.heap.size + 1, 1, none⟩ = some (.int .i64 (d)) := oB.c 1 rfl
    go_step
    exact hK.out
  · rfl
  refine Reg.RC_call rfl (by intro t ht; cases ht; exact Nat.le_of_ble_eq_true rfl) rfl (fun D v W hc hj hf K hK => ?_) (fun x hx => ?_)
  · obtain ⟨B, oA, oB, oP, oQ, pa21, zN0⟩ := hj
    go_step
    refine (rtimes_b _ _ _ (by omega) (by omega) (by omega) (by omega)).mono ?_
    rintro e W' ⟨rfl, hb⟩
    have st : Steps W W' := hb
    exact hK.out _ _ Reg.any ⟨below_steps B (Nat.le_refl _) st, oA.steps st, oB.steps st, oP.steps st, oQ.steps st, (fun h => let ⟨g, h1, h2, h3⟩ := pa21 h; ⟨g, h1, h2, h3.steps st⟩), (Nat.le_trans zN0 st.size)⟩ Reg.none_ rfl
  have hx : x = .agg #[.bool (negB (b * c)), .int .u64 (aHi (b * c)), .int .u64 (aLo (b * c))] := hx
  subst hx
  refine Reg.RC_at (b := ⟨#[_, _, _, _, _, _, _, _, _, _, _, _, _, _, _, _, _, _, _, _, _, _, _, _, _, _, _, _, _, _, _, _, _, _, _, _, _, _, _, _, _, _, _, _, _, _, _, _, _, _, _, _, _, _, _, _, _], []⟩) rfl ?_
  apply Reg.RC_pure (hc := rfl) (hst := rfl) (hw := rfl) (t := 25) (hd := rfl) (ht := Nat.le_of_ble_eq_true rfl)
  · intro D v W hc hj hf K hK
    go_step
    exact hK.out
  · rfl
  apply Reg.RC_pure (hc := rfl) (hst := rfl) (hw := rfl) (t := 26) (hd := rfl) (ht := Nat.le_of_ble_eq_true rfl)
  · intro D v W hc hj hf K hK
    obtain ⟨B, oA, oB, oP, oQ, pa21, zN0⟩ := hj
    have cA0 : World.cell? W ⟨w.heap.size, 0, none⟩ = some (.int .i64 (a)) := oA.c 0 rfl
    have cA1 : World.cell? W ⟨w.heap.size, 1, none⟩ = some (.int .i64 (b)) := oA.c 1 rfl
    go_step
    exact hK.out
  · rfl
  apply Reg.RC_pure (hc := rfl) (hst := rfl) (hw := rfl) (t := 27) (hd := rfl) (ht := Nat.le_of_ble_eq_true rfl)
  · intro D v W hc hj hf K hK
    go_step
    exact hK.out
  · rfl
  apply Reg.RC_pure (hc := rfl) (hst := rfl) (hw := rfl) (t := 28) (hd := rfl) (ht := Nat.le_of_ble_eq_true rfl)
  · intro D v W hc hj hf K hK
    obtain ⟨B, oA, oB, oP, oQ, pa21, zN0⟩ := hj
    have cB0 : World.cell? W ⟨w.heap.size + 1, 0, none⟩ = some (.int .i64 (c)) := oB.c 0 rfl
    have cB1 : World.cell? W ⟨w.heap.size + 1, 1, none⟩ = some (.int .i64 (d)) := oB.c 1 rfl
    go_step
    exact hK.out
  · rfl
  refine Reg.RC_call rfl (by intro t ht; cases ht; exact Nat.le_of_ble_eq_true rfl) rfl (fun D v W hc hj hf K hK => ?_) (fun x hx => ?_)
  · obtain ⟨B, oA, oB, oP, oQ, pa21, zN0⟩ := hj
    go_step
    refine (rtimes_b _ _ _ (by omega) (by omega) (by omega) (by omega)).mono ?_
    rintro e W' ⟨rfl, hb⟩
    have st : Steps W W' := hb
    exact hK.out _ _ Reg.any ⟨below_steps B (Nat.le_refl _) st, oA.steps st, oB.steps st, oP.steps st, oQ.steps st, (fun h => let ⟨g, h1, h2, h3⟩ := pa21 h; ⟨g, h1, h2, h3.steps st⟩), (Nat.le_trans zN0 st.size)⟩ Reg.none_ rfl
  have hx : x = .agg #[.bool (negB (b * d)), .int .u64 (aHi (b * d)), .int .u64 (aLo (b * d))] := hx
  subst hx
  refine Reg.RC_at (b := ⟨#[_, _, _, _, _, _, _, _, _, _, _, _, _, _, _, _, _, _, _, _, _, _, _, _, _, _, _, _, _, _, _, _, _, _, _, _, _, _, _, _, _, _, _, _, _, _, _, _, _, _, _, _, _, _, _, _, _], []⟩) rfl ?_
  apply Reg.RC_pure (hc := rfl) (hst := rfl) (hw := rfl) (t := 30) (hd := rfl) (ht := Nat.le_of_ble_eq_true rfl)
  · intro D v W hc hj hf K hK
    go_step
    exact hK.out
  · rfl
  refine Reg.RC_call rfl (by intro t ht; cases ht; exact Nat.le_of_ble_eq_true rfl) rfl (fun D v W hc hj hf K hK => ?_) (fun x hx => ?_)
  · obtain ⟨B, oA, oB, oP, oQ, pa21, zN0⟩ := hj
    have hs : D 22 = false := hc.2 22 (.head _)
    go_step
    exact hK.out _ _ Reg.any ⟨Below.alloc B B.size _, oA.alloc _, oB.alloc _, oP.alloc _, oQ.alloc _, (fun _ => ⟨W.heap.size, rfl, zN0, (by show Blk _ _ _ #[Reg.sel (D 22) (.bool false) (.bool (negB (a * c))), Reg.sel (D 22) (.int .u64 0) (.int .u64 (aHi (a * c))), Reg.sel (D 22) (.int .u64 0) (.int .u64 (aLo (a * c))), Reg.sel (D 22) (.bool false) (.bool (negB (a * d))), Reg.sel (D 22) (.int .u64 0) (.int .u64 (aHi (a * d))), Reg.sel (D 22) (.int .u64 0) (.int .u64 (aLo (a * d))), Reg.sel (D 22) (.bool false) (.bool (negB (b * c))), Reg.sel (D 22) (.int .u64 0) (.int .u64 (aHi (b * c))), Reg.sel (D 22) (.int .u64 0) (.int .u64 (aLo (b * c))), Reg.sel (D 22) (.bool false) (.bool (negB (b * d))), Reg.sel (D 22) (.int .u64 0) (.int .u64 (aHi (b * d))), Reg.sel (D 22) (.int .u64 0) (.int .u64 (aLo (b * d)))]; simp only [hs, Reg.sel_false]; exact Blk.new W _ _)⟩), (Nat.le_trans zN0 (by rw [World.size_alloc]; exact Nat.le_succ _))⟩ Reg.none_ ⟨_, rfl⟩
  obtain ⟨gL, hx⟩ : ∃ g : Nat, x = .pointer (some ⟨g, 0, none⟩) := hx
  subst hx
  refine Reg.RC_at (b := ⟨#[_, _, _, _, _, _, _, _, _, _, _, _, _, _, _, _, _, _, _, _, _, _, _, _, _, _, _, _, _, _, _, _, _, _, _, _, _, _, _, _, _, _, _, _, _, _, _, _, _, _, _, _, _, _, _, _, _], []⟩) rfl ?_
  refine Reg.RC_call rfl (by intro t ht; cases ht) rfl (fun D v W hc hj hf K hK => ?_) (fun _ _ => Reg.RC_at (b := ⟨_, []⟩) rfl ?_)
  · obtain ⟨B, oA, oB, oP, oQ, pa21, zN0⟩ := hj
    have hs : D 22 = false := hc.1
    obtain ⟨hd, he, -⟩ := hf (21, some 6) (.head _) rfl
    obtain ⟨g, h1, h2, h3⟩ := pa21 hd
    obtain rfl : gL = g := Reg.ptr_eq ((show v 21 = Value.pointer (some ⟨gL, 0, none⟩) from he).symm.trans h1)
    have oo : Blk W gL 109 #[.bool false, .int .u64 0, .int .u64 0, .bool false, .int .u64 0, .int .u64 0, .bool false, .int .u64 0, .int .u64 0, .bool false, .int .u64 0, .int .u64 0] := by have o := h3; simp only [hs, Reg.sel_false] at o; exact o
    have cc0 : World.cell? W ⟨gL, 0, none⟩ = some (.bool false) := oo.c 0 rfl
    have cc1 : World.cell? W ⟨gL, 1, none⟩ = some (.int .u64 0) := oo.c 1 rfl
    have cc2 : World.cell? W ⟨gL, 2, none⟩ = some (.int .u64 0) := oo.c 2 rfl
    have cc3 : World.cell? W ⟨gL, 3, none⟩ = some (.bool false) := oo.c 3 rfl
    have cc4 : World.cell? W ⟨gL, 4, none⟩ = some (.int .u64 0) := oo.c 4 rfl
    have cc5 : World.cell? W ⟨gL, 5, none⟩ = some (.int .u64 0) := oo.c 5 rfl
    have cc6 : World.cell? W ⟨gL, 6, none⟩ = some (.bool false) := oo.c 6 rfl
    have cc7 : World.cell? W ⟨gL, 7, none⟩ = some (.int .u64 0) := oo.c 7 rfl
    have cc8 : World.cell? W ⟨gL, 8, none⟩ = some (.int .u64 0) := oo.c 8 rfl
    have cc9 : World.cell? W ⟨gL, 9, none⟩ = some (.bool false) := oo.c 9 rfl
    have cc10 : World.cell? W ⟨gL, 10, none⟩ = some (.int .u64 0) := oo.c 10 rfl
    have cc11 : World.cell? W ⟨gL, 11, none⟩ = some (.int .u64 0) := oo.c 11 rfl
    have ff := oo.fr
    have ll := oo.lt
    go_step
    have nn := h2
    exact hK.out undef _ Reg.any ⟨(by (repeat' first | with_reducible assumption | with_reducible exact Below.refl _ _ | with_reducible refine Below.alloc ?_ ?_ _ | with_reducible refine Below.drew ?_ | with_reducible refine belowN ?_ _ | with_reducible refine Below.setCell ?_ ?_ _ | go_size)), (show Blk _ _ _ #[.int .i64 (a), .int .i64 (b)] from (by (repeat' first | with_reducible assumption | (with_reducible refine Blk.new' ?_; first | with_reducible rfl | (simp only [World.size_alloc, World.size_setCell, World.size_drew]; done)) | with_reducible refine Blk.alloc ?_ _ | with_reducible refine Blk.drew ?_ | with_reducible refine Blk.drewN ?_ _ | with_reducible apply Blk.both | with_reducible refine Blk.far' ?_ ?_ | (show _ ≠ _; omega)))), (show Blk _ _ _ #[.int .i64 (c), .int .i64 (d)] from (by (repeat' first | with_reducible assumption | (with_reducible refine Blk.new' ?_; first | with_reducible rfl | (simp only [World.size_alloc, World.size_setCell, World.size_drew]; done)) | with_reducible refine Blk.alloc ?_ _ | with_reducible refine Blk.drew ?_ | with_reducible refine Blk.drewN ?_ _ | with_reducible apply Blk.both | with_reducible refine Blk.far' ?_ ?_ | (show _ ≠ _; omega)))), (show Blk _ _ _ #[.bool false, .int .u64 0, .int .u64 0] from (by (repeat' first | with_reducible assumption | (with_reducible refine Blk.new' ?_; first | with_reducible rfl | (simp only [World.size_alloc, World.size_setCell, World.size_drew]; done)) | with_reducible refine Blk.alloc ?_ _ | with_reducible refine Blk.drew ?_ | with_reducible refine Blk.drewN ?_ _ | with_reducible apply Blk.both | with_reducible refine Blk.far' ?_ ?_ | (show _ ≠ _; omega)))), (show Blk _ _ _ #[.bool false, .int .u64 0, .int .u64 0] from (by (repeat' first | with_reducible assumption | (with_reducible refine Blk.new' ?_; first | with_reducible rfl | (simp only [World.size_alloc, World.size_setCell, World.size_drew]; done)) | with_reducible refine Blk.alloc ?_ _ | with_reducible refine Blk.drew ?_ | with_reducible refine Blk.drewN ?_ _ | with_reducible apply Blk.both | with_reducible refine Blk.far' ?_ ?_ | (show _ ≠ _; omega)))), (fun _ => ⟨gL, h1, h2, (show Blk _ _ _ #[.bool (negB (a * c)), .int .u64 (aHi (a * c)), .int .u64 (aLo (a * c)), .bool (negB (a * d)), .int .u64 (aHi (a * d)), .int .u64 (aLo (a * d)), .bool (negB (b * c)), .int .u64 (aHi (b * c)), .int .u64 (aLo (b * c)), .bool (negB (b * d)), .int .u64 (aHi (b * d)), .int .u64 (aLo (b * d))] from (Blk.set2 (cs' := #[.bool (negB (a * c)), .int .u64 (aHi (a * c)), .int .u64 (aLo (a * c)), .bool (negB (a * d)), .int .u64 (aHi (a * d)), .int .u64 (aLo (a * d)), .bool (negB (b * c)), .int .u64 (aHi (b * c)), .int .u64 (aLo (b * c)), .bool (negB (b * d)), .int .u64 (aHi (b * d)), .int .u64 (aLo (b * d))]) (Blk.set2 (cs' := #[.bool (negB (a * c)), .int .u64 (aHi (a * c)), .int .u64 (aLo (a * c)), .bool (negB (a * d)), .int .u64 (aHi (a * d)), .int .u64 (aLo (a * d)), .bool (negB (b * c)), .int .u64 (aHi (b * c)), .int .u64 (aLo (b * c)), .bool (negB (b * d)), .int .u64 (aHi (b * d)), .int .u64 0]) (Blk.set2 (cs' := #[.bool (negB (a * c)), .int .u64 (aHi (a * c)), .int .u64 (aLo (a * c)), .bool (negB (a * d)), .int .u64 (aHi (a * d)), .int .u64 (aLo (a * d)), .bool (negB (b * c)), .int .u64 (aHi (b * c)), .int .u64 (aLo (b * c)), .bool (negB (b * d)), .int .u64 0, .int .u64 0]) (Blk.set2 (cs' := #[.bool (negB (a * c)), .int .u64 (aHi (a * c)), .int .u64 (aLo (a * c)), .bool (negB (a * d)), .int .u64 (aHi (a * d)), .int .u64 (aLo (a * d)), .bool (negB (b * c)), .int .u64 (aHi (b * c)), .int .u64 (aLo (b * c)), .bool false, .int .u64 0, .int .u64 0]) (Blk.set2 (cs' := #[.bool (negB (a * c)), .int .u64 (aHi (a * c)), .int .u64 (aLo (a * c)), .bool (negB (a * d)), .int .u64 (aHi (a * d)), .int .u64 (aLo (a * d)), .bool (negB (b * c)), .int .u64 (aHi (b * c)), .int .u64 0, .bool false, .int .u64 0, .int .u64 0]) (Blk.set2 (cs' := #[.bool (negB (a * c)), .int .u64 (aHi (a * c)), .int .u64 (aLo (a * c)), .bool (negB (a * d)), .int .u64 (aHi (a * d)), .int .u64 (aLo (a * d)), .bool (negB (b * c)), .int .u64 0, .int .u64 0, .bool false, .int .u64 0, .int .u64 0]) (Blk.set2 (cs' := #[.bool (negB (a * c)), .int .u64 (aHi (a * c)), .int .u64 (aLo (a * c)), .bool (negB (a * d)), .int .u64 (aHi (a * d)), .int .u64 (aLo (a * d)), .bool false, .int .u64 0, .int .u64 0, .bool false, .int .u64 0, .int .u64 0]) (Blk.set2 (cs' := #[.bool (negB (a * c)), .int .u64 (aHi (a * c)), .int .u64 (aLo (a * c)), .bool (negB (a * d)), .int .u64 (aHi (a * d)), .int .u64 0, .bool false, .int .u64 0, .int .u64 0, .bool false, .int .u64 0, .int .u64 0]) (Blk.set2 (cs' := #[.bool (negB (a * c)), .int .u64 (aHi (a * c)), .int .u64 (aLo (a * c)), .bool (negB (a * d)), .int .u64 0, .int .u64 0, .bool false, .int .u64 0, .int .u64 0, .bool false, .int .u64 0, .int .u64 0]) (Blk.set2 (cs' := #[.bool (negB (a * c)), .int .u64 (aHi (a * c)), .int .u64 (aLo (a * c)), .bool false, .int .u64 0, .int .u64 0, .bool false, .int .u64 0, .int .u64 0, .bool false, .int .u64 0, .int .u64 0]) (Blk.set2 (cs' := #[.bool (negB (a * c)), .int .u64 (aHi (a * c)), .int .u64 0, .bool false, .int .u64 0, .int .u64 0, .bool false, .int .u64 0, .int .u64 0, .bool false, .int .u64 0, .int .u64 0]) (Blk.set2 (cs' := #[.bool (negB (a * c)), .int .u64 0, .int .u64 0, .bool false, .int .u64 0, .int .u64 0, .bool false, .int .u64 0, .int .u64 0, .bool false, .int .u64 0, .int .u64 0]) oo (i := 0) rfl) (i := 1) rfl) (i := 2) rfl) (i := 3) rfl) (i := 4) rfl) (i := 5) rfl) (i := 6) rfl) (i := 7) rfl) (i := 8) rfl) (i := 9) rfl) (i := 10) rfl) (i := 11) rfl))⟩), (by simpa using zN0)⟩ Reg.none_ trivial
  refine Reg.RC_end (fun D v W hd hj hf => ?_)
  obtain ⟨B, oA, oB, oP, oQ, pa21, zN0⟩ := hj
  obtain ⟨-, he, -⟩ := hf (21, some 6) (.head _) rfl
  obtain ⟨g, h1, hLn, h3⟩ := pa21 (hd 21 (by decide))
  obtain rfl : gL = g := Reg.ptr_eq ((show v 21 = Value.pointer (some ⟨gL, 0, none⟩) from he).symm.trans h1)
  have oL : Blk W gL 109 #[.bool (negB (a * c)), .int .u64 (aHi (a * c)), .int .u64 (aLo (a * c)), .bool (negB (a * d)), .int .u64 (aHi (a * d)), .int .u64 (aLo (a * d)), .bool (negB (b * c)), .int .u64 (aHi (b * c)), .int .u64 (aLo (b * c)), .bool (negB (b * d)), .int .u64 (aHi (b * d)), .int .u64 (aLo (b * d))] := by have o := h3; simp only [hd 22 (by decide), Reg.inl, Reg.sel_true] at o; exact o
  have lowL : w.heap.size ≤ gL := Nat.le_trans uN0 hLn
  have sAL : w.heap.size ≠ gL := by have := iA; have := hLn; omega
  have sBL : w.heap.size + 1 ≠ gL := by have := iB; have := hLn; omega
  have sPL : w.heap.size + 1 + 1 ≠ gL := by have := iP; have := hLn; omega
  have sQL : w.heap.size + 1 + 1 + 1 ≠ gL := by have := iQ; have := hLn; omega
  have he21 := h1
  clear he h1 h3 pa21 hLn
  clear he21 zN0 uN0
  clear hd hf iA iB iP iQ
  refine hQ _ _ ?_
  clear hQ hops Q' ops'
  have sPL' := Blk.ne_ oP oL (by decide)
  have sQL' := Blk.ne_ oQ oL (by decide)
  repeat go_step
  refine Reg.wp_chain_n (fun N0 => fun D v W => Below w.heap.size w W ∧ Blk W (w.heap.size + 1 + 1) 77 #[.bool false, .int .u64 0, .int .u64 0] ∧ Blk W (w.heap.size + 1 + 1 + 1) 77 #[.bool false, .int .u64 0, .int .u64 0] ∧ Blk W (gL) 109 #[.bool (negB (a * c)), .int .u64 (aHi (a * c)), .int .u64 (aLo (a * c)), .bool (negB (a * d)), .int .u64 (aHi (a * d)), .int .u64 (aLo (a * d)), .bool (negB (b * c)), .int .u64 (aHi (b * c)), .int .u64 (aLo (b * c)), .bool (negB (b * d)), .int .u64 (aHi (b * d)), .int .u64 (aLo (b * d))] ∧ (D 4 = true → ∃ g : Nat, v 4 = .pointer (some ⟨g, 0, none⟩) ∧ N0 ≤ g ∧ Blk W g 77 #[Reg.sel (D 6) (.bool false) (.bool (negB (a * c))), Reg.sel (D 6) (.int .u64 0) (.int .u64 (aHi (a * c))), Reg.sel (D 6) (.int .u64 0) (.int .u64 (aLo (a * c)))]) ∧ (D 5 = true → ∃ g : Nat, v 5 = .pointer (some ⟨g, 0, none⟩) ∧ N0 ≤ g ∧ Blk W g 77 #[Reg.sel (D 7) (.bool false) (.bool (negB (a * c))), Reg.sel (D 7) (.int .u64 0) (.int .u64 (aHi (a * c))), Reg.sel (D 7) (.int .u64 0) (.int .u64 (aLo (a * c)))]) ∧ (D 4 = true → D 5 = true → v 4 ≠ v 5) ∧ N0 ≤ W.heap.size)
    (Reg.inl [4, 5, 6, 7]) (Reg.gv [(4, fun x => ∃ g : Nat, x = .pointer (some ⟨g, 0, none⟩)), (5, fun x => ∃ g : Nat, x = .pointer (some ⟨g, 0, none⟩))]) Reg.None_ (fun _ => Reg.Any) (fun _ _ => False) (Reg.pl [(6, [(4, some 7)]), (7, [(5, some 8)]), (8, [(4, some 7), (5, some 8)])]) (Reg.pl [(4, [6]), (5, [7])])
    (by kernel_rfl) (by kernel_rfl) (by kernel_rfl) (Reg.gv_some _ (fun p hp => by simp only [List.mem_cons, List.not_mem_nil, or_false] at hp; rcases hp with rfl | rfl; exact ⟨_, 0, rfl⟩; exact ⟨_, 0, rfl⟩)) (fun N0 hN0 => ⟨fun v => ?_, (fun D v v' W hv hj => ?_), fun _ _ _ _ _ _ _ _ _ _ _ _ _ => Reg.none_, fun _ _ _ _ h => h.elim, fun ops' Q' hops hQ => ?_⟩)
  · exact ⟨(by first | with_reducible exact Below.drew B | with_reducible exact Below.drew (belowN B _) | (repeat' first | with_reducible assumption | with_reducible exact Below.refl _ _ | with_reducible refine Below.alloc ?_ ?_ _ | with_reducible refine Below.drew ?_ | with_reducible refine belowN ?_ _ | with_reducible refine Below.setCell ?_ ?_ _ | go_size)), (show Blk _ _ _ #[.bool false, .int .u64 0, .int .u64 0] from (by first | with_reducible exact oP | (repeat' first | with_reducible assumption | (with_reducible refine Blk.new' ?_; first | with_reducible rfl | (simp only [World.size_alloc, World.size_setCell, World.size_drew]; done)) | with_reducible refine Blk.alloc ?_ _ | with_reducible refine Blk.drew ?_ | with_reducible refine Blk.drewN ?_ _ | with_reducible apply Blk.both | with_reducible refine Blk.far' ?_ ?_ | (show _ ≠ _; omega)))), (show Blk _ _ _ #[.bool false, .int .u64 0, .int .u64 0] from (by first | with_reducible exact oQ | (repeat' first | with_reducible assumption | (with_reducible refine Blk.new' ?_; first | with_reducible rfl | (simp only [World.size_alloc, World.size_setCell, World.size_drew]; done)) | with_reducible refine Blk.alloc ?_ _ | with_reducible refine Blk.drew ?_ | with_reducible refine Blk.drewN ?_ _ | with_reducible apply Blk.both | with_reducible refine Blk.far' ?_ ?_ | (show _ ≠ _; omega)))), (show Blk _ _ _ #[.bool (negB (a * c)), .int .u64 (aHi (a * c)), .int .u64 (aLo (a * c)), .bool (negB (a * d)), .int .u64 (aHi (a * d)), .int .u64 (aLo (a * d)), .bool (negB (b * c)), .int .u64 (aHi (b * c)), .int .u64 (aLo (b * c)), .bool (negB (b * d)), .int .u64 (aHi (b * d)), .int .u64 (aLo (b * d))] from (by first | with_reducible exact oL | (repeat' first | with_reducible assumption | (with_reducible refine Blk.new' ?_; first | with_reducible rfl | (simp only [World.size_alloc, World.size_setCell, World.size_drew]; done)) | with_reducible refine Blk.alloc ?_ _ | with_reducible refine Blk.drew ?_ | with_reducible refine Blk.drewN ?_ _ | with_reducible apply Blk.both | with_reducible refine Blk.far' ?_ ?_ | (show _ ≠ _; omega)))), (fun h => by cases h), (fun h => by cases h), (fun h => by cases h), (Nat.le_of_eq hN0.out)⟩
  · obtain ⟨B, oP, oQ, oL, pa4, pa5, q4_5, zN0⟩ := hj
    exact ⟨B, oP, oQ, oL, (fun h => hv 4 h ▸ pa4 h), (fun h => hv 5 h ▸ pa5 h), (fun h h' => hv 4 h ▸ hv 5 h' ▸ q4_5 h h'), zN0⟩
  have iP : w.heap.size + 1 + 1 < N0 := by have h := oP.lt; have e := hN0.out; (try simp only [World.size_alloc, World.size_setCell, World.size_drew, World.heap_drewN] at e); omega
  have iQ : w.heap.size + 1 + 1 + 1 < N0 := by have h := oQ.lt; have e := hN0.out; (try simp only [World.size_alloc, World.size_setCell, World.size_drew, World.heap_drewN] at e); omega
  have iL : gL < N0 := by have h := oL.lt; have e := hN0.out; (try simp only [World.size_alloc, World.size_setCell, World.size_drew, World.heap_drewN] at e); omega
  have uN0 : w.heap.size ≤ N0 := by have h := Below.size B; have e := hN0.out; (try simp only [World.size_alloc, World.size_setCell, World.size_drew, World.heap_drewN] at e); (try simp only [World.size_alloc, World.size_setCell, World.size_drew, World.heap_drewN] at h); omega
  clear B oP oQ oL hN0
  apply Reg.RC_pure (hc := rfl) (hst := rfl) (hw := rfl) (t := 31) (hd := rfl) (ht := Nat.le_of_ble_eq_true rfl)
  · intro D v W hc hj hf K hK
    go_step
    exact hK.out
  · rfl
  apply Reg.RC_pure (hc := rfl) (hst := rfl) (hw := rfl) (t := 32) (hd := rfl) (ht := Nat.le_of_ble_eq_true rfl)
  · intro D v W hc hj hf K hK
    obtain ⟨B, oP, oQ, oL, pa4, pa5, q4_5, zN0⟩ := hj
    have cL0 : World.cell? W ⟨gL, 0, none⟩ = some (.bool (negB (a * c))) := oL.c 0 rfl
    have cL1 : World.cell? W ⟨gL, 1, none⟩ = some (.int .u64 (aHi (a * c))) := oL.c 1 rfl
    have cL2 : World.cell? W ⟨gL, 2, none⟩ = some (.int .u64 (aLo (a * c))) := oL.c 2 rfl
    have cL3 : World.cell? W ⟨gL, 3, none⟩ = some (.bool (negB (a * d))) := oL.c 3 rfl
    have cL4 : World.cell? W ⟨gL, 4, none⟩ = some (.int .u64 (aHi (a * d))) := oL.c 4 rfl
    have cL5 : World.cell? W ⟨gL, 5, none⟩ = some (.int .u64 (aLo (a * d))) := oL.c 5 rfl
    have cL6 : World.cell? W ⟨gL, 6, none⟩ = some (.bool (negB (b * c))) := oL.c 6 rfl
    have cL7 : World.cell? W ⟨gL, 7, none⟩ = some (.int .u64 (aHi (b * c))) := oL.c 7 rfl
    have cL8 : World.cell? W ⟨gL, 8, none⟩ = some (.int .u64 (aLo (b * c))) := oL.c 8 rfl
    have cL9 : World.cell? W ⟨gL, 9, none⟩ = some (.bool (negB (b * d))) := oL.c 9 rfl
    have cL10 : World.cell? W ⟨gL, 10, none⟩ = some (.int .u64 (aHi (b * d))) := oL.c 10 rfl
    have cL11 : World.cell? W ⟨gL, 11, none⟩ = some (.int .u64 (aLo (b * d))) := oL.c 11 rfl
    go_step
    exact hK.out
  · rfl
  apply Reg.RC_pure (hc := rfl) (hst := rfl) (hw := rfl) (t := 33) (hd := rfl) (ht := Nat.le_of_ble_eq_true rfl)
  · intro D v W hc hj hf K hK
    go_step
    exact hK.out
  · rfl
  apply Reg.RC_pure (hc := rfl) (hst := rfl) (hw := rfl) (t := 34) (hd := rfl) (ht := Nat.le_of_ble_eq_true rfl)
  · intro D v W hc hj hf K hK
    obtain ⟨B, oP, oQ, oL, pa4, pa5, q4_5, zN0⟩ := hj
    have cL0 : World.cell? W ⟨gL, 0, none⟩ = some (.bool (negB (a * c))) := oL.c 0 rfl
    have cL1 : World.cell? W ⟨gL, 1, none⟩ = some (.int .u64 (aHi (a * c))) := oL.c 1 rfl
    have cL2 : World.cell? W ⟨gL, 2, none⟩ = some (.int .u64 (aLo (a * c))) := oL.c 2 rfl
    have cL3 : World.cell? W ⟨gL, 3, none⟩ = some (.bool (negB (a * d))) := oL.c 3 rfl
    have cL4 : World.cell? W ⟨gL, 4, none⟩ = some (.int .u64 (aHi (a * d))) := oL.c 4 rfl
    have cL5 : World.cell? W ⟨gL, 5, none⟩ = some (.int .u64 (aLo (a * d))) := oL.c 5 rfl
    have cL6 : World.cell? W ⟨gL, 6, none⟩ = some (.bool (negB (b * c))) := oL.c 6 rfl
    have cL7 : World.cell? W ⟨gL, 7, none⟩ = some (.int .u64 (aHi (b * c))) := oL.c 7 rfl
    have cL8 : World.cell? W ⟨gL, 8, none⟩ = some (.int .u64 (aLo (b * c))) := oL.c 8 rfl
    have cL9 : World.cell? W ⟨gL, 9, none⟩ = some (.bool (negB (b * d))) := oL.c 9 rfl
    have cL10 : World.cell? W ⟨gL, 10, none⟩ = some (.int .u64 (aHi (b * d))) := oL.c 10 rfl
    have cL11 : World.cell? W ⟨gL, 11, none⟩ = some (.int .u64 (aLo (b * d))) := oL.c 11 rfl
    go_step
    exact hK.out
  · rfl
  refine Reg.RC_call rfl (by intro t ht; cases ht; exact Nat.le_of_ble_eq_true rfl) rfl (fun D v W hc hj hf K hK => ?_) (fun x hx => ?_)
  · obtain ⟨B, oP, oQ, oL, pa4, pa5, q4_5, zN0⟩ := hj
    have hs : D 6 = false := hc.2 6 (.head _)
    go_step
    exact hK.out _ _ Reg.any ⟨Below.alloc B B.size _, oP.alloc _, oQ.alloc _, oL.alloc _, (fun _ => ⟨W.heap.size, rfl, zN0, (by show Blk _ _ _ #[Reg.sel (D 6) (.bool false) (.bool (negB (a * c))), Reg.sel (D 6) (.int .u64 0) (.int .u64 (aHi (a * c))), Reg.sel (D 6) (.int .u64 0) (.int .u64 (aLo (a * c)))]; simp only [hs, Reg.sel_false]; exact Blk.new W _ _)⟩), (fun h => let ⟨g, h1, h2, h3⟩ := pa5 h; ⟨g, h1, h2, h3.alloc _⟩), (fun _ h' => let ⟨g, h1, _, h3⟩ := pa5 h'; fun e => Reg.ptr_ne h3.lt (e.trans h1)), (Nat.le_trans zN0 (by rw [World.size_alloc]; exact Nat.le_succ _))⟩ Reg.none_ ⟨_, rfl⟩
  obtain ⟨gX, hx⟩ : ∃ g : Nat, x = .pointer (some ⟨g, 0, none⟩) := hx
  subst hx
  refine Reg.RC_at (b := ⟨#[_, _, _, _, _, _, _, _, _, _, _, _, _, _, _, _, _, _, _, _, _, _, _, _, _, _, _, _, _, _, _, _, _, _, _, _, _, _, _, _, _, _, _, _, _, _, _, _, _, _, _, _, _, _, _, _, _], []⟩) rfl ?_
  refine Reg.RC_call rfl (by intro t ht; cases ht; exact Nat.le_of_ble_eq_true rfl) rfl (fun D v W hc hj hf K hK => ?_) (fun x hx => ?_)
  · obtain ⟨B, oP, oQ, oL, pa4, pa5, q4_5, zN0⟩ := hj
    have hs : D 7 = false := hc.2 7 (.head _)
    go_step
    exact hK.out _ _ Reg.any ⟨Below.alloc B B.size _, oP.alloc _, oQ.alloc _, oL.alloc _, (fun h => let ⟨g, h1, h2, h3⟩ := pa4 h; ⟨g, h1, h2, h3.alloc _⟩), (fun _ => ⟨W.heap.size, rfl, zN0, (by show Blk _ _ _ #[Reg.sel (D 7) (.bool false) (.bool (negB (a * c))), Reg.sel (D 7) (.int .u64 0) (.int .u64 (aHi (a * c))), Reg.sel (D 7) (.int .u64 0) (.int .u64 (aLo (a * c)))]; simp only [hs, Reg.sel_false]; exact Blk.new W _ _)⟩), (fun h _ => let ⟨g, h1, _, h3⟩ := pa4 h; fun e => Reg.ptr_ne h3.lt (e.symm.trans h1)), (Nat.le_trans zN0 (by rw [World.size_alloc]; exact Nat.le_succ _))⟩ Reg.none_ ⟨_, rfl⟩
  obtain ⟨gY, hx⟩ : ∃ g : Nat, x = .pointer (some ⟨g, 0, none⟩) := hx
  subst hx
  refine Reg.RC_at (b := ⟨#[_, _, _, _, _, _, _, _, _, _, _, _, _, _, _, _, _, _, _, _, _, _, _, _, _, _, _, _, _, _, _, _, _, _, _, _, _, _, _, _, _, _, _, _, _, _, _, _, _, _, _, _, _, _, _, _, _], []⟩) rfl ?_
  refine Reg.RC_call rfl (by intro t ht; cases ht) rfl (fun D v W hc hj hf K hK => ?_) (fun _ _ => Reg.RC_at (b := ⟨_, []⟩) rfl ?_)
  · obtain ⟨B, oP, oQ, oL, pa4, pa5, q4_5, zN0⟩ := hj
    have hs : D 6 = false := hc.1
    obtain ⟨hd, he, -⟩ := hf (4, some 7) (.head _) rfl
    obtain ⟨g, h1, h2, h3⟩ := pa4 hd
    obtain rfl : gX = g := Reg.ptr_eq ((show v 4 = Value.pointer (some ⟨gX, 0, none⟩) from he).symm.trans h1)
    have oo : Blk W gX 77 #[.bool false, .int .u64 0, .int .u64 0] := by have o := h3; simp only [hs, Reg.sel_false] at o; exact o
    have cc0 : World.cell? W ⟨gX, 0, none⟩ = some (.bool false) := oo.c 0 rfl
    have cc1 : World.cell? W ⟨gX, 1, none⟩ = some (.int .u64 0) := oo.c 1 rfl
    have cc2 : World.cell? W ⟨gX, 2, none⟩ = some (.int .u64 0) := oo.c 2 rfl
    have ff := oo.fr
    have ll := oo.lt
    go_step
    have nn := h2
    exact hK.out undef _ Reg.any ⟨(by (repeat' first | with_reducible assumption | with_reducible exact Below.refl _ _ | with_reducible refine Below.alloc ?_ ?_ _ | with_reducible refine Below.drew ?_ | with_reducible refine belowN ?_ _ | with_reducible refine Below.setCell ?_ ?_ _ | go_size)), (show Blk _ _ _ #[.bool false, .int .u64 0, .int .u64 0] from (by (repeat' first | with_reducible assumption | (with_reducible refine Blk.new' ?_; first | with_reducible rfl | (simp only [World.size_alloc, World.size_setCell, World.size_drew]; done)) | with_reducible refine Blk.alloc ?_ _ | with_reducible refine Blk.drew ?_ | with_reducible refine Blk.drewN ?_ _ | with_reducible apply Blk.both | with_reducible refine Blk.far' ?_ ?_ | (show _ ≠ _; omega)))), (show Blk _ _ _ #[.bool false, .int .u64 0, .int .u64 0] from (by (repeat' first | with_reducible assumption | (with_reducible refine Blk.new' ?_; first | with_reducible rfl | (simp only [World.size_alloc, World.size_setCell, World.size_drew]; done)) | with_reducible refine Blk.alloc ?_ _ | with_reducible refine Blk.drew ?_ | with_reducible refine Blk.drewN ?_ _ | with_reducible apply Blk.both | with_reducible refine Blk.far' ?_ ?_ | (show _ ≠ _; omega)))), (show Blk _ _ _ #[.bool (negB (a * c)), .int .u64 (aHi (a * c)), .int .u64 (aLo (a * c)), .bool (negB (a * d)), .int .u64 (aHi (a * d)), .int .u64 (aLo (a * d)), .bool (negB (b * c)), .int .u64 (aHi (b * c)), .int .u64 (aLo (b * c)), .bool (negB (b * d)), .int .u64 (aHi (b * d)), .int .u64 (aLo (b * d))] from (by (repeat' first | with_reducible assumption | (with_reducible refine Blk.new' ?_; first | with_reducible rfl | (simp only [World.size_alloc, World.size_setCell, World.size_drew]; done)) | with_reducible refine Blk.alloc ?_ _ | with_reducible refine Blk.drew ?_ | with_reducible refine Blk.drewN ?_ _ | with_reducible apply Blk.both | with_reducible refine Blk.far' ?_ ?_ | (show _ ≠ _; omega)))), (fun _ => ⟨gX, h1, h2, (show Blk _ _ _ #[.bool (negB (a * c)), .int .u64 (aHi (a * c)), .int .u64 (aLo (a * c))] from (Blk.set2 (cs' := #[.bool (negB (a * c)), .int .u64 (aHi (a * c)), .int .u64 (aLo (a * c))]) (Blk.set2 (cs' := #[.bool (negB (a * c)), .int .u64 (aHi (a * c)), .int .u64 0]) (Blk.set2 (cs' := #[.bool (negB (a * c)), .int .u64 0, .int .u64 0]) oo (i := 0) rfl) (i := 1) rfl) (i := 2) rfl))⟩), (fun h => let ⟨g', h1', h2', h3'⟩ := pa5 h; have hne : g' ≠ gX := (fun e => q4_5 hd h (h1.trans ((congrArg (fun n => Value.pointer (some ⟨n, 0, none⟩)) e.symm).trans h1'.symm))); ⟨g', h1', h2', (show Blk _ _ _ #[Reg.sel (D 7) (.bool false) (.bool (negB (a * c))), Reg.sel (D 7) (.int .u64 0) (.int .u64 (aHi (a * c))), Reg.sel (D 7) (.int .u64 0) (.int .u64 (aLo (a * c)))] from (by (repeat' first | with_reducible assumption | (with_reducible refine Blk.new' ?_; first | with_reducible rfl | (simp only [World.size_alloc, World.size_setCell, World.size_drew]; done)) | with_reducible refine Blk.alloc ?_ _ | with_reducible refine Blk.drew ?_ | with_reducible refine Blk.drewN ?_ _ | with_reducible apply Blk.both | with_reducible refine Blk.far' ?_ ?_ | (show _ ≠ _; omega))))⟩), (fun h h' => q4_5 h h'), (by simpa using zN0)⟩ Reg.none_ trivial
  refine Reg.RC_call rfl (by intro t ht; cases ht) rfl (fun D v W hc hj hf K hK => ?_) (fun _ _ => Reg.RC_at (b := ⟨_, []⟩) rfl ?_)
  · obtain ⟨B, oP, oQ, oL, pa4, pa5, q4_5, zN0⟩ := hj
    have hs : D 7 = false := hc.1
    obtain ⟨hd, he, -⟩ := hf (5, some 8) (.head _) rfl
    obtain ⟨g, h1, h2, h3⟩ := pa5 hd
    obtain rfl : gY = g := Reg.ptr_eq ((show v 5 = Value.pointer (some ⟨gY, 0, none⟩) from he).symm.trans h1)
    have oo : Blk W gY 77 #[.bool false, .int .u64 0, .int .u64 0] := by have o := h3; simp only [hs, Reg.sel_false] at o; exact o
    have cc0 : World.cell? W ⟨gY, 0, none⟩ = some (.bool false) := oo.c 0 rfl
    have cc1 : World.cell? W ⟨gY, 1, none⟩ = some (.int .u64 0) := oo.c 1 rfl
    have cc2 : World.cell? W ⟨gY, 2, none⟩ = some (.int .u64 0) := oo.c 2 rfl
    have ff := oo.fr
    have ll := oo.lt
    go_step
    have nn := h2
    exact hK.out undef _ Reg.any ⟨(by (repeat' first | with_reducible assumption | with_reducible exact Below.refl _ _ | with_reducible refine Below.alloc ?_ ?_ _ | with_reducible refine Below.drew ?_ | with_reducible refine belowN ?_ _ | with_reducible refine Below.setCell ?_ ?_ _ | go_size)), (show Blk _ _ _ #[.bool false, .int .u64 0, .int .u64 0] from (by (repeat' first | with_reducible assumption | (with_reducible refine Blk.new' ?_; first | with_reducible rfl | (simp only [World.size_alloc, World.size_setCell, World.size_drew]; done)) | with_reducible refine Blk.alloc ?_ _ | with_reducible refine Blk.drew ?_ | with_reducible refine Blk.drewN ?_ _ | with_reducible apply Blk.both | with_reducible refine Blk.far' ?_ ?_ | (show _ ≠ _; omega)))), (show Blk _ _ _ #[.bool false, .int .u64 0, .int .u64 0] from (by (repeat' first | with_reducible assumption | (with_reducible refine Blk.new' ?_; first | with_reducible rfl | (simp only [World.size_alloc, World.size_setCell, World.size_drew]; done)) | with_reducible refine Blk.alloc ?_ _ | with_reducible refine Blk.drew ?_ | with_reducible refine Blk.drewN ?_ _ | with_reducible apply Blk.both | with_reducible refine Blk.far' ?_ ?_ | (show _ ≠ _; omega)))), (show Blk _ _ _ #[.bool (negB (a * c)), .int .u64 (aHi (a * c)), .int .u64 (aLo (a * c)), .bool (negB (a * d)), .int .u64 (aHi (a * d)), .int .u64 (aLo (a * d)), .bool (negB (b * c)), .int .u64 (aHi (b * c)), .int .u64 (aLo (b * c)), .bool (negB (b * d)), .int .u64 (aHi (b * d)), .int .u64 (aLo (b * d))] from (by (repeat' first | with_reducible assumption | (with_reducible refine Blk.new' ?_; first | with_reducible rfl | (simp only [World.size_alloc, World.size_setCell, World.size_drew]; done)) | with_reducible refine Blk.alloc ?_ _ | with_reducible refine Blk.drew ?_ | with_reducible refine Blk.drewN ?_ _ | with_reducible apply Blk.both | with_reducible refine Blk.far' ?_ ?_ | (show _ ≠ _; omega)))), (fun h => let ⟨g', h1', h2', h3'⟩ := pa4 h; have hne : g' ≠ gY := (fun e => q4_5 h hd (h1'.trans ((congrArg (fun n => Value.pointer (some ⟨n, 0, none⟩)) e).trans h1.symm))); ⟨g', h1', h2', (show Blk _ _ _ #[Reg.sel (D 6) (.bool false) (.bool (negB (a * c))), Reg.sel (D 6) (.int .u64 0) (.int .u64 (aHi (a * c))), Reg.sel (D 6) (.int .u64 0) (.int .u64 (aLo (a * c)))] from (by (repeat' first | with_reducible assumption | (with_reducible refine Blk.new' ?_; first | with_reducible rfl | (simp only [World.size_alloc, World.size_setCell, World.size_drew]; done)) | with_reducible refine Blk.alloc ?_ _ | with_reducible refine Blk.drew ?_ | with_reducible refine Blk.drewN ?_ _ | with_reducible apply Blk.both | with_reducible refine Blk.far' ?_ ?_ | (show _ ≠ _; omega))))⟩), (fun _ => ⟨gY, h1, h2, (show Blk _ _ _ #[.bool (negB (a * c)), .int .u64 (aHi (a * c)), .int .u64 (aLo (a * c))] from (Blk.set2 (cs' := #[.bool (negB (a * c)), .int .u64 (aHi (a * c)), .int .u64 (aLo (a * c))]) (Blk.set2 (cs' := #[.bool (negB (a * c)), .int .u64 (aHi (a * c)), .int .u64 0]) (Blk.set2 (cs' := #[.bool (negB (a * c)), .int .u64 0, .int .u64 0]) oo (i := 0) rfl) (i := 1) rfl) (i := 2) rfl))⟩), (fun h h' => q4_5 h h'), (by simpa using zN0)⟩ Reg.none_ trivial
  refine Reg.RC_end (fun D v W hd hj hf => ?_)
  obtain ⟨B, oP, oQ, oL, pa4, pa5, q4_5, zN0⟩ := hj
  obtain ⟨-, he, -⟩ := hf (4, some 7) (.head _) rfl
  obtain ⟨g, h1, hXn, h3⟩ := pa4 (hd 4 (by decide))
  obtain rfl : gX = g := Reg.ptr_eq ((show v 4 = Value.pointer (some ⟨gX, 0, none⟩) from he).symm.trans h1)
  have oX : Blk W gX 77 #[.bool (negB (a * c)), .int .u64 (aHi (a * c)), .int .u64 (aLo (a * c))] := by have o := h3; simp only [hd 6 (by decide), Reg.inl, Reg.sel_true] at o; exact o
  have lowX : w.heap.size ≤ gX := Nat.le_trans uN0 hXn
  have sPX : w.heap.size + 1 + 1 ≠ gX := by have := iP; have := hXn; omega
  have sQX : w.heap.size + 1 + 1 + 1 ≠ gX := by have := iQ; have := hXn; omega
  have sLX : gL ≠ gX := by have := iL; have := hXn; omega
  have he4 := h1
  clear he h1 h3 pa4 hXn
  obtain ⟨-, he, -⟩ := hf (5, some 8) (.tail _ (.head _)) rfl
  obtain ⟨g, h1, hYn, h3⟩ := pa5 (hd 5 (by decide))
  obtain rfl : gY = g := Reg.ptr_eq ((show v 5 = Value.pointer (some ⟨gY, 0, none⟩) from he).symm.trans h1)
  have oY : Blk W gY 77 #[.bool (negB (a * c)), .int .u64 (aHi (a * c)), .int .u64 (aLo (a * c))] := by have o := h3; simp only [hd 7 (by decide), Reg.inl, Reg.sel_true] at o; exact o
  have lowY : w.heap.size ≤ gY := Nat.le_trans uN0 hYn
  have sPY : w.heap.size + 1 + 1 ≠ gY := by have := iP; have := hYn; omega
  have sQY : w.heap.size + 1 + 1 + 1 ≠ gY := by have := iQ; have := hYn; omega
  have sLY : gL ≠ gY := by have := iL; have := hYn; omega
  have he5 := h1
  clear he h1 h3 pa5 hYn
  have nXY : gX ≠ gY := fun e => q4_5 (hd 4 (by decide)) (hd 5 (by decide)) (he4.trans ((congrArg (fun n => Value.pointer (some ⟨n, 0, none⟩)) e).trans he5.symm))
  have nYX : gY ≠ gX := Ne.symm nXY
  clear he4 he5 zN0 uN0
  clear hd hf q4_5 iP iQ iL
  refine hQ _ _ ?_
  clear hQ hops Q' ops'
  have sLX2 := sLX
  have sLY2 := sLY
  go_wp2_with fail
  go_loopw [9] (fun v9 wr => ∃ k : Nat, (1 ≤ k ∧ k ≤ 4) ∧ v9 = .int .i64 k ∧ Blk wr gL 109 #[.bool (negB (a * c)), .int .u64 (aHi (a * c)), .int .u64 (aLo (a * c)), .bool (negB (a * d)), .int .u64 (aHi (a * d)), .int .u64 (aLo (a * d)), .bool (negB (b * c)), .int .u64 (aHi (b * c)), .int .u64 (aLo (b * c)), .bool (negB (b * d)), .int .u64 (aHi (b * d)), .int .u64 (aLo (b * d))] ∧ Blk wr gX 77 #[.bool (negB (fmn (a * c) (a * d) (b * c) (b * d) k)), .int .u64 (aHi (fmn (a * c) (a * d) (b * c) (b * d) k)), .int .u64 (aLo (fmn (a * c) (a * d) (b * c) (b * d) k))] ∧ Blk wr gY 77 #[.bool (negB (fmx (a * c) (a * d) (b * c) (b * d) k)), .int .u64 (aHi (fmx (a * c) (a * d) (b * c) (b * d) k)), .int .u64 (aLo (fmx (a * c) (a * d) (b * c) (b * d) k))] ∧ Blk wr (w.heap.size + 1 + 1) 77 #[.bool false, .int .u64 0, .int .u64 0] ∧ Blk wr (w.heap.size + 1 + 1 + 1) 77 #[.bool false, .int .u64 0, .int .u64 0] ∧ Below w.heap.size w wr) (fun v9 _ => 4 - (intOf v9).toNat)
  case atStart => exact ⟨1, by omega, rfl, oL, oX, oY, oP, oQ, B⟩
  case round =>
    obtain ⟨k, ⟨k0, k1⟩, rfl, oL, oX, oY, oP, oQ, B⟩ := hrel
    rcases (show k = 1 ∨ k = 2 ∨ k = 3 ∨ k = 4 by omega) with rfl | rfl | rfl | rfl
    · clear k0 k1
      have oX : Blk _ gX 77 #[.bool (negB (a * c)), .int .u64 (aHi (a * c)), .int .u64 (aLo (a * c))] := oX
      have oY : Blk _ gY 77 #[.bool (negB (a * c)), .int .u64 (aHi (a * c)), .int .u64 (aLo (a * c))] := oY
      by_cases h1 : a * d < a * c
      all_goals by_cases h2 : a * c < a * d
      · have D1 : Hid (decide (a * d < a * c) = true) := by show decide _ = _; simp <;> omega
        have D2 : Hid (decide (a * c < a * d) = true) := by show decide _ = _; simp <;> omega
        have E1 : Hid (mn (a * c) (a * d) = a * d) := mn_lt h1
        have E2 : Hid (mx (a * c) (a * d) = a * d) := mx_lt h2
        clear h1 h2
        go_wp2_with fail
        refine Reg.wp_chain (fun D v W => Below w.heap.size w W ∧ Blk W (gL) 109 #[.bool (negB (a * c)), .int .u64 (aHi (a * c)), .int .u64 (aLo (a * c)), .bool (negB (a * d)), .int .u64 (aHi (a * d)), .int .u64 (aLo (a * d)), .bool (negB (b * c)), .int .u64 (aHi (b * c)), .int .u64 (aLo (b * c)), .bool (negB (b * d)), .int .u64 (aHi (b * d)), .int .u64 (aLo (b * d))] ∧ Blk W (gX) 77 #[.bool (negB (a * c)), .int .u64 (aHi (a * c)), .int .u64 (aLo (a * c))] ∧ Blk W (gY) 77 #[.bool (negB (a * c)), .int .u64 (aHi (a * c)), .int .u64 (aLo (a * c))] ∧ Blk W (w.heap.size + 1 + 1) 77 #[.bool false, .int .u64 0, .int .u64 0] ∧ Blk W (w.heap.size + 1 + 1 + 1) 77 #[.bool false, .int .u64 0, .int .u64 0])
          (Reg.inl [4]) (Reg.ge [(4, .bool true)]) Reg.None_ (fun _ => Reg.Any) (fun _ _ => False) (Reg.pl []) (Reg.pl [])
          (by kernel_rfl) (by kernel_rfl) (by kernel_rfl) (Reg.ge_some _) (fun v => ?_) (fun _ _ _ _ _ h => h) (fun _ _ _ _ _ _ _ _ _ _ _ _ _ => Reg.none_) (fun _ _ _ _ h => h.elim) (fun ops' Q' hops hQ => ?_)
        · exact ⟨(by first | with_reducible exact Below.drew B | with_reducible exact Below.drew (belowN B _) | (repeat' first | with_reducible assumption | with_reducible exact Below.refl _ _ | with_reducible refine Below.alloc ?_ ?_ _ | with_reducible refine Below.drew ?_ | with_reducible refine belowN ?_ _ | with_reducible refine Below.setCell ?_ ?_ _ | go_size)), (show Blk _ _ _ #[.bool (negB (a * c)), .int .u64 (aHi (a * c)), .int .u64 (aLo (a * c)), .bool (negB (a * d)), .int .u64 (aHi (a * d)), .int .u64 (aLo (a * d)), .bool (negB (b * c)), .int .u64 (aHi (b * c)), .int .u64 (aLo (b * c)), .bool (negB (b * d)), .int .u64 (aHi (b * d)), .int .u64 (aLo (b * d))] from (by first | with_reducible exact oL | (repeat' first | with_reducible assumption | (with_reducible refine Blk.new' ?_; first | with_reducible rfl | (simp only [World.size_alloc, World.size_setCell, World.size_drew]; done)) | with_reducible refine Blk.alloc ?_ _ | with_reducible refine Blk.drew ?_ | with_reducible refine Blk.drewN ?_ _ | with_reducible apply Blk.both | with_reducible refine Blk.far' ?_ ?_ | (show _ ≠ _; omega)))), (show Blk _ _ _ #[.bool (negB (a * c)), .int .u64 (aHi (a * c)), .int .u64 (aLo (a * c))] from (by first | with_reducible exact oX | (repeat' first | with_reducible assumption | (with_reducible refine Blk.new' ?_; first | with_reducible rfl | (simp only [World.size_alloc, World.size_setCell, World.size_drew]; done)) | with_reducible refine Blk.alloc ?_ _ | with_reducible refine Blk.drew ?_ | with_reducible refine Blk.drewN ?_ _ | with_reducible apply Blk.both | with_reducible refine Blk.far' ?_ ?_ | (show _ ≠ _; omega)))), (show Blk _ _ _ #[.bool (negB (a * c)), .int .u64 (aHi (a * c)), .int .u64 (aLo (a * c))] from (by first | with_reducible exact oY | (repeat' first | with_reducible assumption | (with_reducible refine Blk.new' ?_; first | with_reducible rfl | (simp only [World.size_alloc, World.size_setCell, World.size_drew]; done)) | with_reducible refine Blk.alloc ?_ _ | with_reducible refine Blk.drew ?_ | with_reducible refine Blk.drewN ?_ _ | with_reducible apply Blk.both | with_reducible refine Blk.far' ?_ ?_ | (show _ ≠ _; omega)))), (show Blk _ _ _ #[.bool false, .int .u64 0, .int .u64 0] from (by first | with_reducible exact oP | (repeat' first | with_reducible assumption | (with_reducible refine Blk.new' ?_; first | with_reducible rfl | (simp only [World.size_alloc, World.size_setCell, World.size_drew]; done)) | with_reducible refine Blk.alloc ?_ _ | with_reducible refine Blk.drew ?_ | with_reducible refine Blk.drewN ?_ _ | with_reducible apply Blk.both | with_reducible refine Blk.far' ?_ ?_ | (show _ ≠ _; omega)))), (show Blk _ _ _ #[.bool false, .int .u64 0, .int .u64 0] from (by first | with_reducible exact oQ | (repeat' first | with_reducible assumption | (with_reducible refine Blk.new' ?_; first | with_reducible rfl | (simp only [World.size_alloc, World.size_setCell, World.size_drew]; done)) | with_reducible refine Blk.alloc ?_ _ | with_reducible refine Blk.drew ?_ | with_reducible refine Blk.drewN ?_ _ | with_reducible apply Blk.both | with_reducible refine Blk.far' ?_ ?_ | (show _ ≠ _; omega))))⟩
        clear B oL oX oY oP oQ
        apply Reg.RC_pure (hc := rfl) (hst := rfl) (hw := rfl) (t := 39) (hd := rfl) (ht := Nat.le_of_ble_eq_true rfl)
        · intro D v W hc hj hf K hK
          go_step
          exact hK.out
        · rfl
        apply Reg.RC_pure (hc := rfl) (hst := rfl) (hw := rfl) (t := 40) (hd := rfl) (ht := Nat.le_of_ble_eq_true rfl)
        · intro D v W hc hj hf K hK
          go_step
          exact hK.out
        · rfl
        apply Reg.RC_pure (hc := rfl) (hst := rfl) (hw := rfl) (t := 41) (hd := rfl) (ht := Nat.le_of_ble_eq_true rfl)
        · intro D v W hc hj hf K hK
          obtain ⟨B, oL, oX, oY, oP, oQ⟩ := hj
          have cL0 : World.cell? W ⟨gL, 0, none⟩ = some (.bool (negB (a * c))) := oL.c 0 rfl
          have cL1 : World.cell? W ⟨gL, 1, none⟩ = some (.int .u64 (aHi (a * c))) := oL.c 1 rfl
          have cL2 : World.cell? W ⟨gL, 2, none⟩ = some (.int .u64 (aLo (a * c))) := oL.c 2 rfl
          have cL3 : World.cell? W ⟨gL, 3, none⟩ = some (.bool (negB (a * d))) := oL.c 3 rfl
          have cL4 : World.cell? W ⟨gL, 4, none⟩ = some (.int .u64 (aHi (a * d))) := oL.c 4 rfl
          have cL5 : World.cell? W ⟨gL, 5, none⟩ = some (.int .u64 (aLo (a * d))) := oL.c 5 rfl
          have cL6 : World.cell? W ⟨gL, 6, none⟩ = some (.bool (negB (b * c))) := oL.c 6 rfl
          have cL7 : World.cell? W ⟨gL, 7, none⟩ = some (.int .u64 (aHi (b * c))) := oL.c 7 rfl
          have cL8 : World.cell? W ⟨gL, 8, none⟩ = some (.int .u64 (aLo (b * c))) := oL.c 8 rfl
          have cL9 : World.cell? W ⟨gL, 9, none⟩ = some (.bool (negB (b * d))) := oL.c 9 rfl
          have cL10 : World.cell? W ⟨gL, 10, none⟩ = some (.int .u64 (aHi (b * d))) := oL.c 10 rfl
          have cL11 : World.cell? W ⟨gL, 11, none⟩ = some (.int .u64 (aLo (b * d))) := oL.c 11 rfl
          go_step
          exact hK.out
        · rfl
        apply Reg.RC_pure (hc := rfl) (hst := rfl) (hw := rfl) (t := 42) (hd := rfl) (ht := Nat.le_of_ble_eq_true rfl)
        · intro D v W hc hj hf K hK
          obtain ⟨B, oL, oX, oY, oP, oQ⟩ := hj
          have cX0 : World.cell? W ⟨gX, 0, none⟩ = some (.bool (negB (a * c))) := oX.c 0 rfl
          have cX1 : World.cell? W ⟨gX, 1, none⟩ = some (.int .u64 (aHi (a * c))) := oX.c 1 rfl
          have cX2 : World.cell? W ⟨gX, 2, none⟩ = some (.int .u64 (aLo (a * c))) := oX.c 2 rfl
          go_step
          exact hK.out
        · rfl
        refine Reg.RC_exact _ (fun _ h => h) rfl (by intro t ht; cases ht; exact Nat.le_of_ble_eq_true rfl) rfl (fun D v W hc hj hf K hK => ?_) (Reg.RC_at (b := ⟨#[_, _, _, _, _, _, _, _, _, _, _, _, _, _, _, _, _, _, _, _, _, _, _, _, _, _, _, _, _, _, _, _, _, _, _, _, _, _, _, _, _, _, _, _, _, _, _, _, _, _, _, _, _, _, _, _, _], []⟩) rfl ?_)
        · obtain ⟨B, oL, oX, oY, oP, oQ⟩ := hj
          go_step
          refine (rless_q _ _ _ _ D1.out).mono ?_
          rintro e W' ⟨rfl, hb⟩
          have st : Steps W W' := hb
          exact hK.out _ _ Reg.any ⟨below_steps B (Nat.le_refl _) st, oL.steps st, oX.steps st, oY.steps st, oP.steps st, oQ.steps st⟩ Reg.none_ rfl
        refine Reg.RC_end (fun D v W hd hj hf => ?_)
        obtain ⟨B, oL, oX, oY, oP, oQ⟩ := hj
        clear hd hf
        refine hQ _ _ ?_
        clear hQ hops Q' ops'
        have lL := oL.lt
        have fL := oL.fr
        have cL3 := oL.c 3 rfl
        have cL4 := oL.c 4 rfl
        have cL5 := oL.c 5 rfl
        have lX := oX.lt
        have fX := oX.fr
        have cX0 := oX.c 0 rfl
        have cX1 := oX.c 1 rfl
        have cX2 := oX.c 2 rfl
        have lY := oY.lt
        have fY := oY.fr
        have cY0 := oY.c 0 rfl
        have cY1 := oY.c 1 rfl
        have cY2 := oY.c 2 rfl
        go_wp2_with fail
        clear lL lX lY fL fX fY cL3 cL4 cL5 cX0 cX1 cX2 cY0 cY1 cY2
        refine Reg.wp_chain (fun D v W => Below w.heap.size w W ∧ Blk W (gL) 109 #[.bool (negB (a * c)), .int .u64 (aHi (a * c)), .int .u64 (aLo (a * c)), .bool (negB (a * d)), .int .u64 (aHi (a * d)), .int .u64 (aLo (a * d)), .bool (negB (b * c)), .int .u64 (aHi (b * c)), .int .u64 (aLo (b * c)), .bool (negB (b * d)), .int .u64 (aHi (b * d)), .int .u64 (aLo (b * d))] ∧ Blk W (gX) 77 #[.bool (negB (a * d)), .int .u64 (aHi (a * d)), .int .u64 (aLo (a * d))] ∧ Blk W (gY) 77 #[.bool (negB (a * c)), .int .u64 (aHi (a * c)), .int .u64 (aLo (a * c))] ∧ Blk W (w.heap.size + 1 + 1) 77 #[.bool false, .int .u64 0, .int .u64 0] ∧ Blk W (w.heap.size + 1 + 1 + 1) 77 #[.bool false, .int .u64 0, .int .u64 0])
          (Reg.inl [4]) (Reg.ge [(4, .bool true)]) Reg.None_ (fun _ => Reg.Any) (fun _ _ => False) (Reg.pl []) (Reg.pl [])
          (by kernel_rfl) (by kernel_rfl) (by kernel_rfl) (Reg.ge_some _) (fun v => ?_) (fun _ _ _ _ _ h => h) (fun _ _ _ _ _ _ _ _ _ _ _ _ _ => Reg.none_) (fun _ _ _ _ h => h.elim) (fun ops' Q' hops hQ => ?_)
        · exact ⟨(by first | with_reducible exact Below.drew B | with_reducible exact Below.drew (belowN B _) | (repeat' first | with_reducible assumption | with_reducible exact Below.refl _ _ | with_reducible refine Below.alloc ?_ ?_ _ | with_reducible refine Below.drew ?_ | with_reducible refine belowN ?_ _ | with_reducible refine Below.setCell ?_ ?_ _ | go_size)), (show Blk _ _ _ #[.bool (negB (a * c)), .int .u64 (aHi (a * c)), .int .u64 (aLo (a * c)), .bool (negB (a * d)), .int .u64 (aHi (a * d)), .int .u64 (aLo (a * d)), .bool (negB (b * c)), .int .u64 (aHi (b * c)), .int .u64 (aLo (b * c)), .bool (negB (b * d)), .int .u64 (aHi (b * d)), .int .u64 (aLo (b * d))] from (by first | with_reducible exact oL | (repeat' first | with_reducible assumption | (with_reducible refine Blk.new' ?_; first | with_reducible rfl | (simp only [World.size_alloc, World.size_setCell, World.size_drew]; done)) | with_reducible refine Blk.alloc ?_ _ | with_reducible refine Blk.drew ?_ | with_reducible refine Blk.drewN ?_ _ | with_reducible apply Blk.both | with_reducible refine Blk.far' ?_ ?_ | (show _ ≠ _; omega)))), (show Blk _ _ _ #[.bool (negB (a * d)), .int .u64 (aHi (a * d)), .int .u64 (aLo (a * d))] from (Blk.set_ (Blk.set_ (Blk.set_ oX 0 _) 1 _) 2 _)), (show Blk _ _ _ #[.bool (negB (a * c)), .int .u64 (aHi (a * c)), .int .u64 (aLo (a * c))] from (by first | with_reducible exact oY | (repeat' first | with_reducible assumption | (with_reducible refine Blk.new' ?_; first | with_reducible rfl | (simp only [World.size_alloc, World.size_setCell, World.size_drew]; done)) | with_reducible refine Blk.alloc ?_ _ | with_reducible refine Blk.drew ?_ | with_reducible refine Blk.drewN ?_ _ | with_reducible apply Blk.both | with_reducible refine Blk.far' ?_ ?_ | (show _ ≠ _; omega)))), (show Blk _ _ _ #[.bool false, .int .u64 0, .int .u64 0] from (by first | with_reducible exact oP | (repeat' first | with_reducible assumption | (with_reducible refine Blk.new' ?_; first | with_reducible rfl | (simp only [World.size_alloc, World.size_setCell, World.size_drew]; done)) | with_reducible refine Blk.alloc ?_ _ | with_reducible refine Blk.drew ?_ | with_reducible refine Blk.drewN ?_ _ | with_reducible apply Blk.both | with_reducible refine Blk.far' ?_ ?_ | (show _ ≠ _; omega)))), (show Blk _ _ _ #[.bool false, .int .u64 0, .int .u64 0] from (by first | with_reducible exact oQ | (repeat' first | with_reducible assumption | (with_reducible refine Blk.new' ?_; first | with_reducible rfl | (simp only [World.size_alloc, World.size_setCell, World.size_drew]; done)) | with_reducible refine Blk.alloc ?_ _ | with_reducible refine Blk.drew ?_ | with_reducible refine Blk.drewN ?_ _ | with_reducible apply Blk.both | with_reducible refine Blk.far' ?_ ?_ | (show _ ≠ _; omega))))⟩
        clear B oL oX oY oP oQ
        apply Reg.RC_pure (hc := rfl) (hst := rfl) (hw := rfl) (t := 47) (hd := rfl) (ht := Nat.le_of_ble_eq_true rfl)
        · intro D v W hc hj hf K hK
          obtain ⟨B, oL, oX, oY, oP, oQ⟩ := hj
          have cY0 : World.cell? W ⟨gY, 0, none⟩ = some (.bool (negB (a * c))) := oY.c 0 rfl
          have cY1 : World.cell? W ⟨gY, 1, none⟩ = some (.int .u64 (aHi (a * c))) := oY.c 1 rfl
          have cY2 : World.cell? W ⟨gY, 2, none⟩ = some (.int .u64 (aLo (a * c))) := oY.c 2 rfl
          go_step
          exact hK.out
        · rfl
        apply Reg.RC_pure (hc := rfl) (hst := rfl) (hw := rfl) (t := 48) (hd := rfl) (ht := Nat.le_of_ble_eq_true rfl)
        · intro D v W hc hj hf K hK
          go_step
          exact hK.out
        · rfl
        apply Reg.RC_pure (hc := rfl) (hst := rfl) (hw := rfl) (t := 49) (hd := rfl) (ht := Nat.le_of_ble_eq_true rfl)
        · intro D v W hc hj hf K hK
          go_step
          exact hK.out
        · rfl
        apply Reg.RC_pure (hc := rfl) (hst := rfl) (hw := rfl) (t := 50) (hd := rfl) (ht := Nat.le_of_ble_eq_true rfl)
        · intro D v W hc hj hf K hK
          obtain ⟨B, oL, oX, oY, oP, oQ⟩ := hj
          have cL0 : World.cell? W ⟨gL, 0, none⟩ = some (.bool (negB (a * c))) := oL.c 0 rfl
          have cL1 : World.cell? W ⟨gL, 1, none⟩ = some (.int .u64 (aHi (a * c))) := oL.c 1 rfl
          have cL2 : World.cell? W ⟨gL, 2, none⟩ = some (.int .u64 (aLo (a * c))) := oL.c 2 rfl
          have cL3 : World.cell? W ⟨gL, 3, none⟩ = some (.bool (negB (a * d))) := oL.c 3 rfl
          have cL4 : World.cell? W ⟨gL, 4, none⟩ = some (.int .u64 (aHi (a * d))) := oL.c 4 rfl
          have cL5 : World.cell? W ⟨gL, 5, none⟩ = some (.int .u64 (aLo (a * d))) := oL.c 5 rfl
          have cL6 : World.cell? W ⟨gL, 6, none⟩ = some (.bool (negB (b * c))) := oL.c 6 rfl
          have cL7 : World.cell? W ⟨gL, 7, none⟩ = some (.int .u64 (aHi (b * c))) := oL.c 7 rfl
          have cL8 : World.cell? W ⟨gL, 8, none⟩ = some (.int .u64 (aLo (b * c))) := oL.c 8 rfl
          have cL9 : World.cell? W ⟨gL, 9, none⟩ = some (.bool (negB (b * d))) := oL.c 9 rfl
          have cL10 : World.cell? W ⟨gL, 10, none⟩ = some (.int .u64 (aHi (b * d))) := oL.c 10 rfl
          have cL11 : World.cell? W ⟨gL, 11, none⟩ = some (.int .u64 (aLo (b * d))) := oL.c 11 rfl
          go_step
          exact hK.out
        · rfl
        refine Reg.RC_exact _ (fun _ h => h) rfl (by intro t ht; cases ht; exact Nat.le_of_ble_eq_true rfl) rfl (fun D v W hc hj hf K hK => ?_) (Reg.RC_at (b := ⟨#[_, _, _, _, _, _, _, _, _, _, _, _, _, _, _, _, _, _, _, _, _, _, _, _, _, _, _, _, _, _, _, _, _, _, _, _, _, _, _, _, _, _, _, _, _, _, _, _, _, _, _, _, _, _, _, _, _], []⟩) rfl ?_)
        · obtain ⟨B, oL, oX, oY, oP, oQ⟩ := hj
          go_step
          refine (rless_q _ _ _ _ D2.out).mono ?_
          rintro e W' ⟨rfl, hb⟩
          have st : Steps W W' := hb
          exact hK.out _ _ Reg.any ⟨below_steps B (Nat.le_refl _) st, oL.steps st, oX.steps st, oY.steps st, oP.steps st, oQ.steps st⟩ Reg.none_ rfl
        refine Reg.RC_end (fun D v W hd hj hf => ?_)
        obtain ⟨B, oL, oX, oY, oP, oQ⟩ := hj
        clear hd hf
        refine hQ _ _ ?_
        clear hQ hops Q' ops'
        have lL := oL.lt
        have fL := oL.fr
        have cL3 := oL.c 3 rfl
        have cL4 := oL.c 4 rfl
        have cL5 := oL.c 5 rfl
        have lX := oX.lt
        have fX := oX.fr
        have cX0 := oX.c 0 rfl
        have cX1 := oX.c 1 rfl
        have cX2 := oX.c 2 rfl
        have lY := oY.lt
        have fY := oY.fr
        have cY0 := oY.c 0 rfl
        have cY1 := oY.c 1 rfl
        have cY2 := oY.c 2 rfl
        go_wp2_with fail
        go_roundw
        case rel =>
          refine ⟨2, by omega, rfl, ?_, ?_, ?_, ?_, ?_, ?_⟩
          · exact Blk.far' (Blk.far' (Blk.far' oL sLY2) sLY2) sLY2
          · show Blk _ gX 77 #[.bool (negB (mn (a * c) (a * d))), .int .u64 (aHi (mn (a * c) (a * d))), .int .u64 (aLo (mn (a * c) (a * d)))]
            rw [E1.out]
            exact Blk.far' (Blk.far' (Blk.far' oX nXY) nXY) nXY
          · show Blk _ gY 77 #[.bool (negB (mx (a * c) (a * d))), .int .u64 (aHi (mx (a * c) (a * d))), .int .u64 (aLo (mx (a * c) (a * d)))]
            rw [E2.out]
            exact Blk.set_ (Blk.set_ (Blk.set_ oY 0 _) 1 _) 2 _
          · exact Blk.far' (Blk.far' (Blk.far' oP sPY) sPY) sPY
          · exact Blk.far' (Blk.far' (Blk.far' oQ sQY) sQY) sQY
          · (repeat' first | with_reducible assumption | with_reducible exact Below.refl _ _ | with_reducible refine Below.alloc ?_ ?_ _ | with_reducible refine Below.drew ?_ | with_reducible refine belowN ?_ _ | with_reducible refine Below.setCell ?_ ?_ _ | go_size)
        case measure => simp [intOf] <;> omega
      · have D1 : Hid (decide (a * d < a * c) = true) := by show decide _ = _; simp <;> omega
        have D2 : Hid (decide (a * c < a * d) = false) := by show decide _ = _; simp <;> omega
        have E1 : Hid (mn (a * c) (a * d) = a * d) := mn_lt h1
        have E2 : Hid (mx (a * c) (a * d) = a * c) := mx_ge h2
        clear h1 h2
        go_wp2_with fail
        refine Reg.wp_chain (fun D v W => Below w.heap.size w W ∧ Blk W (gL) 109 #[.bool (negB (a * c)), .int .u64 (aHi (a * c)), .int .u64 (aLo (a * c)), .bool (negB (a * d)), .int .u64 (aHi (a * d)), .int .u64 (aLo (a * d)), .bool (negB (b * c)), .int .u64 (aHi (b * c)), .int .u64 (aLo (b * c)), .bool (negB (b * d)), .int .u64 (aHi (b * d)), .int .u64 (aLo (b * d))] ∧ Blk W (gX) 77 #[.bool (negB (a * c)), .int .u64 (aHi (a * c)), .int .u64 (aLo (a * c))] ∧ Blk W (gY) 77 #[.bool (negB (a * c)), .int .u64 (aHi (a * c)), .int .u64 (aLo (a * c))] ∧ Blk W (w.heap.size + 1 + 1) 77 #[.bool false, .int .u64 0, .int .u64 0] ∧ Blk W (w.heap.size + 1 + 1 + 1) 77 #[.bool false, .int .u64 0, .int .u64 0])
          (Reg.inl [4]) (Reg.ge [(4, .bool true)]) Reg.None_ (fun _ => Reg.Any) (fun _ _ => False) (Reg.pl []) (Reg.pl [])
          (by kernel_rfl) (by kernel_rfl) (by kernel_rfl) (Reg.ge_some _) (fun v => ?_) (fun _ _ _ _ _ h => h) (fun _ _ _ _ _ _ _ _ _ _ _ _ _ => Reg.none_) (fun _ _ _ _ h => h.elim) (fun ops' Q' hops hQ => ?_)
        · exact ⟨(by first | with_reducible exact Below.drew B | with_reducible exact Below.drew (belowN B _) | (repeat' first | with_reducible assumption | with_reducible exact Below.refl _ _ | with_reducible refine Below.alloc ?_ ?_ _ | with_reducible refine Below.drew ?_ | with_reducible refine belowN ?_ _ | with_reducible refine Below.setCell ?_ ?_ _ | go_size)), (show Blk _ _ _ #[.bool (negB (a * c)), .int .u64 (aHi (a * c)), .int .u64 (aLo (a * c)), .bool (negB (a * d)), .int .u64 (aHi (a * d)), .int .u64 (aLo (a * d)), .bool (negB (b * c)), .int .u64 (aHi (b * c)), .int .u64 (aLo (b * c)), .bool (negB (b * d)), .int .u64 (aHi (b * d)), .int .u64 (aLo (b * d))] from (by first | with_reducible exact oL | (repeat' first | with_reducible assumption | (with_reducible refine Blk.new' ?_; first | with_reducible rfl | (simp only [World.size_alloc, World.size_setCell, World.size_drew]; done)) | with_reducible refine Blk.alloc ?_ _ | with_reducible refine Blk.drew ?_ | with_reducible refine Blk.drewN ?_ _ | with_reducible apply Blk.both | with_reducible refine Blk.far' ?_ ?_ | (show _ ≠ _; omega)))), (show Blk _ _ _ #[.bool (negB (a * c)), .int .u64 (aHi (a * c)), .int .u64 (aLo (a * c))] from (by first | with_reducible exact oX | (repeat' first | with_reducible assumption | (with_reducible refine Blk.new' ?_; first | with_reducible rfl | (simp only [World.size_alloc, World.size_setCell, World.size_drew]; done)) | with_reducible refine Blk.alloc ?_ _ | with_reducible refine Blk.drew ?_ | with_reducible refine Blk.drewN ?_ _ | with_reducible apply Blk.both | with_reducible refine Blk.far' ?_ ?_ | (show _ ≠ _; omega)))), (show Blk _ _ _ #[.bool (negB (a * c)), .int .u64 (aHi (a * c)), .int .u64 (aLo (a * c))] from (by first | with_reducible exact oY | (repeat' first | with_reducible assumption | (with_reducible refine Blk.new' ?_; first | with_reducible rfl | (simp only [World.size_alloc, World.size_setCell, World.size_drew]; done)) | with_reducible refine Blk.alloc ?_ _ | with_reducible refine Blk.drew ?_ | with_reducible refine Blk.drewN ?_ _ | with_reducible apply Blk.both | with_reducible refine Blk.far' ?_ ?_ | (show _ ≠ _; omega)))), (show Blk _ _ _ #[.bool false, .int .u64 0, .int .u64 0] from (by first | with_reducible exact oP | (repeat' first | with_reducible assumption | (with_reducible refine Blk.new' ?_; first | with_reducible rfl | (simp only [World.size_alloc, World.size_setCell, World.size_drew]; done)) | with_reducible refine Blk.alloc ?_ _ | with_reducible refine Blk.drew ?_ | with_reducible refine Blk.drewN ?_ _ | with_reducible apply Blk.both | with_reducible refine Blk.far' ?_ ?_ | (show _ ≠ _; omega)))), (show Blk _ _ _ #[.bool false, .int .u64 0, .int .u64 0] from (by first | with_reducible exact oQ | (repeat' first | with_reducible assumption | (with_reducible refine Blk.new' ?_; first | with_reducible rfl | (simp only [World.size_alloc, World.size_setCell, World.size_drew]; done)) | with_reducible refine Blk.alloc ?_ _ | with_reducible refine Blk.drew ?_ | with_reducible refine Blk.drewN ?_ _ | with_reducible apply Blk.both | with_reducible refine Blk.far' ?_ ?_ | (show _ ≠ _; omega))))⟩
        clear B oL oX oY oP oQ
        apply Reg.RC_pure (hc := rfl) (hst := rfl) (hw := rfl) (t := 39) (hd := rfl) (ht := Nat.le_of_ble_eq_true rfl)
        · intro D v W hc hj hf K hK
          go_step
          exact hK.out
        · rfl
        apply Reg.RC_pure (hc := rfl) (hst := rfl) (hw := rfl) (t := 40) (hd := rfl) (ht := Nat.le_of_ble_eq_true rfl)
        · intro D v W hc hj hf K hK
          go_step
          exact hK.out
        · rfl
        apply Reg.RC_pure (hc := rfl) (hst := rfl) (hw := rfl) (t := 41) (hd := rfl) (ht := Nat.le_of_ble_eq_true rfl)
        · intro D v W hc hj hf K hK
          obtain ⟨B, oL, oX, oY, oP, oQ⟩ := hj
          have cL0 : World.cell? W ⟨gL, 0, none⟩ = some (.bool (negB (a * c))) := oL.c 0 rfl
          have cL1 : World.cell? W ⟨gL, 1, none⟩ = some (.int .u64 (aHi (a * c))) := oL.c 1 rfl
          have cL2 : World.cell? W ⟨gL, 2, none⟩ = some (.int .u64 (aLo (a * c))) := oL.c 2 rfl
          have cL3 : World.cell? W ⟨gL, 3, none⟩ = some (.bool (negB (a * d))) := oL.c 3 rfl
          have cL4 : World.cell? W ⟨gL, 4, none⟩ = some (.int .u64 (aHi (a * d))) := oL.c 4 rfl
          have cL5 : World.cell? W ⟨gL, 5, none⟩ = some (.int .u64 (aLo (a * d))) := oL.c 5 rfl
          have cL6 : World.cell? W ⟨gL, 6, none⟩ = some (.bool (negB (b * c))) := oL.c 6 rfl
          have cL7 : World.cell? W ⟨gL, 7, none⟩ = some (.int .u64 (aHi (b * c))) := oL.c 7 rfl
          have cL8 : World.cell? W ⟨gL, 8, none⟩ = some (.int .u64 (aLo (b * c))) := oL.c 8 rfl
          have cL9 : World.cell? W ⟨gL, 9, none⟩ = some (.bool (negB (b * d))) := oL.c 9 rfl
          have cL10 : World.cell? W ⟨gL, 10, none⟩ = some (.int .u64 (aHi (b * d))) := oL.c 10 rfl
          have cL11 : World.cell? W ⟨gL, 11, none⟩ = some (.int .u64 (aLo (b * d))) := oL.c 11 rfl
          go_step
          exact hK.out
        · rfl
        apply Reg.RC_pure (hc := rfl) (hst := rfl) (hw := rfl) (t := 42) (hd := rfl) (ht := Nat.le_of_ble_eq_true rfl)
        · intro D v W hc hj hf K hK
          obtain ⟨B, oL, oX, oY, oP, oQ⟩ := hj
          have cX0 : World.cell? W ⟨gX, 0, none⟩ = some (.bool (negB (a * c))) := oX.c 0 rfl
          have cX1 : World.cell? W ⟨gX, 1, none⟩ = some (.int .u64 (aHi (a * c))) := oX.c 1 rfl
          have cX2 : World.cell? W ⟨gX, 2, none⟩ = some (.int .u64 (aLo (a * c))) := oX.c 2 rfl
          go_step
          exact hK.out
        · rfl
        refine Reg.RC_exact _ (fun _ h => h) rfl (by intro t ht; cases ht; exact Nat.le_of_ble_eq_true rfl) rfl (fun D v W hc hj hf K hK => ?_) (Reg.RC_at (b := ⟨#[_, _, _, _, _, _, _, _, _, _, _, _, _, _, _, _, _, _, _, _, _, _, _, _, _, _, _, _, _, _, _, _, _, _, _, _, _, _, _, _, _, _, _, _, _, _, _, _, _, _, _, _, _, _, _, _, _], []⟩) rfl ?_)
        · obtain ⟨B, oL, oX, oY, oP, oQ⟩ := hj
          go_step
          refine (rless_q _ _ _ _ D1.out).mono ?_
          rintro e W' ⟨rfl, hb⟩
          have st : Steps W W' := hb
          exact hK.out _ _ Reg.any ⟨below_steps B (Nat.le_refl _) st, oL.steps st, oX.steps st, oY.steps st, oP.steps st, oQ.steps st⟩ Reg.none_ rfl
        refine Reg.RC_end (fun D v W hd hj hf => ?_)
        obtain ⟨B, oL, oX, oY, oP, oQ⟩ := hj
        clear hd hf
        refine hQ _ _ ?_
        clear hQ hops Q' ops'
        have lL := oL.lt
        have fL := oL.fr
        have cL3 := oL.c 3 rfl
        have cL4 := oL.c 4 rfl
        have cL5 := oL.c 5 rfl
        have lX := oX.lt
        have fX := oX.fr
        have cX0 := oX.c 0 rfl
        have cX1 := oX.c 1 rfl
        have cX2 := oX.c 2 rfl
        have lY := oY.lt
        have fY := oY.fr
        have cY0 := oY.c 0 rfl
        have cY1 := oY.c 1 rfl
        have cY2 := oY.c 2 rfl
        go_wp2_with fail
        clear lL lX lY fL fX fY cL3 cL4 cL5 cX0 cX1 cX2 cY0 cY1 cY2
        refine Reg.wp_chain (fun D v W => Below w.heap.size w W ∧ Blk W (gL) 109 #[.bool (negB (a * c)), .int .u64 (aHi (a * c)), .int .u64 (aLo (a * c)), .bool (negB (a * d)), .int .u64 (aHi (a * d)), .int .u64 (aLo (a * d)), .bool (negB (b * c)), .int .u64 (aHi (b * c)), .int .u64 (aLo (b * c)), .bool (negB (b * d)), .int .u64 (aHi (b * d)), .int .u64 (aLo (b * d))] ∧ Blk W (gX) 77 #[.bool (negB (a * d)), .int .u64 (aHi (a * d)), .int .u64 (aLo (a * d))] ∧ Blk W (gY) 77 #[.bool (negB (a * c)), .int .u64 (aHi (a * c)), .int .u64 (aLo (a * c))] ∧ Blk W (w.heap.size + 1 + 1) 77 #[.bool false, .int .u64 0, .int .u64 0] ∧ Blk W (w.heap.size + 1 + 1 + 1) 77 #[.bool false, .int .u64 0, .int .u64 0])
          (Reg.inl [4]) (Reg.ge [(4, .bool false)]) Reg.None_ (fun _ => Reg.Any) (fun _ _ => False) (Reg.pl []) (Reg.pl [])
          (by kernel_rfl) (by kernel_rfl) (by kernel_rfl) (Reg.ge_some _) (fun v => ?_) (fun _ _ _ _ _ h => h) (fun _ _ _ _ _ _ _ _ _ _ _ _ _ => Reg.none_) (fun _ _ _ _ h => h.elim) (fun ops' Q' hops hQ => ?_)
        · exact ⟨(by first | with_reducible exact Below.drew B | with_reducible exact Below.drew (belowN B _) | (repeat' first | with_reducible assumption | with_reducible exact Below.refl _ _ | with_reducible refine Below.alloc ?_ ?_ _ | with_reducible refine Below.drew ?_ | with_reducible refine belowN ?_ _ | with_reducible refine Below.setCell ?_ ?_ _ | go_size)), (show Blk _ _ _ #[.bool (negB (a * c)), .int .u64 (aHi (a * c)), .int .u64 (aLo (a * c)), .bool (negB (a * d)), .int .u64 (aHi (a * d)), .int .u64 (aLo (a * d)), .bool (negB (b * c)), .int .u64 (aHi (b * c)), .int .u64 (aLo (b * c)), .bool (negB (b * d)), .int .u64 (aHi (b * d)), .int .u64 (aLo (b * d))] from (by first | with_reducible exact oL | (repeat' first | with_reducible assumption | (with_reducible refine Blk.new' ?_; first | with_reducible rfl | (simp only [World.size_alloc, World.size_setCell, World.size_drew]; done)) | with_reducible refine Blk.alloc ?_ _ | with_reducible refine Blk.drew ?_ | with_reducible refine Blk.drewN ?_ _ | with_reducible apply Blk.both | with_reducible refine Blk.far' ?_ ?_ | (show _ ≠ _; omega)))), (show Blk _ _ _ #[.bool (negB (a * d)), .int .u64 (aHi (a * d)), .int .u64 (aLo (a * d))] from (Blk.set_ (Blk.set_ (Blk.set_ oX 0 _) 1 _) 2 _)), (show Blk _ _ _ #[.bool (negB (a * c)), .int .u64 (aHi (a * c)), .int .u64 (aLo (a * c))] from (by first | with_reducible exact oY | (repeat' first | with_reducible assumption | (with_reducible refine Blk.new' ?_; first | with_reducible rfl | (simp only [World.size_alloc, World.size_setCell, World.size_drew]; done)) | with_reducible refine Blk.alloc ?_ _ | with_reducible refine Blk.drew ?_ | with_reducible refine Blk.drewN ?_ _ | with_reducible apply Blk.both | with_reducible refine Blk.far' ?_ ?_ | (show _ ≠ _; omega)))), (show Blk _ _ _ #[.bool false, .int .u64 0, .int .u64 0] from (by first | with_reducible exact oP | (repeat' first | with_reducible assumption | (with_reducible refine Blk.new' ?_; first | with_reducible rfl | (simp only [World.size_alloc, World.size_setCell, World.size_drew]; done)) | with_reducible refine Blk.alloc ?_ _ | with_reducible refine Blk.drew ?_ | with_reducible refine Blk.drewN ?_ _ | with_reducible apply Blk.both | with_reducible refine Blk.far' ?_ ?_ | (show _ ≠ _; omega)))), (show Blk _ _ _ #[.bool false, .int .u64 0, .int .u64 0] from (by first | with_reducible exact oQ | (repeat' first | with_reducible assumption | (with_reducible refine Blk.new' ?_; first | with_reducible rfl | (simp only [World.size_alloc, World.size_setCell, World.size_drew]; done)) | with_reducible refine Blk.alloc ?_ _ | with_reducible refine Blk.drew ?_ | with_reducible refine Blk.drewN ?_ _ | with_reducible apply Blk.both | with_reducible refine Blk.far' ?_ ?_ | (show _ ≠ _; omega))))⟩
        clear B oL oX oY oP oQ
        apply Reg.RC_pure (hc := rfl) (hst := rfl) (hw := rfl) (t := 47) (hd := rfl) (ht := Nat.le_of_ble_eq_true rfl)
        · intro D v W hc hj hf K hK
          obtain ⟨B, oL, oX, oY, oP, oQ⟩ := hj
          have cY0 : World.cell? W ⟨gY, 0, none⟩ = some (.bool (negB (a * c))) := oY.c 0 rfl
          have cY1 : World.cell? W ⟨gY, 1, none⟩ = some (.int .u64 (aHi (a * c))) := oY.c 1 rfl
          have cY2 : World.cell? W ⟨gY, 2, none⟩ = some (.int .u64 (aLo (a * c))) := oY.c 2 rfl
          go_step
          exact hK.out
        · rfl
        apply Reg.RC_pure (hc := rfl) (hst := rfl) (hw := rfl) (t := 48) (hd := rfl) (ht := Nat.le_of_ble_eq_true rfl)
        · intro D v W hc hj hf K hK
          go_step
          exact hK.out
        · rfl
        apply Reg.RC_pure (hc := rfl) (hst := rfl) (hw := rfl) (t := 49) (hd := rfl) (ht := Nat.le_of_ble_eq_true rfl)
        · intro D v W hc hj hf K hK
          go_step
          exact hK.out
        · rfl
        apply Reg.RC_pure (hc := rfl) (hst := rfl) (hw := rfl) (t := 50) (hd := rfl) (ht := Nat.le_of_ble_eq_true rfl)
        · intro D v W hc hj hf K hK
          obtain ⟨B, oL, oX, oY, oP, oQ⟩ := hj
          have cL0 : World.cell? W ⟨gL, 0, none⟩ = some (.bool (negB (a * c))) := oL.c 0 rfl
          have cL1 : World.cell? W ⟨gL, 1, none⟩ = some (.int .u64 (aHi (a * c))) := oL.c 1 rfl
          have cL2 : World.cell? W ⟨gL, 2, none⟩ = some (.int .u64 (aLo (a * c))) := oL.c 2 rfl
          have cL3 : World.cell? W ⟨gL, 3, none⟩ = some (.bool (negB (a * d))) := oL.c 3 rfl
          have cL4 : World.cell? W ⟨gL, 4, none⟩ = some (.int .u64 (aHi (a * d))) := oL.c 4 rfl
          have cL5 : World.cell? W ⟨gL, 5, none⟩ = some (.int .u64 (aLo (a * d))) := oL.c 5 rfl
          have cL6 : World.cell? W ⟨gL, 6, none⟩ = some (.bool (negB (b * c))) := oL.c 6 rfl
          have cL7 : World.cell? W ⟨gL, 7, none⟩ = some (.int .u64 (aHi (b * c))) := oL.c 7 rfl
          have cL8 : World.cell? W ⟨gL, 8, none⟩ = some (.int .u64 (aLo (b * c))) := oL.c 8 rfl
          have cL9 : World.cell? W ⟨gL, 9, none⟩ = some (.bool (negB (b * d))) := oL.c 9 rfl
          have cL10 : World.cell? W ⟨gL, 10, none⟩ = some (.int .u64 (aHi (b * d))) := oL.c 10 rfl
          have cL11 : World.cell? W ⟨gL, 11, none⟩ = some (.int .u64 (aLo (b * d))) := oL.c 11 rfl
          go_step
          exact hK.out
        · rfl
        refine Reg.RC_exact _ (fun _ h => h) rfl (by intro t ht; cases ht; exact Nat.le_of_ble_eq_true rfl) rfl (fun D v W hc hj hf K hK => ?_) (Reg.RC_at (b := ⟨#[_, _, _, _, _, _, _, _, _, _, _, _, _, _, _, _, _, _, _, _, _, _, _, _, _, _, _, _, _, _, _, _, _, _, _, _, _, _, _, _, _, _, _, _, _, _, _, _, _, _, _, _, _, _, _, _, _], []⟩) rfl ?_)
        · obtain ⟨B, oL, oX, oY, oP, oQ⟩ := hj
          go_step
          refine (rless_q _ _ _ _ D2.out).mono ?_
          rintro e W' ⟨rfl, hb⟩
          have st : Steps W W' := hb
          exact hK.out _ _ Reg.any ⟨below_steps B (Nat.le_refl _) st, oL.steps st, oX.steps st, oY.steps st, oP.steps st, oQ.steps st⟩ Reg.none_ rfl
        refine Reg.RC_end (fun D v W hd hj hf => ?_)
        obtain ⟨B, oL, oX, oY, oP, oQ⟩ := hj
        clear hd hf
        refine hQ _ _ ?_
        clear hQ hops Q' ops'
        have lL := oL.lt
        have fL := oL.fr
        have cL3 := oL.c 3 rfl
        have cL4 := oL.c 4 rfl
        have cL5 := oL.c 5 rfl
        have lX := oX.lt
        have fX := oX.fr
        have cX0 := oX.c 0 rfl
        have cX1 := oX.c 1 rfl
        have cX2 := oX.c 2 rfl
        have lY := oY.lt
        have fY := oY.fr
        have cY0 := oY.c 0 rfl
        have cY1 := oY.c 1 rfl
        have cY2 := oY.c 2 rfl
        go_wp2_with fail
        go_roundw
        case rel =>
          refine ⟨2, by omega, rfl, ?_, ?_, ?_, ?_, ?_, ?_⟩
          · exact oL
          · show Blk _ gX 77 #[.bool (negB (mn (a * c) (a * d))), .int .u64 (aHi (mn (a * c) (a * d))), .int .u64 (aLo (mn (a * c) (a * d)))]
            rw [E1.out]
            exact oX
          · show Blk _ gY 77 #[.bool (negB (mx (a * c) (a * d))), .int .u64 (aHi (mx (a * c) (a * d))), .int .u64 (aLo (mx (a * c) (a * d)))]
            rw [E2.out]
            exact oY
          · exact oP
          · exact oQ
          · (repeat' first | with_reducible assumption | with_reducible exact Below.refl _ _ | with_reducible refine Below.alloc ?_ ?_ _ | with_reducible refine Below.drew ?_ | with_reducible refine belowN ?_ _ | with_reducible refine Below.setCell ?_ ?_ _ | go_size)
        case measure => simp [intOf] <;> omega
      · have D1 : Hid (decide (a * d < a * c) = false) := by show decide _ = _; simp <;> omega
        have D2 : Hid (decide (a * c < a * d) = true) := by show decide _ = _; simp <;> omega
        have E1 : Hid (mn (a * c) (a * d) = a * c) := mn_ge h1
        have E2 : Hid (mx (a * c) (a * d) = a * d) := mx_lt h2
        clear h1 h2
        go_wp2_with fail
        refine Reg.wp_chain (fun D v W => Below w.heap.size w W ∧ Blk W (gL) 109 #[.bool (negB (a * c)), .int .u64 (aHi (a * c)), .int .u64 (aLo (a * c)), .bool (negB (a * d)), .int .u64 (aHi (a * d)), .int .u64 (aLo (a * d)), .bool (negB (b * c)), .int .u64 (aHi (b * c)), .int .u64 (aLo (b * c)), .bool (negB (b * d)), .int .u64 (aHi (b * d)), .int .u64 (aLo (b * d))] ∧ Blk W (gX) 77 #[.bool (negB (a * c)), .int .u64 (aHi (a * c)), .int .u64 (aLo (a * c))] ∧ Blk W (gY) 77 #[.bool (negB (a * c)), .int .u64 (aHi (a * c)), .int .u64 (aLo (a * c))] ∧ Blk W (w.heap.size + 1 + 1) 77 #[.bool false, .int .u64 0, .int .u64 0] ∧ Blk W (w.heap.size + 1 + 1 + 1) 77 #[.bool false, .int .u64 0, .int .u64 0])
          (Reg.inl [4]) (Reg.ge [(4, .bool false)]) Reg.None_ (fun _ => Reg.Any) (fun _ _ => False) (Reg.pl []) (Reg.pl [])
          (by kernel_rfl) (by kernel_rfl) (by kernel_rfl) (Reg.ge_some _) (fun v => ?_) (fun _ _ _ _ _ h => h) (fun _ _ _ _ _ _ _ _ _ _ _ _ _ => Reg.none_) (fun _ _ _ _ h => h.elim) (fun ops' Q' hops hQ => ?_)
        · exact ⟨(by first | with_reducible exact Below.drew B | with_reducible exact Below.drew (belowN B _) | (repeat' first | with_reducible assumption | with_reducible exact Below.refl _ _ | with_reducible refine Below.alloc ?_ ?_ _ | with_reducible refine Below.drew ?_ | with_reducible refine belowN ?_ _ | with_reducible refine Below.setCell ?_ ?_ _ | go_size)), (show Blk _ _ _ #[.bool (negB (a * c)), .int .u64 (aHi (a * c)), .int .u64 (aLo (a * c)), .bool (negB (a * d)), .int .u64 (aHi (a * d)), .int .u64 (aLo (a * d)), .bool (negB (b * c)), .int .u64 (aHi (b * c)), .int .u64 (aLo (b * c)), .bool (negB (b * d)), .int .u64 (aHi (b * d)), .int .u64 (aLo (b * d))] from (by first | with_reducible exact oL | (repeat' first | with_reducible assumption | (with_reducible refine Blk.new' ?_; first | with_reducible rfl | (simp only [World.size_alloc, World.size_setCell, World.size_drew]; done)) | with_reducible refine Blk.alloc ?_ _ | with_reducible refine Blk.drew ?_ | with_reducible refine Blk.drewN ?_ _ | with_reducible apply Blk.both | with_reducible refine Blk.far' ?_ ?_ | (show _ ≠ _; omega)))), (show Blk _ _ _ #[.bool (negB (a * c)), .int .u64 (aHi (a * c)), .int .u64 (aLo (a * c))] from (by first | with_reducible exact oX | (repeat' first | with_reducible assumption | (with_reducible refine Blk.new' ?_; first | with_reducible rfl | (simp only [World.size_alloc, World.size_setCell, World.size_drew]; done)) | with_reducible refine Blk.alloc ?_ _ | with_reducible refine Blk.drew ?_ | with_reducible refine Blk.drewN ?_ _ | with_reducible apply Blk.both | with_reducible refine Blk.far' ?_ ?_ | (show _ ≠ _; omega)))), (show Blk _ _ _ #[.bool (negB (a * c)), .int .u64 (aHi (a * c)), .int .u64 (aLo (a * c))] from (by first | with_reducible exact oY | (repeat' first | with_reducible assumption | (with_reducible refine Blk.new' ?_; first | with_reducible rfl | (simp only [World.size_alloc, World.size_setCell, World.size_drew]; done)) | with_reducible refine Blk.alloc ?_ _ | with_reducible refine Blk.drew ?_ | with_reducible refine Blk.drewN ?_ _ | with_reducible apply Blk.both | with_reducible refine Blk.far' ?_ ?_ | (show _ ≠ _; omega)))), (show Blk _ _ _ #[.bool false, .int .u64 0, .int .u64 0] from (by first | with_reducible exact oP | (repeat' first | with_reducible assumption | (with_reducible refine Blk.new' ?_; first | with_reducible rfl | (simp only [World.size_alloc, World.size_setCell, World.size_drew]; done)) | with_reducible refine Blk.alloc ?_ _ | with_reducible refine Blk.drew ?_ | with_reducible refine Blk.drewN ?_ _ | with_reducible apply Blk.both | with_reducible refine Blk.far' ?_ ?_ | (show _ ≠ _; omega)))), (show Blk _ _ _ #[.bool false, .int .u64 0, .int .u64 0] from (by first | with_reducible exact oQ | (repeat' first | with_reducible assumption | (with_reducible refine Blk.new' ?_; first | with_reducible rfl | (simp only [World.size_alloc, World.size_setCell, World.size_drew]; done)) | with_reducible refine Blk.alloc ?_ _ | with_reducible refine Blk.drew ?_ | with_reducible refine Blk.drewN ?_ _ | with_reducible apply Blk.both | with_reducible refine Blk.far' ?_ ?_ | (show _ ≠ _; omega))))⟩
        clear B oL oX oY oP oQ
        apply Reg.RC_pure (hc := rfl) (hst := rfl) (hw := rfl) (t := 39) (hd := rfl) (ht := Nat.le_of_ble_eq_true rfl)
        · intro D v W hc hj hf K hK
          go_step
          exact hK.out
        · rfl
        apply Reg.RC_pure (hc := rfl) (hst := rfl) (hw := rfl) (t := 40) (hd := rfl) (ht := Nat.le_of_ble_eq_true rfl)
        · intro D v W hc hj hf K hK
          go_step
          exact hK.out
        · rfl
        apply Reg.RC_pure (hc := rfl) (hst := rfl) (hw := rfl) (t := 41) (hd := rfl) (ht := Nat.le_of_ble_eq_true rfl)
        · intro D v W hc hj hf K hK
          obtain ⟨B, oL, oX, oY, oP, oQ⟩ := hj
          have cL0 : World.cell? W ⟨gL, 0, none⟩ = some (.bool (negB (a * c))) := oL.c 0 rfl
          have cL1 : World.cell? W ⟨gL, 1, none⟩ = some (.int .u64 (aHi (a * c))) := oL.c 1 rfl
          have cL2 : World.cell? W ⟨gL, 2, none⟩ = some (.int .u64 (aLo (a * c))) := oL.c 2 rfl
          have cL3 : World.cell? W ⟨gL, 3, none⟩ = some (.bool (negB (a * d))) := oL.c 3 rfl
          have cL4 : World.cell? W ⟨gL, 4, none⟩ = some (.int .u64 (aHi (a * d))) := oL.c 4 rfl
          have cL5 : World.cell? W ⟨gL, 5, none⟩ = some (.int .u64 (aLo (a * d))) := oL.c 5 rfl
          have cL6 : World.cell? W ⟨gL, 6, none⟩ = some (.bool (negB (b * c))) := oL.c 6 rfl
          have cL7 : World.cell? W ⟨gL, 7, none⟩ = some (.int .u64 (aHi (b * c))) := oL.c 7 rfl
          have cL8 : World.cell? W ⟨gL, 8, none⟩ = some (.int .u64 (aLo (b * c))) := oL.c 8 rfl
          have cL9 : World.cell? W ⟨gL, 9, none⟩ = some (.bool (negB (b * d))) := oL.c 9 rfl
          have cL10 : World.cell? W ⟨gL, 10, none⟩ = some (.int .u64 (aHi (b * d))) := oL.c 10 rfl
          have cL11 : World.cell? W ⟨gL, 11, none⟩ = some (.int .u64 (aLo (b * d))) := oL.c 11 rfl
          go_step
          exact hK.out
        · rfl
        apply Reg.RC_pure (hc := rfl) (hst := rfl) (hw := rfl) (t := 42) (hd := rfl) (ht := Nat.le_of_ble_eq_true rfl)
        · intro D v W hc hj hf K hK
          obtain ⟨B, oL, oX, oY, oP, oQ⟩ := hj
          have cX0 : World.cell? W ⟨gX, 0, none⟩ = some (.bool (negB (a * c))) := oX.c 0 rfl
          have cX1 : World.cell? W ⟨gX, 1, none⟩ = some (.int .u64 (aHi (a * c))) := oX.c 1 rfl
          have cX2 : World.cell? W ⟨gX, 2, none⟩ = some (.int .u64 (aLo (a * c))) := oX.c 2 rfl
          go_step
          exact hK.out
        · rfl
        refine Reg.RC_exact _ (fun _ h => h) rfl (by intro t ht; cases ht; exact Nat.le_of_ble_eq_true rfl) rfl (fun D v W hc hj hf K hK => ?_) (Reg.RC_at (b := ⟨#[_, _, _, _, _, _, _, _, _, _, _, _, _, _, _, _, _, _, _, _, _, _, _, _, _, _, _, _, _, _, _, _, _, _, _, _, _, _, _, _, _, _, _, _, _, _, _, _, _, _, _, _, _, _, _, _, _], []⟩) rfl ?_)
        · obtain ⟨B, oL, oX, oY, oP, oQ⟩ := hj
          go_step
          refine (rless_q _ _ _ _ D1.out).mono ?_
          rintro e W' ⟨rfl, hb⟩
          have st : Steps W W' := hb
          exact hK.out _ _ Reg.any ⟨below_steps B (Nat.le_refl _) st, oL.steps st, oX.steps st, oY.steps st, oP.steps st, oQ.steps st⟩ Reg.none_ rfl
        refine Reg.RC_end (fun D v W hd hj hf => ?_)
        obtain ⟨B, oL, oX, oY, oP, oQ⟩ := hj
        clear hd hf
        refine hQ _ _ ?_
        clear hQ hops Q' ops'
        have lL := oL.lt
        have fL := oL.fr
        have cL3 := oL.c 3 rfl
        have cL4 := oL.c 4 rfl
        have cL5 := oL.c 5 rfl
        have lX := oX.lt
        have fX := oX.fr
        have cX0 := oX.c 0 rfl
        have cX1 := oX.c 1 rfl
        have cX2 := oX.c 2 rfl
        have lY := oY.lt
        have fY := oY.fr
        have cY0 := oY.c 0 rfl
        have cY1 := oY.c 1 rfl
        have cY2 := oY.c 2 rfl
        go_wp2_with fail
        clear lL lX lY fL fX fY cL3 cL4 cL5 cX0 cX1 cX2 cY0 cY1 cY2
        refine Reg.wp_chain (fun D v W => Below w.heap.size w W ∧ Blk W (gL) 109 #[.bool (negB (a * c)), .int .u64 (aHi (a * c)), .int .u64 (aLo (a * c)), .bool (negB (a * d)), .int .u64 (aHi (a * d)), .int .u64 (aLo (a * d)), .bool (negB (b * c)), .int .u64 (aHi (b * c)), .int .u64 (aLo (b * c)), .bool (negB (b * d)), .int .u64 (aHi (b * d)), .int .u64 (aLo (b * d))] ∧ Blk W (gX) 77 #[.bool (negB (a * c)), .int .u64 (aHi (a * c)), .int .u64 (aLo (a * c))] ∧ Blk W (gY) 77 #[.bool (negB (a * c)), .int .u64 (aHi (a * c)), .int .u64 (aLo (a * c))] ∧ Blk W (w.heap.size + 1 + 1) 77 #[.bool false, .int .u64 0, .int .u64 0] ∧ Blk W (w.heap.size + 1 + 1 + 1) 77 #[.bool false, .int .u64 0, .int .u64 0])
          (Reg.inl [4]) (Reg.ge [(4, .bool true)]) Reg.None_ (fun _ => Reg.Any) (fun _ _ => False) (Reg.pl []) (Reg.pl [])
          (by kernel_rfl) (by kernel_rfl) (by kernel_rfl) (Reg.ge_some _) (fun v => ?_) (fun _ _ _ _ _ h => h) (fun _ _ _ _ _ _ _ _ _ _ _ _ _ => Reg.none_) (fun _ _ _ _ h => h.elim) (fun ops' Q' hops hQ => ?_)
        · exact ⟨(by first | with_reducible exact Below.drew B | with_reducible exact Below.drew (belowN B _) | (repeat' first | with_reducible assumption | with_reducible exact Below.refl _ _ | with_reducible refine Below.alloc ?_ ?_ _ | with_reducible refine Below.drew ?_ | with_reducible refine belowN ?_ _ | with_reducible refine Below.setCell ?_ ?_ _ | go_size)), (show Blk _ _ _ #[.bool (negB (a * c)), .int .u64 (aHi (a * c)), .int .u64 (aLo (a * c)), .bool (negB (a * d)), .int .u64 (aHi (a * d)), .int .u64 (aLo (a * d)), .bool (negB (b * c)), .int .u64 (aHi (b * c)), .int .u64 (aLo (b * c)), .bool (negB (b * d)), .int .u64 (aHi (b * d)), .int .u64 (aLo (b * d))] from (by first | with_reducible exact oL | (repeat' first | with_reducible assumption | (with_reducible refine Blk.new' ?_; first | with_reducible rfl | (simp only [World.size_alloc, World.size_setCell, World.size_drew]; done)) | with_reducible refine Blk.alloc ?_ _ | with_reducible refine Blk.drew ?_ | with_reducible refine Blk.drewN ?_ _ | with_reducible apply Blk.both | with_reducible refine Blk.far' ?_ ?_ | (show _ ≠ _; omega)))), (show Blk _ _ _ #[.bool (negB (a * c)), .int .u64 (aHi (a * c)), .int .u64 (aLo (a * c))] from (by first | with_reducible exact oX | (repeat' first | with_reducible assumption | (with_reducible refine Blk.new' ?_; first | with_reducible rfl | (simp only [World.size_alloc, World.size_setCell, World.size_drew]; done)) | with_reducible refine Blk.alloc ?_ _ | with_reducible refine Blk.drew ?_ | with_reducible refine Blk.drewN ?_ _ | with_reducible apply Blk.both | with_reducible refine Blk.far' ?_ ?_ | (show _ ≠ _; omega)))), (show Blk _ _ _ #[.bool (negB (a * c)), .int .u64 (aHi (a * c)), .int .u64 (aLo (a * c))] from (by first | with_reducible exact oY | (repeat' first | with_reducible assumption | (with_reducible refine Blk.new' ?_; first | with_reducible rfl | (simp only [World.size_alloc, World.size_setCell, World.size_drew]; done)) | with_reducible refine Blk.alloc ?_ _ | with_reducible refine Blk.drew ?_ | with_reducible refine Blk.drewN ?_ _ | with_reducible apply Blk.both | with_reducible refine Blk.far' ?_ ?_ | (show _ ≠ _; omega)))), (show Blk _ _ _ #[.bool false, .int .u64 0, .int .u64 0] from (by first | with_reducible exact oP | (repeat' first | with_reducible assumption | (with_reducible refine Blk.new' ?_; first | with_reducible rfl | (simp only [World.size_alloc, World.size_setCell, World.size_drew]; done)) | with_reducible refine Blk.alloc ?_ _ | with_reducible refine Blk.drew ?_ | with_reducible refine Blk.drewN ?_ _ | with_reducible apply Blk.both | with_reducible refine Blk.far' ?_ ?_ | (show _ ≠ _; omega)))), (show Blk _ _ _ #[.bool false, .int .u64 0, .int .u64 0] from (by first | with_reducible exact oQ | (repeat' first | with_reducible assumption | (with_reducible refine Blk.new' ?_; first | with_reducible rfl | (simp only [World.size_alloc, World.size_setCell, World.size_drew]; done)) | with_reducible refine Blk.alloc ?_ _ | with_reducible refine Blk.drew ?_ | with_reducible refine Blk.drewN ?_ _ | with_reducible apply Blk.both | with_reducible refine Blk.far' ?_ ?_ | (show _ ≠ _; omega))))⟩
        clear B oL oX oY oP oQ
        apply Reg.RC_pure (hc := rfl) (hst := rfl) (hw := rfl) (t := 47) (hd := rfl) (ht := Nat.le_of_ble_eq_true rfl)
        · intro D v W hc hj hf K hK
          obtain ⟨B, oL, oX, oY, oP, oQ⟩ := hj
          have cY0 : World.cell? W ⟨gY, 0, none⟩ = some (.bool (negB (a * c))) := oY.c 0 rfl
          have cY1 : World.cell? W ⟨gY, 1, none⟩ = some (.int .u64 (aHi (a * c))) := oY.c 1 rfl
          have cY2 : World.cell? W ⟨gY, 2, none⟩ = some (.int .u64 (aLo (a * c))) := oY.c 2 rfl
          go_step
          exact hK.out
        · rfl
        apply Reg.RC_pure (hc := rfl) (hst := rfl) (hw := rfl) (t := 48) (hd := rfl) (ht := Nat.le_of_ble_eq_true rfl)
        · intro D v W hc hj hf K hK
          go_step
          exact hK.out
        · rfl
        apply Reg.RC_pure (hc := rfl) (hst := rfl) (hw := rfl) (t := 49) (hd := rfl) (ht := Nat.le_of_ble_eq_true rfl)
        · intro D v W hc hj hf K hK
          go_step
          exact hK.out
        · rfl
        apply Reg.RC_pure (hc := rfl) (hst := rfl) (hw := rfl) (t := 50) (hd := rfl) (ht := Nat.le_of_ble_eq_true rfl)
        · intro D v W hc hj hf K hK
          obtain ⟨B, oL, oX, oY, oP, oQ⟩ := hj
          have cL0 : World.cell? W ⟨gL, 0, none⟩ = some (.bool (negB (a * c))) := oL.c 0 rfl
          have cL1 : World.cell? W ⟨gL, 1, none⟩ = some (.int .u64 (aHi (a * c))) := oL.c 1 rfl
          have cL2 : World.cell? W ⟨gL, 2, none⟩ = some (.int .u64 (aLo (a * c))) := oL.c 2 rfl
          have cL3 : World.cell? W ⟨gL, 3, none⟩ = some (.bool (negB (a * d))) := oL.c 3 rfl
          have cL4 : World.cell? W ⟨gL, 4, none⟩ = some (.int .u64 (aHi (a * d))) := oL.c 4 rfl
          have cL5 : World.cell? W ⟨gL, 5, none⟩ = some (.int .u64 (aLo (a * d))) := oL.c 5 rfl
          have cL6 : World.cell? W ⟨gL, 6, none⟩ = some (.bool (negB (b * c))) := oL.c 6 rfl
          have cL7 : World.cell? W ⟨gL, 7, none⟩ = some (.int .u64 (aHi (b * c))) := oL.c 7 rfl
          have cL8 : World.cell? W ⟨gL, 8, none⟩ = some (.int .u64 (aLo (b * c))) := oL.c 8 rfl
          have cL9 : World.cell? W ⟨gL, 9, none⟩ = some (.bool (negB (b * d))) := oL.c 9 rfl
          have cL10 : World.cell? W ⟨gL, 10, none⟩ = some (.int .u64 (aHi (b * d))) := oL.c 10 rfl
          have cL11 : World.cell? W ⟨gL, 11, none⟩ = some (.int .u64 (aLo (b * d))) := oL.c 11 rfl
          go_step
          exact hK.out
        · rfl
        refine Reg.RC_exact _ (fun _ h => h) rfl (by intro t ht; cases ht; exact Nat.le_of_ble_eq_true rfl) rfl (fun D v W hc hj hf K hK => ?_) (Reg.RC_at (b := ⟨#[_, _, _, _, _, _, _, _, _, _, _, _, _, _, _, _, _, _, _, _, _, _, _, _, _, _, _, _, _, _, _, _, _, _, _, _, _, _, _, _, _, _, _, _, _, _, _, _, _, _, _, _, _, _, _, _, _], []⟩) rfl ?_)
        · obtain ⟨B, oL, oX, oY, oP, oQ⟩ := hj
          go_step
          refine (rless_q _ _ _ _ D2.out).mono ?_
          rintro e W' ⟨rfl, hb⟩
          have st : Steps W W' := hb
          exact hK.out _ _ Reg.any ⟨below_steps B (Nat.le_refl _) st, oL.steps st, oX.steps st, oY.steps st, oP.steps st, oQ.steps st⟩ Reg.none_ rfl
        refine Reg.RC_end (fun D v W hd hj hf => ?_)
        obtain ⟨B, oL, oX, oY, oP, oQ⟩ := hj
        clear hd hf
        refine hQ _ _ ?_
        clear hQ hops Q' ops'
        have lL := oL.lt
        have fL := oL.fr
        have cL3 := oL.c 3 rfl
        have cL4 := oL.c 4 rfl
        have cL5 := oL.c 5 rfl
        have lX := oX.lt
        have fX := oX.fr
        have cX0 := oX.c 0 rfl
        have cX1 := oX.c 1 rfl
        have cX2 := oX.c 2 rfl
        have lY := oY.lt
        have fY := oY.fr
        have cY0 := oY.c 0 rfl
        have cY1 := oY.c 1 rfl
        have cY2 := oY.c 2 rfl
        go_wp2_with fail
        go_roundw
        case rel =>
          refine ⟨2, by omega, rfl, ?_, ?_, ?_, ?_, ?_, ?_⟩
          · exact Blk.far' (Blk.far' (Blk.far' oL sLY2) sLY2) sLY2
          · show Blk _ gX 77 #[.bool (negB (mn (a * c) (a * d))), .int .u64 (aHi (mn (a * c) (a * d))), .int .u64 (aLo (mn (a * c) (a * d)))]
            rw [E1.out]
            exact Blk.far' (Blk.far' (Blk.far' oX nXY) nXY) nXY
          · show Blk _ gY 77 #[.bool (negB (mx (a * c) (a * d))), .int .u64 (aHi (mx (a * c) (a * d))), .int .u64 (aLo (mx (a * c) (a * d)))]
            rw [E2.out]
            exact Blk.set_ (Blk.set_ (Blk.set_ oY 0 _) 1 _) 2 _
          · exact Blk.far' (Blk.far' (Blk.far' oP sPY) sPY) sPY
          · exact Blk.far' (Blk.far' (Blk.far' oQ sQY) sQY) sQY
          · (repeat' first | with_reducible assumption | with_reducible exact Below.refl _ _ | with_reducible refine Below.alloc ?_ ?_ _ | with_reducible refine Below.drew ?_ | with_reducible refine belowN ?_ _ | with_reducible refine Below.setCell ?_ ?_ _ | go_size)
        case measure => simp [intOf] <;> omega
      · have D1 : Hid (decide (a * d < a * c) = false) := by show decide _ = _; simp <;> omega
        have D2 : Hid (decide (a * c < a * d) = false) := by show decide _ = _; simp <;> omega
        have E1 : Hid (mn (a * c) (a * d) = a * c) := mn_ge h1
        have E2 : Hid (mx (a * c) (a * d) = a * c) := mx_ge h2
        clear h1 h2
        go_wp2_with fail
        refine Reg.wp_chain (fun D v W => Below w.heap.size w W ∧ Blk W (gL) 109 #[.bool (negB (a * c)), .int .u64 (aHi (a * c)), .int .u64 (aLo (a * c)), .bool (negB (a * d)), .int .u64 (aHi (a * d)), .int .u64 (aLo (a * d)), .bool (negB (b * c)), .int .u64 (aHi (b * c)), .int .u64 (aLo (b * c)), .bool (negB (b * d)), .int .u64 (aHi (b * d)), .int .u64 (aLo (b * d))] ∧ Blk W (gX) 77 #[.bool (negB (a * c)), .int .u64 (aHi (a * c)), .int .u64 (aLo (a * c))] ∧ Blk W (gY) 77 #[.bool (negB (a * c)), .int .u64 (aHi (a * c)), .int .u64 (aLo (a * c))] ∧ Blk W (w.heap.size + 1 + 1) 77 #[.bool false, .int .u64 0, .int .u64 0] ∧ Blk W (w.heap.size + 1 + 1 + 1) 77 #[.bool false, .int .u64 0, .int .u64 0])
          (Reg.inl [4]) (Reg.ge [(4, .bool false)]) Reg.None_ (fun _ => Reg.Any) (fun _ _ => False) (Reg.pl []) (Reg.pl [])
          (by kernel_rfl) (by kernel_rfl) (by kernel_rfl) (Reg.ge_some _) (fun v => ?_) (fun _ _ _ _ _ h => h) (fun _ _ _ _ _ _ _ _ _ _ _ _ _ => Reg.none_) (fun _ _ _ _ h => h.elim) (fun ops' Q' hops hQ => ?_)
        · exact ⟨(by first | with_reducible exact Below.drew B | with_reducible exact Below.drew (belowN B _) | (repeat' first | with_reducible assumption | with_reducible exact Below.refl _ _ | with_reducible refine Below.alloc ?_ ?_ _ | with_reducible refine Below.drew ?_ | with_reducible refine belowN ?_ _ | with_reducible refine Below.setCell ?_ ?_ _ | go_size)), (show Blk _ _ _ #[.bool (negB (a * c)), .int .u64 (aHi (a * c)), .int .u64 (aLo (a * c)), .bool (negB (a * d)), .int .u64 (aHi (a * d)), .int .u64 (aLo (a * d)), .bool (negB (b * c)), .int .u64 (aHi (b * c)), .int .u64 (aLo (b * c)), .bool (negB (b * d)), .int .u64 (aHi (b * d)), .int .u64 (aLo (b * d))] from (by first | with_reducible exact oL | (repeat' first | with_reducible assumption | (with_reducible refine Blk.new' ?_; first | with_reducible rfl | (simp only [World.size_alloc, World.size_setCell, World.size_drew]; done)) | with_reducible refine Blk.alloc ?_ _ | with_reducible refine Blk.drew ?_ | with_reducible refine Blk.drewN ?_ _ | with_reducible apply Blk.both | with_reducible refine Blk.far' ?_ ?_ | (show _ ≠ _; omega)))), (show Blk _ _ _ #[.bool (negB (a * c)), .int .u64 (aHi (a * c)), .int .u64 (aLo (a * c))] from (by first | with_reducible exact oX | (repeat' first | with_reducible assumption | (with_reducible refine Blk.new' ?_; first | with_reducible rfl | (simp only [World.size_alloc, World.size_setCell, World.size_drew]; done)) | with_reducible refine Blk.alloc ?_ _ | with_reducible refine Blk.drew ?_ | with_reducible refine Blk.drewN ?_ _ | with_reducible apply Blk.both | with_reducible refine Blk.far' ?_ ?_ | (show _ ≠ _; omega)))), (show Blk _ _ _ #[.bool (negB (a * c)), .int .u64 (aHi (a * c)), .int .u64 (aLo (a * c))] from (by first | with_reducible exact oY | (repeat' first | with_reducible assumption | (with_reducible refine Blk.new' ?_; first | with_reducible rfl | (simp only [World.size_alloc, World.size_setCell, World.size_drew]; done)) | with_reducible refine Blk.alloc ?_ _ | with_reducible refine Blk.drew ?_ | with_reducible refine Blk.drewN ?_ _ | with_reducible apply Blk.both | with_reducible refine Blk.far' ?_ ?_ | (show _ ≠ _; omega)))), (show Blk _ _ _ #[.bool false, .int .u64 0, .int .u64 0] from (by first | with_reducible exact oP | (repeat' first | with_reducible assumption | (with_reducible refine Blk.new' ?_; first | with_reducible rfl | (simp only [World.size_alloc, World.size_setCell, World.size_drew]; done)) | with_reducible refine Blk.alloc ?_ _ | with_reducible refine Blk.drew ?_ | with_reducible refine Blk.drewN ?_ _ | with_reducible apply Blk.both | with_reducible refine Blk.far' ?_ ?_ | (show _ ≠ _; omega)))), (show Blk _ _ _ #[.bool false, .int .u64 0, .int .u64 0] from (by first | with_reducible exact oQ | (repeat' first | with_reducible assumption | (with_reducible refine Blk.new' ?_; first | with_reducible rfl | (simp only [World.size_alloc, World.size_setCell, World.size_drew]; done)) | with_reducible refine Blk.alloc ?_ _ | with_reducible refine Blk.drew ?_ | with_reducible refine Blk.drewN ?_ _ | with_reducible apply Blk.both | with_reducible refine Blk.far' ?_ ?_ | (show _ ≠ _; omega))))⟩
        clear B oL oX oY oP oQ
        apply Reg.RC_pure (hc := rfl) (hst := rfl) (hw := rfl) (t := 39) (hd := rfl) (ht := Nat.le_of_ble_eq_true rfl)
        · intro D v W hc hj hf K hK
          go_step
          exact hK.out
        · rfl
        apply Reg.RC_pure (hc := rfl) (hst := rfl) (hw := rfl) (t := 40) (hd := rfl) (ht := Nat.le_of_ble_eq_true rfl)
        · intro D v W hc hj hf K hK
          go_step
          exact hK.out
        · rfl
        apply Reg.RC_pure (hc := rfl) (hst := rfl) (hw := rfl) (t := 41) (hd := rfl) (ht := Nat.le_of_ble_eq_true rfl)
        · intro D v W hc hj hf K hK
          obtain ⟨B, oL, oX, oY, oP, oQ⟩ := hj
          have cL0 : World.cell? W ⟨gL, 0, none⟩ = some (.bool (negB (a * c))) := oL.c 0 rfl
          have cL1 : World.cell? W ⟨gL, 1, none⟩ = some (.int .u64 (aHi (a * c))) := oL.c 1 rfl
          have cL2 : World.cell? W ⟨gL, 2, none⟩ = some (.int .u64 (aLo (a * c))) := oL.c 2 rfl
          have cL3 : World.cell? W ⟨gL, 3, none⟩ = some (.bool (negB (a * d))) := oL.c 3 rfl
          have cL4 : World.cell? W ⟨gL, 4, none⟩ = some (.int .u64 (aHi (a * d))) := oL.c 4 rfl
          have cL5 : World.cell? W ⟨gL, 5, none⟩ = some (.int .u64 (aLo (a * d))) := oL.c 5 rfl
          have cL6 : World.cell? W ⟨gL, 6, none⟩ = some (.bool (negB (b * c))) := oL.c 6 rfl
          have cL7 : World.cell? W ⟨gL, 7, none⟩ = some (.int .u64 (aHi (b * c))) := oL.c 7 rfl
          have cL8 : World.cell? W ⟨gL, 8, none⟩ = some (.int .u64 (aLo (b * c))) := oL.c 8 rfl
          have cL9 : World.cell? W ⟨gL, 9, none⟩ = some (.bool (negB (b * d))) := oL.c 9 rfl
          have cL10 : World.cell? W ⟨gL, 10, none⟩ = some (.int .u64 (aHi (b * d))) := oL.c 10 rfl
          have cL11 : World.cell? W ⟨gL, 11, none⟩ = some (.int .u64 (aLo (b * d))) := oL.c 11 rfl
          go_step
          exact hK.out
        · rfl
        apply Reg.RC_pure (hc := rfl) (hst := rfl) (hw := rfl) (t := 42) (hd := rfl) (ht := Nat.le_of_ble_eq_true rfl)
        · intro D v W hc hj hf K hK
          obtain ⟨B, oL, oX, oY, oP, oQ⟩ := hj
          have cX0 : World.cell? W ⟨gX, 0, none⟩ = some (.bool (negB (a * c))) := oX.c 0 rfl
          have cX1 : World.cell? W ⟨gX, 1, none⟩ = some (.int .u64 (aHi (a * c))) := oX.c 1 rfl
          have cX2 : World.cell? W ⟨gX, 2, none⟩ = some (.int .u64 (aLo (a * c))) := oX.c 2 rfl
          go_step
          exact hK.out
        · rfl
        refine Reg.RC_exact _ (fun _ h => h) rfl (by intro t ht; cases ht; exact Nat.le_of_ble_eq_true rfl) rfl (fun D v W hc hj hf K hK => ?_) (Reg.RC_at (b := ⟨#[_, _, _, _, _, _, _, _, _, _, _, _, _, _, _, _, _, _, _, _, _, _, _, _, _, _, _, _, _, _, _, _, _, _, _, _, _, _, _, _, _, _, _, _, _, _, _, _, _, _, _, _, _, _, _, _, _], []⟩) rfl ?_)
        · obtain ⟨B, oL, oX, oY, oP, oQ⟩ := hj
          go_step
          refine (rless_q _ _ _ _ D1.out).mono ?_
          rintro e W' ⟨rfl, hb⟩
          have st : Steps W W' := hb
          exact hK.out _ _ Reg.any ⟨below_steps B (Nat.le_refl _) st, oL.steps st, oX.steps st, oY.steps st, oP.steps st, oQ.steps st⟩ Reg.none_ rfl
        refine Reg.RC_end (fun D v W hd hj hf => ?_)
        obtain ⟨B, oL, oX, oY, oP, oQ⟩ := hj
        clear hd hf
        refine hQ _ _ ?_
        clear hQ hops Q' ops'
        have lL := oL.lt
        have fL := oL.fr
        have cL3 := oL.c 3 rfl
        have cL4 := oL.c 4 rfl
        have cL5 := oL.c 5 rfl
        have lX := oX.lt
        have fX := oX.fr
        have cX0 := oX.c 0 rfl
        have cX1 := oX.c 1 rfl
        have cX2 := oX.c 2 rfl
        have lY := oY.lt
        have fY := oY.fr
        have cY0 := oY.c 0 rfl
        have cY1 := oY.c 1 rfl
        have cY2 := oY.c 2 rfl
        go_wp2_with fail
        clear lL lX lY fL fX fY cL3 cL4 cL5 cX0 cX1 cX2 cY0 cY1 cY2
        refine Reg.wp_chain (fun D v W => Below w.heap.size w W ∧ Blk W (gL) 109 #[.bool (negB (a * c)), .int .u64 (aHi (a * c)), .int .u64 (aLo (a * c)), .bool (negB (a * d)), .int .u64 (aHi (a * d)), .int .u64 (aLo (a * d)), .bool (negB (b * c)), .int .u64 (aHi (b * c)), .int .u64 (aLo (b * c)), .bool (negB (b * d)), .int .u64 (aHi (b * d)), .int .u64 (aLo (b * d))] ∧ Blk W (gX) 77 #[.bool (negB (a * c)), .int .u64 (aHi (a * c)), .int .u64 (aLo (a * c))] ∧ Blk W (gY) 77 #[.bool (negB (a * c)), .int .u64 (aHi (a * c)), .int .u64 (aLo (a * c))] ∧ Blk W (w.heap.size + 1 + 1) 77 #[.bool false, .int .u64 0, .int .u64 0] ∧ Blk W (w.heap.size + 1 + 1 + 1) 77 #[.bool false, .int .u64 0, .int .u64 0])
          (Reg.inl [4]) (Reg.ge [(4, .bool false)]) Reg.None_ (fun _ => Reg.Any) (fun _ _ => False) (Reg.pl []) (Reg.pl [])
          (by kernel_rfl) (by kernel_rfl) (by kernel_rfl) (Reg.ge_some _) (fun v => ?_) (fun _ _ _ _ _ h => h) (fun _ _ _ _ _ _ _ _ _ _ _ _ _ => Reg.none_) (fun _ _ _ _ h => h.elim) (fun ops' Q' hops hQ => ?_)
        · exact ⟨(by first | with_reducible exact Below.drew B | with_reducible exact Below.drew (belowN B _) | (repeat' first | with_reducible assumption | with_reducible exact Below.refl _ _ | with_reducible refine Below.alloc ?_ ?_ _ | with_reducible refine Below.drew ?_ | with_reducible refine belowN ?_ _ | with_reducible refine Below.setCell ?_ ?_ _ | go_size)), (show Blk _ _ _ #[.bool (negB (a * c)), .int .u64 (aHi (a * c)), .int .u64 (aLo (a * c)), .bool (negB (a * d)), .int .u64 (aHi (a * d)), .int .u64 (aLo (a * d)), .bool (negB (b * c)), .int .u64 (aHi (b * c)), .int .u64 (aLo (b * c)), .bool (negB (b * d)), .int .u64 (aHi (b * d)), .int .u64 (aLo (b * d))] from (by first | with_reducible exact oL | (repeat' first | with_reducible assumption | (with_reducible refine Blk.new' ?_; first | with_reducible rfl | (simp only [World.size_alloc, World.size_setCell, World.size_drew]; done)) | with_reducible refine Blk.alloc ?_ _ | with_reducible refine Blk.drew ?_ | with_reducible refine Blk.drewN ?_ _ | with_reducible apply Blk.both | with_reducible refine Blk.far' ?_ ?_ | (show _ ≠ _; omega)))), (show Blk _ _ _ #[.bool (negB (a * c)), .int .u64 (aHi (a * c)), .int .u64 (aLo (a * c))] from (by first | with_reducible exact oX | (repeat' first | with_reducible assumption | (with_reducible refine Blk.new' ?_; first | with_reducible rfl | (simp only [World.size_alloc, World.size_setCell, World.size_drew]; done)) | with_reducible refine Blk.alloc ?_ _ | with_reducible refine Blk.drew ?_ | with_reducible refine Blk.drewN ?_ _ | with_reducible apply Blk.both | with_reducible refine Blk.far' ?_ ?_ | (show _ ≠ _; omega)))), (show Blk _ _ _ #[.bool (negB (a * c)), .int .u64 (aHi (a * c)), .int .u64 (aLo (a * c))] from (by first | with_reducible exact oY | (repeat' first | with_reducible assumption | (with_reducible refine Blk.new' ?_; first | with_reducible rfl | (simp only [World.size_alloc, World.size_setCell, World.size_drew]; done)) | with_reducible refine Blk.alloc ?_ _ | with_reducible refine Blk.drew ?_ | with_reducible refine Blk.drewN ?_ _ | with_reducible apply Blk.both | with_reducible refine Blk.far' ?_ ?_ | (show _ ≠ _; omega)))), (show Blk _ _ _ #[.bool false, .int .u64 0, .int .u64 0] from (by first | with_reducible exact oP | (repeat' first | with_reducible assumption | (with_reducible refine Blk.new' ?_; first | with_reducible rfl | (simp only [World.size_alloc, World.size_setCell, World.size_drew]; done)) | with_reducible refine Blk.alloc ?_ _ | with_reducible refine Blk.drew ?_ | with_reducible refine Blk.drewN ?_ _ | with_reducible apply Blk.both | with_reducible refine Blk.far' ?_ ?_ | (show _ ≠ _; omega)))), (show Blk _ _ _ #[.bool false, .int .u64 0, .int .u64 0] from (by first | with_reducible exact oQ | (repeat' first | with_reducible assumption | (with_reducible refine Blk.new' ?_; first | with_reducible rfl | (simp only [World.size_alloc, World.size_setCell, World.size_drew]; done)) | with_reducible refine Blk.alloc ?_ _ | with_reducible refine Blk.drew ?_ | with_reducible refine Blk.drewN ?_ _ | with_reducible apply Blk.both | with_reducible refine Blk.far' ?_ ?_ | (show _ ≠ _; omega))))⟩
        clear B oL oX oY oP oQ
        apply Reg.RC_pure (hc := rfl) (hst := rfl) (hw := rfl) (t := 47) (hd := rfl) (ht := Nat.le_of_ble_eq_true rfl)
        · intro D v W hc hj hf K hK
          obtain ⟨B, oL, oX, oY, oP, oQ⟩ := hj
          have cY0 : World.cell? W ⟨gY, 0, none⟩ = some (.bool (negB (a * c))) := oY.c 0 rfl
          have cY1 : World.cell? W ⟨gY, 1, none⟩ = some (.int .u64 (aHi (a * c))) := oY.c 1 rfl
          have cY2 : World.cell? W ⟨gY, 2, none⟩ = some (.int .u64 (aLo (a * c))) := oY.c 2 rfl
          go_step
          exact hK.out
        · rfl
        apply Reg.RC_pure (hc := rfl) (hst := rfl) (hw := rfl) (t := 48) (hd := rfl) (ht := Nat.le_of_ble_eq_true rfl)
        · intro D v W hc hj hf K hK
          go_step
          exact hK.out
        · rfl
        apply Reg.RC_pure (hc := rfl) (hst := rfl) (hw := rfl) (t := 49) (hd := rfl) (ht := Nat.le_of_ble_eq_true rfl)
        · intro D v W hc hj hf K hK
          go_step
          exact hK.out
        · rfl
        apply Reg.RC_pure (hc := rfl) (hst := rfl) (hw := rfl) (t := 50) (hd := rfl) (ht := Nat.le_of_ble_eq_true rfl)
        · intro D v W hc hj hf K hK
          obtain ⟨B, oL, oX, oY, oP, oQ⟩ := hj
          have cL0 : World.cell? W ⟨gL, 0, none⟩ = some (.bool (negB (a * c))) := oL.c 0 rfl
          have cL1 : World.cell? W ⟨gL, 1, none⟩ = some (.int .u64 (aHi (a * c))) := oL.c 1 rfl
          have cL2 : World.cell? W ⟨gL, 2, none⟩ = some (.int .u64 (aLo (a * c))) := oL.c 2 rfl
          have cL3 : World.cell? W ⟨gL, 3, none⟩ = some (.bool (negB (a * d))) := oL.c 3 rfl
          have cL4 : World.cell? W ⟨gL, 4, none⟩ = some (.int .u64 (aHi (a * d))) := oL.c 4 rfl
          have cL5 : World.cell? W ⟨gL, 5, none⟩ = some (.int .u64 (aLo (a * d))) := oL.c 5 rfl
          have cL6 : World.cell? W ⟨gL, 6, none⟩ = some (.bool (negB (b * c))) := oL.c 6 rfl
          have cL7 : World.cell? W ⟨gL, 7, none⟩ = some (.int .u64 (aHi (b * c))) := oL.c 7 rfl
          have cL8 : World.cell? W ⟨gL, 8, none⟩ = some (.int .u64 (aLo (b * c))) := oL.c 8 rfl
          have cL9 : World.cell? W ⟨gL, 9, none⟩ = some (.bool (negB (b * d))) := oL.c 9 rfl
          have cL10 : World.cell? W ⟨gL, 10, none⟩ = some (.int .u64 (aHi (b * d))) := oL.c 10 rfl
          have cL11 : World.cell? W ⟨gL, 11, none⟩ = some (.int .u64 (aLo (b * d))) := oL.c 11 rfl
          go_step
          exact hK.out
        · rfl
        refine Reg.RC_exact _ (fun _ h => h) rfl (by intro t ht; cases ht; exact Nat.le_of_ble_eq_true rfl) rfl (fun D v W hc hj hf K hK => ?_) (Reg.RC_at (b := ⟨#[_, _, _, _, _, _, _, _, _, _, _, _, _, _, _, _, _, _, _, _, _, _, _, _, _, _, _, _, _, _, _, _, _, _, _, _, _, _, _, _, _, _, _, _, _, _, _, _, _, _, _, _, _, _, _, _, _], []⟩) rfl ?_)
        · obtain ⟨B, oL, oX, oY, oP, oQ⟩ := hj
          go_step
          refine (rless_q _ _ _ _ D2.out).mono ?_
          rintro e W' ⟨rfl, hb⟩
          have st : Steps W W' := hb
          exact hK.out _ _ Reg.any ⟨below_steps B (Nat.le_refl _) st, oL.steps st, oX.steps st, oY.steps st, oP.steps st, oQ.steps st⟩ Reg.none_ rfl
        refine Reg.RC_end (fun D v W hd hj hf => ?_)
        obtain ⟨B, oL, oX, oY, oP, oQ⟩ := hj
        clear hd hf
        refine hQ _ _ ?_
        clear hQ hops Q' ops'
        have lL := oL.lt
        have fL := oL.fr
        have cL3 := oL.c 3 rfl
        have cL4 := oL.c 4 rfl
        have cL5 := oL.c 5 rfl
        have lX := oX.lt
        have fX := oX.fr
        have cX0 := oX.c 0 rfl
        have cX1 := oX.c 1 rfl
        have cX2 := oX.c 2 rfl
        have lY := oY.lt
        have fY := oY.fr
        have cY0 := oY.c 0 rfl
        have cY1 := oY.c 1 rfl
        have cY2 := oY.c 2 rfl
        go_wp2_with fail
        go_roundw
        case rel =>
          refine ⟨2, by omega, rfl, ?_, ?_, ?_, ?_, ?_, ?_⟩
          · exact oL
          · show Blk _ gX 77 #[.bool (negB (mn (a * c) (a * d))), .int .u64 (aHi (mn (a * c) (a * d))), .int .u64 (aLo (mn (a * c) (a * d)))]
            rw [E1.out]
            exact oX
          · show Blk _ gY 77 #[.bool (negB (mx (a * c) (a * d))), .int .u64 (aHi (mx (a * c) (a * d))), .int .u64 (aLo (mx (a * c) (a * d)))]
            rw [E2.out]
            exact oY
          · exact oP
          · exact oQ
          · (repeat' first | with_reducible assumption | with_reducible exact Below.refl _ _ | with_reducible refine Below.alloc ?_ ?_ _ | with_reducible refine Below.drew ?_ | with_reducible refine belowN ?_ _ | with_reducible refine Below.setCell ?_ ?_ _ | go_size)
        case measure => simp [intOf] <;> omega
    · clear k0 k1
      have oX : Blk _ gX 77 #[.bool (negB (mn (a * c) (a * d))), .int .u64 (aHi (mn (a * c) (a * d))), .int .u64 (aLo (mn (a * c) (a * d)))] := oX
      have oY : Blk _ gY 77 #[.bool (negB (mx (a * c) (a * d))), .int .u64 (aHi (mx (a * c) (a * d))), .int .u64 (aLo (mx (a * c) (a * d)))] := oY
      by_cases h1 : b * c < mn (a * c) (a * d)
      all_goals by_cases h2 : mx (a * c) (a * d) < b * c
      · have D1 : Hid (decide (b * c < mn (a * c) (a * d)) = true) := by show decide _ = _; simp <;> omega
        have D2 : Hid (decide (mx (a * c) (a * d) < b * c) = true) := by show decide _ = _; simp <;> omega
        have E1 : Hid (mn (mn (a * c) (a * d)) (b * c) = b * c) := mn_lt h1
        have E2 : Hid (mx (mx (a * c) (a * d)) (b * c) = b * c) := mx_lt h2
        clear h1 h2
        go_wp2_with fail
        refine Reg.wp_chain (fun D v W => Below w.heap.size w W ∧ Blk W (gL) 109 #[.bool (negB (a * c)), .int .u64 (aHi (a * c)), .int .u64 (aLo (a * c)), .bool (negB (a * d)), .int .u64 (aHi (a * d)), .int .u64 (aLo (a * d)), .bool (negB (b * c)), .int .u64 (aHi (b * c)), .int .u64 (aLo (b * c)), .bool (negB (b * d)), .int .u64 (aHi (b * d)), .int .u64 (aLo (b * d))] ∧ Blk W (gX) 77 #[.bool (negB (mn (a * c) (a * d))), .int .u64 (aHi (mn (a * c) (a * d))), .int .u64 (aLo (mn (a * c) (a * d)))] ∧ Blk W (gY) 77 #[.bool (negB (mx (a * c) (a * d))), .int .u64 (aHi (mx (a * c) (a * d))), .int .u64 (aLo (mx (a * c) (a * d)))] ∧ Blk W (w.heap.size + 1 + 1) 77 #[.bool false, .int .u64 0, .int .u64 0] ∧ Blk W (w.heap.size + 1 + 1 + 1) 77 #[.bool false, .int .u64 0, .int .u64 0])
          (Reg.inl [4]) (Reg.ge [(4, .bool true)]) Reg.None_ (fun _ => Reg.Any) (fun _ _ => False) (Reg.pl []) (Reg.pl [])
          (by kernel_rfl) (by kernel_rfl) (by kernel_rfl) (Reg.ge_some _) (fun v => ?_) (fun _ _ _ _ _ h => h) (fun _ _ _ _ _ _ _ _ _ _ _ _ _ => Reg.none_) (fun _ _ _ _ h => h.elim) (fun ops' Q' hops hQ => ?_)
        · exact ⟨(by first | with_reducible exact Below.drew B | with_reducible exact Below.drew (belowN B _) | (repeat' first | with_reducible assumption | with_reducible exact Below.refl _ _ | with_reducible refine Below.alloc ?_ ?_ _ | with_reducible refine Below.drew ?_ | with_reducible refine belowN ?_ _ | with_reducible refine Below.setCell ?_ ?_ _ | go_size)), (show Blk _ _ _ #[.bool (negB (a * c)), .int .u64 (aHi (a * c)), .int .u64 (aLo (a * c)), .bool (negB (a * d)), .int .u64 (aHi (a * d)), .int .u64 (aLo (a * d)), .bool (negB (b * c)), .int .u64 (aHi (b * c)), .int .u64 (aLo (b * c)), .bool (negB (b * d)), .int .u64 (aHi (b * d)), .int .u64 (aLo (b * d))] from (by first | with_reducible exact oL | (repeat' first | with_reducible assumption | (with_reducible refine Blk.new' ?_; first | with_reducible rfl | (simp only [World.size_alloc, World.size_setCell, World.size_drew]; done)) | with_reducible refine Blk.alloc ?_ _ | with_reducible refine Blk.drew ?_ | with_reducible refine Blk.drewN ?_ _ | with_reducible apply Blk.both | with_reducible refine Blk.far' ?_ ?_ | (show _ ≠ _; omega)))), (show Blk _ _ _ #[.bool (negB (mn (a * c) (a * d))), .int .u64 (aHi (mn (a * c) (a * d))), .int .u64 (aLo (mn (a * c) (a * d)))] from (by first | with_reducible exact oX | (repeat' first | with_reducible assumption | (with_reducible refine Blk.new' ?_; first | with_reducible rfl | (simp only [World.size_alloc, World.size_setCell, World.size_drew]; done)) | with_reducible refine Blk.alloc ?_ _ | with_reducible refine Blk.drew ?_ | with_reducible refine Blk.drewN ?_ _ | with_reducible apply Blk.both | with_reducible refine Blk.far' ?_ ?_ | (show _ ≠ _; omega)))), (show Blk _ _ _ #[.bool (negB (mx (a * c) (a * d))), .int .u64 (aHi (mx (a * c) (a * d))), .int .u64 (aLo (mx (a * c) (a * d)))] from (by first | with_reducible exact oY | (repeat' first | with_reducible assumption | (with_reducible refine Blk.new' ?_; first | with_reducible rfl | (simp only [World.size_alloc, World.size_setCell, World.size_drew]; done)) | with_reducible refine Blk.alloc ?_ _ | with_reducible refine Blk.drew ?_ | with_reducible refine Blk.drewN ?_ _ | with_reducible apply Blk.both | with_reducible refine Blk.far' ?_ ?_ | (show _ ≠ _; omega)))), (show Blk _ _ _ #[.bool false, .int .u64 0, .int .u64 0] from (by first | with_reducible exact oP | (repeat' first | with_reducible assumption | (with_reducible refine Blk.new' ?_; first | with_reducible rfl | (simp only [World.size_alloc, World.size_setCell, World.size_drew]; done)) | with_reducible refine Blk.alloc ?_ _ | with_reducible refine Blk.drew ?_ | with_reducible refine Blk.drewN ?_ _ | with_reducible apply Blk.both | with_reducible refine Blk.far' ?_ ?_ | (show _ ≠ _; omega)))), (show Blk _ _ _ #[.bool false, .int .u64 0, .int .u64 0] from (by first | with_reducible exact oQ | (repeat' first | with_reducible assumption | (with_reducible refine Blk.new' ?_; first | with_reducible rfl | (simp only [World.size_alloc, World.size_setCell, World.size_drew]; done)) | with_reducible refine Blk.alloc ?_ _ | with_reducible refine Blk.drew ?_ | with_reducible refine Blk.drewN ?_ _ | with_reducible apply Blk.both | with_reducible refine Blk.far' ?_ ?_ | (show _ ≠ _; omega))))⟩
        clear B oL oX oY oP oQ
        apply Reg.RC_pure (hc := rfl) (hst := rfl) (hw := rfl) (t := 39) (hd := rfl) (ht := Nat.le_of_ble_eq_true rfl)
        · intro D v W hc hj hf K hK
          go_step
          exact hK.out
        · rfl
        apply Reg.RC_pure (hc := rfl) (hst := rfl) (hw := rfl) (t := 40) (hd := rfl) (ht := Nat.le_of_ble_eq_true rfl)
        · intro D v W hc hj hf K hK
          go_step
          exact hK.out
        · rfl
        apply Reg.RC_pure (hc := rfl) (hst := rfl) (hw := rfl) (t := 41) (hd := rfl) (ht := Nat.le_of_ble_eq_true rfl)
        · intro D v W hc hj hf K hK
          obtain ⟨B, oL, oX, oY, oP, oQ⟩ := hj
          have cL0 : World.cell? W ⟨gL, 0, none⟩ = some (.bool (negB (a * c))) := oL.c 0 rfl
          have cL1 : World.cell? W ⟨gL, 1, none⟩ = some (.int .u64 (aHi (a * c))) := oL.c 1 rfl
          have cL2 : World.cell? W ⟨gL, 2, none⟩ = some (.int .u64 (aLo (a * c))) := oL.c 2 rfl
          have cL3 : World.cell? W ⟨gL, 3, none⟩ = some (.bool (negB (a * d))) := oL.c 3 rfl
          have cL4 : World.cell? W ⟨gL, 4, none⟩ = some (.int .u64 (aHi (a * d))) := oL.c 4 rfl
          have cL5 : World.cell? W ⟨gL, 5, none⟩ = some (.int .u64 (aLo (a * d))) := oL.c 5 rfl
          have cL6 : World.cell? W ⟨gL, 6, none⟩ = some (.bool (negB (b * c))) := oL.c 6 rfl
          have cL7 : World.cell? W ⟨gL, 7, none⟩ = some (.int .u64 (aHi (b * c))) := oL.c 7 rfl
          have cL8 : World.cell? W ⟨gL, 8, none⟩ = some (.int .u64 (aLo (b * c))) := oL.c 8 rfl
          have cL9 : World.cell? W ⟨gL, 9, none⟩ = some (.bool (negB (b * d))) := oL.c 9 rfl
          have cL10 : World.cell? W ⟨gL, 10, none⟩ = some (.int .u64 (aHi (b * d))) := oL.c 10 rfl
          have cL11 : World.cell? W ⟨gL, 11, none⟩ = some (.int .u64 (aLo (b * d))) := oL.c 11 rfl
          go_step
          exact hK.out
        · rfl
        apply Reg.RC_pure (hc := rfl) (hst := rfl) (hw := rfl) (t := 42) (hd := rfl) (ht := Nat.le_of_ble_eq_true rfl)
        · intro D v W hc hj hf K hK
          obtain ⟨B, oL, oX, oY, oP, oQ⟩ := hj
          have cX0 : World.cell? W ⟨gX, 0, none⟩ = some (.bool (negB (mn (a * c) (a * d)))) := oX.c 0 rfl
          have cX1 : World.cell? W ⟨gX, 1, none⟩ = some (.int .u64 (aHi (mn (a * c) (a * d)))) := oX.c 1 rfl
          have cX2 : World.cell? W ⟨gX, 2, none⟩ = some (.int .u64 (aLo (mn (a * c) (a * d)))) := oX.c 2 rfl
          go_step
          exact hK.out
        · rfl
        refine Reg.RC_exact _ (fun _ h => h) rfl (by intro t ht; cases ht; exact Nat.le_of_ble_eq_true rfl) rfl (fun D v W hc hj hf K hK => ?_) (Reg.RC_at (b := ⟨#[_, _, _, _, _, _, _, _, _, _, _, _, _, _, _, _, _, _, _, _, _, _, _, _, _, _, _, _, _, _, _, _, _, _, _, _, _, _, _, _, _, _, _, _, _, _, _, _, _, _, _, _, _, _, _, _, _], []⟩) rfl ?_)
        · obtain ⟨B, oL, oX, oY, oP, oQ⟩ := hj
          go_step
          refine (rless_q _ _ _ _ D1.out).mono ?_
          rintro e W' ⟨rfl, hb⟩
          have st : Steps W W' := hb
          exact hK.out _ _ Reg.any ⟨below_steps B (Nat.le_refl _) st, oL.steps st, oX.steps st, oY.steps st, oP.steps st, oQ.steps st⟩ Reg.none_ rfl
        refine Reg.RC_end (fun D v W hd hj hf => ?_)
        obtain ⟨B, oL, oX, oY, oP, oQ⟩ := hj
        clear hd hf
        refine hQ _ _ ?_
        clear hQ hops Q' ops'
        have lL := oL.lt
        have fL := oL.fr
        have cL6 := oL.c 6 rfl
        have cL7 := oL.c 7 rfl
        have cL8 := oL.c 8 rfl
        have lX := oX.lt
        have fX := oX.fr
        have cX0 := oX.c 0 rfl
        have cX1 := oX.c 1 rfl
        have cX2 := oX.c 2 rfl
        have lY := oY.lt
        have fY := oY.fr
        have cY0 := oY.c 0 rfl
        have cY1 := oY.c 1 rfl
        have cY2 := oY.c 2 rfl
        go_wp2_with fail
        clear lL lX lY fL fX fY cL6 cL7 cL8 cX0 cX1 cX2 cY0 cY1 cY2
        refine Reg.wp_chain (fun D v W => Below w.heap.size w W ∧ Blk W (gL) 109 #[.bool (negB (a * c)), .int .u64 (aHi (a * c)), .int .u64 (aLo (a * c)), .bool (negB (a * d)), .int .u64 (aHi (a * d)), .int .u64 (aLo (a * d)), .bool (negB (b * c)), .int .u64 (aHi (b * c)), .int .u64 (aLo (b * c)), .bool (negB (b * d)), .int .u64 (aHi (b * d)), .int .u64 (aLo (b * d))] ∧ Blk W (gX) 77 #[.bool (negB (b * c)), .int .u64 (aHi (b * c)), .int .u64 (aLo (b * c))] ∧ Blk W (gY) 77 #[.bool (negB (mx (a * c) (a * d))), .int .u64 (aHi (mx (a * c) (a * d))), .int .u64 (aLo (mx (a * c) (a * d)))] ∧ Blk W (w.heap.size + 1 + 1) 77 #[.bool false, .int .u64 0, .int .u64 0] ∧ Blk W (w.heap.size + 1 + 1 + 1) 77 #[.bool false, .int .u64 0, .int .u64 0])
          (Reg.inl [4]) (Reg.ge [(4, .bool true)]) Reg.None_ (fun _ => Reg.Any) (fun _ _ => False) (Reg.pl []) (Reg.pl [])
          (by kernel_rfl) (by kernel_rfl) (by kernel_rfl) (Reg.ge_some _) (fun v => ?_) (fun _ _ _ _ _ h => h) (fun _ _ _ _ _ _ _ _ _ _ _ _ _ => Reg.none_) (fun _ _ _ _ h => h.elim) (fun ops' Q' hops hQ => ?_)
        · exact ⟨(by first | with_reducible exact Below.drew B | with_reducible exact Below.drew (belowN B _) | (repeat' first | with_reducible assumption | with_reducible exact Below.refl _ _ | with_reducible refine Below.alloc ?_ ?_ _ | with_reducible refine Below.drew ?_ | with_reducible refine belowN ?_ _ | with_reducible refine Below.setCell ?_ ?_ _ | go_size)), (show Blk _ _ _ #[.bool (negB (a * c)), .int .u64 (aHi (a * c)), .int .u64 (aLo (a * c)), .bool (negB (a * d)), .int .u64 (aHi (a * d)), .int .u64 (aLo (a * d)), .bool (negB (b * c)), .int .u64 (aHi (b * c)), .int .u64 (aLo (b * c)), .bool (negB (b * d)), .int .u64 (aHi (b * d)), .int .u64 (aLo (b * d))] from (by first | with_reducible exact oL | (repeat' first | with_reducible assumption | (with_reducible refine Blk.new' ?_; first | with_reducible rfl | (simp only [World.size_alloc, World.size_setCell, World.size_drew]; done)) | with_reducible refine Blk.alloc ?_ _ | with_reducible refine Blk.drew ?_ | with_reducible refine Blk.drewN ?_ _ | with_reducible apply Blk.both | with_reducible refine Blk.far' ?_ ?_ | (show _ ≠ _; omega)))), (show Blk _ _ _ #[.bool (negB (b * c)), .int .u64 (aHi (b * c)), .int .u64 (aLo (b * c))] from (Blk.set_ (Blk.set_ (Blk.set_ oX 0 _) 1 _) 2 _)), (show Blk _ _ _ #[.bool (negB (mx (a * c) (a * d))), .int .u64 (aHi (mx (a * c) (a * d))), .int .u64 (aLo (mx (a * c) (a * d)))] from (by first | with_reducible exact oY | (repeat' first | with_reducible assumption | (with_reducible refine Blk.new' ?_; first | with_reducible rfl | (simp only [World.size_alloc, World.size_setCell, World.size_drew]; done)) | with_reducible refine Blk.alloc ?_ _ | with_reducible refine Blk.drew ?_ | with_reducible refine Blk.drewN ?_ _ | with_reducible apply Blk.both | with_reducible refine Blk.far' ?_ ?_ | (show _ ≠ _; omega)))), (show Blk _ _ _ #[.bool false, .int .u64 0, .int .u64 0] from (by first | with_reducible exact oP | (repeat' first | with_reducible assumption | (with_reducible refine Blk.new' ?_; first | with_reducible rfl | (simp only [World.size_alloc, World.size_setCell, World.size_drew]; done)) | with_reducible refine Blk.alloc ?_ _ | with_reducible refine Blk.drew ?_ | with_reducible refine Blk.drewN ?_ _ | with_reducible apply Blk.both | with_reducible refine Blk.far' ?_ ?_ | (show _ ≠ _; omega)))), (show Blk _ _ _ #[.bool false, .int .u64 0, .int .u64 0] from (by first | with_reducible exact oQ | (repeat' first | with_reducible assumption | (with_reducible refine Blk.new' ?_; first | with_reducible rfl | (simp only [World.size_alloc, World.size_setCell, World.size_drew]; done)) | with_reducible refine Blk.alloc ?_ _ | with_reducible refine Blk.drew ?_ | with_reducible refine Blk.drewN ?_ _ | with_reducible apply Blk.both | with_reducible refine Blk.far' ?_ ?_ | (show _ ≠ _; omega))))⟩
        clear B oL oX oY oP oQ
        apply Reg.RC_pure (hc := rfl) (hst := rfl) (hw := rfl) (t := 47) (hd := rfl) (ht := Nat.le_of_ble_eq_true rfl)
        · intro D v W hc hj hf K hK
          obtain ⟨B, oL, oX, oY, oP, oQ⟩ := hj
          have cY0 : World.cell? W ⟨gY, 0, none⟩ = some (.bool (negB (mx (a * c) (a * d)))) := oY.c 0 rfl
          have cY1 : World.cell? W ⟨gY, 1, none⟩ = some (.int .u64 (aHi (mx (a * c) (a * d)))) := oY.c 1 rfl
          have cY2 : World.cell? W ⟨gY, 2, none⟩ = some (.int .u64 (aLo (mx (a * c) (a * d)))) := oY.c 2 rfl
          go_step
          exact hK.out
        · rfl
        apply Reg.RC_pure (hc := rfl) (hst := rfl) (hw := rfl) (t := 48) (hd := rfl) (ht := Nat.le_of_ble_eq_true rfl)
        · intro D v W hc hj hf K hK
          go_step
          exact hK.out
        · rfl
        apply Reg.RC_pure (hc := rfl) (hst := rfl) (hw := rfl) (t := 49) (hd := rfl) (ht := Nat.le_of_ble_eq_true rfl)
        · intro D v W hc hj hf K hK
          go_step
          exact hK.out
        · rfl
        apply Reg.RC_pure (hc := rfl) (hst := rfl) (hw := rfl) (t := 50) (hd := rfl) (ht := Nat.le_of_ble_eq_true rfl)
        · intro D v W hc hj hf K hK
          obtain ⟨B, oL, oX, oY, oP, oQ⟩ := hj
          have cL0 : World.cell? W ⟨gL, 0, none⟩ = some (.bool (negB (a * c))) := oL.c 0 rfl
          have cL1 : World.cell? W ⟨gL, 1, none⟩ = some (.int .u64 (aHi (a * c))) := oL.c 1 rfl
          have cL2 : World.cell? W ⟨gL, 2, none⟩ = some (.int .u64 (aLo (a * c))) := oL.c 2 rfl
          have cL3 : World.cell? W ⟨gL, 3, none⟩ = some (.bool (negB (a * d))) := oL.c 3 rfl
          have cL4 : World.cell? W ⟨gL, 4, none⟩ = some (.int .u64 (aHi (a * d))) := oL.c 4 rfl
          have cL5 : World.cell? W ⟨gL, 5, none⟩ = some (.int .u64 (aLo (a * d))) := oL.c 5 rfl
          have cL6 : World.cell? W ⟨gL, 6, none⟩ = some (.bool (negB (b * c))) := oL.c 6 rfl
          have cL7 : World.cell? W ⟨gL, 7, none⟩ = some (.int .u64 (aHi (b * c))) := oL.c 7 rfl
          have cL8 : World.cell? W ⟨gL, 8, none⟩ = some (.int .u64 (aLo (b * c))) := oL.c 8 rfl
          have cL9 : World.cell? W ⟨gL, 9, none⟩ = some (.bool (negB (b * d))) := oL.c 9 rfl
          have cL10 : World.cell? W ⟨gL, 10, none⟩ = some (.int .u64 (aHi (b * d))) := oL.c 10 rfl
          have cL11 : World.cell? W ⟨gL, 11, none⟩ = some (.int .u64 (aLo (b * d))) := oL.c 11 rfl
          go_step
          exact hK.out
        · rfl
        refine Reg.RC_exact _ (fun _ h => h) rfl (by intro t ht; cases ht; exact Nat.le_of_ble_eq_true rfl) rfl (fun D v W hc hj hf K hK => ?_) (Reg.RC_at (b := ⟨#[_, _, _, _, _, _, _, _, _, _, _, _, _, _, _, _, _, _, _, _, _, _, _, _, _, _, _, _, _, _, _, _, _, _, _, _, _, _, _, _, _, _, _, _, _, _, _, _, _, _, _, _, _, _, _, _, _], []⟩) rfl ?_)
        · obtain ⟨B, oL, oX, oY, oP, oQ⟩ := hj
          go_step
          refine (rless_q _ _ _ _ D2.out).mono ?_
          rintro e W' ⟨rfl, hb⟩
          have st : Steps W W' := hb
          exact hK.out _ _ Reg.any ⟨below_steps B (Nat.le_refl _) st, oL.steps st, oX.steps st, oY.steps st, oP.steps st, oQ.steps st⟩ Reg.none_ rfl
        refine Reg.RC_end (fun D v W hd hj hf => ?_)
        obtain ⟨B, oL, oX, oY, oP, oQ⟩ := hj
        clear hd hf
        refine hQ _ _ ?_
        clear hQ hops Q' ops'
        have lL := oL.lt
        have fL := oL.fr
        have cL6 := oL.c 6 rfl
        have cL7 := oL.c 7 rfl
        have cL8 := oL.c 8 rfl
        have lX := oX.lt
        have fX := oX.fr
        have cX0 := oX.c 0 rfl
        have cX1 := oX.c 1 rfl
        have cX2 := oX.c 2 rfl
        have lY := oY.lt
        have fY := oY.fr
        have cY0 := oY.c 0 rfl
        have cY1 := oY.c 1 rfl
        have cY2 := oY.c 2 rfl
        go_wp2_with fail
        go_roundw
        case rel =>
          refine ⟨3, by omega, rfl, ?_, ?_, ?_, ?_, ?_, ?_⟩
          · exact Blk.far' (Blk.far' (Blk.far' oL sLY2) sLY2) sLY2
          · show Blk _ gX 77 #[.bool (negB (mn (mn (a * c) (a * d)) (b * c))), .int .u64 (aHi (mn (mn (a * c) (a * d)) (b * c))), .int .u64 (aLo (mn (mn (a * c) (a * d)) (b * c)))]
            rw [E1.out]
            exact Blk.far' (Blk.far' (Blk.far' oX nXY) nXY) nXY
          · show Blk _ gY 77 #[.bool (negB (mx (mx (a * c) (a * d)) (b * c))), .int .u64 (aHi (mx (mx (a * c) (a * d)) (b * c))), .int .u64 (aLo (mx (mx (a * c) (a * d)) (b * c)))]
            rw [E2.out]
            exact Blk.set_ (Blk.set_ (Blk.set_ oY 0 _) 1 _) 2 _
          · exact Blk.far' (Blk.far' (Blk.far' oP sPY) sPY) sPY
          · exact Blk.far' (Blk.far' (Blk.far' oQ sQY) sQY) sQY
          · (repeat' first | with_reducible assumption | with_reducible exact Below.refl _ _ | with_reducible refine Below.alloc ?_ ?_ _ | with_reducible refine Below.drew ?_ | with_reducible refine belowN ?_ _ | with_reducible refine Below.setCell ?_ ?_ _ | go_size)
        case measure => simp [intOf] <;> omega
      · have D1 : Hid (decide (b * c < mn (a * c) (a * d)) = true) := by show decide _ = _; simp <;> omega
        have D2 : Hid (decide (mx (a * c) (a * d) < b * c) = false) := by show decide _ = _; simp <;> omega
        have E1 : Hid (mn (mn (a * c) (a * d)) (b * c) = b * c) := mn_lt h1
        have E2 : Hid (mx (mx (a * c) (a * d)) (b * c) = mx (a * c) (a * d)) := mx_ge h2
        clear h1 h2
        go_wp2_with fail
        refine Reg.wp_chain (fun D v W => Below w.heap.size w W ∧ Blk W (gL) 109 #[.bool (negB (a * c)), .int .u64 (aHi (a * c)), .int .u64 (aLo (a * c)), .bool (negB (a * d)), .int .u64 (aHi (a * d)), .int .u64 (aLo (a * d)), .bool (negB (b * c)), .int .u64 (aHi (b * c)), .int .u64 (aLo (b * c)), .bool (negB (b * d)), .int .u64 (aHi (b * d)), .int .u64 (aLo (b * d))] ∧ Blk W (gX) 77 #[.bool (negB (mn (a * c) (a * d))), .int .u64 (aHi (mn (a * c) (a * d))), .int .u64 (aLo (mn (a * c) (a * d)))] ∧ Blk W (gY) 77 #[.bool (negB (mx (a * c) (a * d))), .int .u64 (aHi (mx (a * c) (a * d))), .int .u64 (aLo (mx (a * c) (a * d)))] ∧ Blk W (w.heap.size + 1 + 1) 77 #[.bool false, .int .u64 0, .int .u64 0] ∧ Blk W (w.heap.size + 1 + 1 + 1) 77 #[.bool false, .int .u64 0, .int .u64 0])
          (Reg.inl [4]) (Reg.ge [(4, .bool true)]) Reg.None_ (fun _ => Reg.Any) (fun _ _ => False) (Reg.pl []) (Reg.pl [])
          (by kernel_rfl) (by kernel_rfl) (by kernel_rfl) (Reg.ge_some _) (fun v => ?_) (fun _ _ _ _ _ h => h) (fun _ _ _ _ _ _ _ _ _ _ _ _ _ => Reg.none_) (fun _ _ _ _ h => h.elim) (fun ops' Q' hops hQ => ?_)
        · exact ⟨(by first | with_reducible exact Below.drew B | with_reducible exact Below.drew (belowN B _) | (repeat' first | with_reducible assumption | with_reducible exact Below.refl _ _ | with_reducible refine Below.alloc ?_ ?_ _ | with_reducible refine Below.drew ?_ | with_reducible refine belowN ?_ _ | with_reducible refine Below.setCell ?_ ?_ _ | go_size)), (show Blk _ _ _ #[.bool (negB (a * c)), .int .u64 (aHi (a * c)), .int .u64 (aLo (a * c)), .bool (negB (a * d)), .int .u64 (aHi (a * d)), .int .u64 (aLo (a * d)), .bool (negB (b * c)), .int .u64 (aHi (b * c)), .int .u64 (aLo (b * c)), .bool (negB (b * d)), .int .u64 (aHi (b * d)), .int .u64 (aLo (b * d))] from (by first | with_reducible exact oL | (repeat' first | with_reducible assumption | (with_reducible refine Blk.new' ?_; first | with_reducible rfl | (simp only [World.size_alloc, World.size_setCell, World.size_drew]; done)) | with_reducible refine Blk.alloc ?_ _ | with_reducible refine Blk.drew ?_ | with_reducible refine Blk.drewN ?_ _ | with_reducible apply Blk.both | with_reducible refine Blk.far' ?_ ?_ | (show _ ≠ _; omega)))), (show Blk _ _ _ #[.bool (negB (mn (a * c) (a * d))), .int .u64 (aHi (mn (a * c) (a * d))), .int .u64 (aLo (mn (a * c) (a * d)))] from (by first | with_reducible exact oX | (repeat' first | with_reducible assumption | (with_reducible refine Blk.new' ?_; first | with_reducible rfl | (simp only [World.size_alloc, World.size_setCell, World.size_drew]; done)) | with_reducible refine Blk.alloc ?_ _ | with_reducible refine Blk.drew ?_ | with_reducible refine Blk.drewN ?_ _ | with_reducible apply Blk.both | with_reducible refine Blk.far' ?_ ?_ | (show _ ≠ _; omega)))), (show Blk _ _ _ #[.bool (negB (mx (a * c) (a * d))), .int .u64 (aHi (mx (a * c) (a * d))), .int .u64 (aLo (mx (a * c) (a * d)))] from (by first | with_reducible exact oY | (repeat' first | with_reducible assumption | (with_reducible refine Blk.new' ?_; first | with_reducible rfl | (simp only [World.size_alloc, World.size_setCell, World.size_drew]; done)) | with_reducible refine Blk.alloc ?_ _ | with_reducible refine Blk.drew ?_ | with_reducible refine Blk.drewN ?_ _ | with_reducible apply Blk.both | with_reducible refine Blk.far' ?_ ?_ | (show _ ≠ _; omega)))), (show Blk _ _ _ #[.bool false, .int .u64 0, .int .u64 0] from (by first | with_reducible exact oP | (repeat' first | with_reducible assumption | (with_reducible refine Blk.new' ?_; first | with_reducible rfl | (simp only [World.size_alloc, World.size_setCell, World.size_drew]; done)) | with_reducible refine Blk.alloc ?_ _ | with_reducible refine Blk.drew ?_ | with_reducible refine Blk.drewN ?_ _ | with_reducible apply Blk.both | with_reducible refine Blk.far' ?_ ?_ | (show _ ≠ _; omega)))), (show Blk _ _ _ #[.bool false, .int .u64 0, .int .u64 0] from (by first | with_reducible exact oQ | (repeat' first | with_reducible assumption | (with_reducible refine Blk.new' ?_; first | with_reducible rfl | (simp only [World.size_alloc, World.size_setCell, World.size_drew]; done)) | with_reducible refine Blk.alloc ?_ _ | with_reducible refine Blk.drew ?_ | with_reducible refine Blk.drewN ?_ _ | with_reducible apply Blk.both | with_reducible refine Blk.far' ?_ ?_ | (show _ ≠ _; omega))))⟩
        clear B oL oX oY oP oQ
        apply Reg.RC_pure (hc := rfl) (hst := rfl) (hw := rfl) (t := 39) (hd := rfl) (ht := Nat.le_of_ble_eq_true rfl)
        · intro D v W hc hj hf K hK
          go_step
          exact hK.out
        · rfl
        apply Reg.RC_pure (hc := rfl) (hst := rfl) (hw := rfl) (t := 40) (hd := rfl) (ht := Nat.le_of_ble_eq_true rfl)
        · intro D v W hc hj hf K hK
          go_step
          exact hK.out
        · rfl
        apply Reg.RC_pure (hc := rfl) (hst := rfl) (hw := rfl) (t := 41) (hd := rfl) (ht := Nat.le_of_ble_eq_true rfl)
        · intro D v W hc hj hf K hK
          obtain ⟨B, oL, oX, oY, oP, oQ⟩ := hj
          have cL0 : World.cell? W ⟨gL, 0, none⟩ = some (.bool (negB (a * c))) := oL.c 0 rfl
          have cL1 : World.cell? W ⟨gL, 1, none⟩ = some (.int .u64 (aHi (a * c))) := oL.c 1 rfl
          have cL2 : World.cell? W ⟨gL, 2, none⟩ = some (.int .u64 (aLo (a * c))) := oL.c 2 rfl
          have cL3 : World.cell? W ⟨gL, 3, none⟩ = some (.bool (negB (a * d))) := oL.c 3 rfl
          have cL4 : World.cell? W ⟨gL, 4, none⟩ = some (.int .u64 (aHi (a * d))) := oL.c 4 rfl
          have cL5 : World.cell? W ⟨gL, 5, none⟩ = some (.int .u64 (aLo (a * d))) := oL.c 5 rfl
          have cL6 : World.cell? W ⟨gL, 6, none⟩ = some (.bool (negB (b * c))) := oL.c 6 rfl
          have cL7 : World.cell? W ⟨gL, 7, none⟩ = some (.int .u64 (aHi (b * c))) := oL.c 7 rfl
          have cL8 : World.cell? W ⟨gL, 8, none⟩ = some (.int .u64 (aLo (b * c))) := oL.c 8 rfl
          have cL9 : World.cell? W ⟨gL, 9, none⟩ = some (.bool (negB (b * d))) := oL.c 9 rfl
          have cL10 : World.cell? W ⟨gL, 10, none⟩ = some (.int .u64 (aHi (b * d))) := oL.c 10 rfl
          have cL11 : World.cell? W ⟨gL, 11, none⟩ = some (.int .u64 (aLo (b * d))) := oL.c 11 rfl
          go_step
          exact hK.out
        · rfl
        apply Reg.RC_pure (hc := rfl) (hst := rfl) (hw := rfl) (t := 42) (hd := rfl) (ht := Nat.le_of_ble_eq_true rfl)
        · intro D v W hc hj hf K hK
          obtain ⟨B, oL, oX, oY, oP, oQ⟩ := hj
          have cX0 : World.cell? W ⟨gX, 0, none⟩ = some (.bool (negB (mn (a * c) (a * d)))) := oX.c 0 rfl
          have cX1 : World.cell? W ⟨gX, 1, none⟩ = some (.int .u64 (aHi (mn (a * c) (a * d)))) := oX.c 1 rfl
          have cX2 : World.cell? W ⟨gX, 2, none⟩ = some (.int .u64 (aLo (mn (a * c) (a * d)))) := oX.c 2 rfl
          go_step
          exact hK.out
        · rfl
        refine Reg.RC_exact _ (fun _ h => h) rfl (by intro t ht; cases ht; exact Nat.le_of_ble_eq_true rfl) rfl (fun D v W hc hj hf K hK => ?_) (Reg.RC_at (b := ⟨#[_, _, _, _, _, _, _, _, _, _, _, _, _, _, _, _, _, _, _, _, _, _, _, _, _, _, _, _, _, _, _, _, _, _, _, _, _, _, _, _, _, _, _, _, _, _, _, _, _, _, _, _, _, _, _, _, _], []⟩) rfl ?_)
        · obtain ⟨B, oL, oX, oY, oP, oQ⟩ := hj
          go_step
          refine (rless_q _ _ _ _ D1.out).mono ?_
          rintro e W' ⟨rfl, hb⟩
          have st : Steps W W' := hb
          exact hK.out _ _ Reg.any ⟨below_steps B (Nat.le_refl _) st, oL.steps st, oX.steps st, oY.steps st, oP.steps st, oQ.steps st⟩ Reg.none_ rfl
        refine Reg.RC_end (fun D v W hd hj hf => ?_)
        obtain ⟨B, oL, oX, oY, oP, oQ⟩ := hj
        clear hd hf
        refine hQ _ _ ?_
        clear hQ hops Q' ops'
        have lL := oL.lt
        have fL := oL.fr
        have cL6 := oL.c 6 rfl
        have cL7 := oL.c 7 rfl
        have cL8 := oL.c 8 rfl
        have lX := oX.lt
        have fX := oX.fr
        have cX0 := oX.c 0 rfl
        have cX1 := oX.c 1 rfl
        have cX2 := oX.c 2 rfl
        have lY := oY.lt
        have fY := oY.fr
        have cY0 := oY.c 0 rfl
        have cY1 := oY.c 1 rfl
        have cY2 := oY.c 2 rfl
        go_wp2_with fail
        clear lL lX lY fL fX fY cL6 cL7 cL8 cX0 cX1 cX2 cY0 cY1 cY2
        refine Reg.wp_chain (fun D v W => Below w.heap.size w W ∧ Blk W (gL) 109 #[.bool (negB (a * c)), .int .u64 (aHi (a * c)), .int .u64 (aLo (a * c)), .bool (negB (a * d)), .int .u64 (aHi (a * d)), .int .u64 (aLo (a * d)), .bool (negB (b * c)), .int .u64 (aHi (b * c)), .int .u64 (aLo (b * c)), .bool (negB (b * d)), .int .u64 (aHi (b * d)), .int .u64 (aLo (b * d))] ∧ Blk W (gX) 77 #[.bool (negB (b * c)), .int .u64 (aHi (b * c)), .int .u64 (aLo (b * c))] ∧ Blk W (gY) 77 #[.bool (negB (mx (a * c) (a * d))), .int .u64 (aHi (mx (a * c) (a * d))), .int .u64 (aLo (mx (a * c) (a * d)))] ∧ Blk W (w.heap.size + 1 + 1) 77 #[.bool false, .int .u64 0, .int .u64 0] ∧ Blk W (w.heap.size + 1 + 1 + 1) 77 #[.bool false, .int .u64 0, .int .u64 0])
          (Reg.inl [4]) (Reg.ge [(4, .bool false)]) Reg.None_ (fun _ => Reg.Any) (fun _ _ => False) (Reg.pl []) (Reg.pl [])
          (by kernel_rfl) (by kernel_rfl) (by kernel_rfl) (Reg.ge_some _) (fun v => ?_) (fun _ _ _ _ _ h => h) (fun _ _ _ _ _ _ _ _ _ _ _ _ _ => Reg.none_) (fun _ _ _ _ h => h.elim) (fun ops' Q' hops hQ => ?_)
        · exact ⟨(by first | with_reducible exact Below.drew B | with_reducible exact Below.drew (belowN B _) | (repeat' first | with_reducible assumption | with_reducible exact Below.refl _ _ | with_reducible refine Below.alloc ?_ ?_ _ | with_reducible refine Below.drew ?_ | with_reducible refine belowN ?_ _ | with_reducible refine Below.setCell ?_ ?_ _ | go_size)), (show Blk _ _ _ #[.bool (negB (a * c)), .int .u64 (aHi (a * c)), .int .u64 (aLo (a * c)), .bool (negB (a * d)), .int .u64 (aHi (a * d)), .int .u64 (aLo (a * d)), .bool (negB (b * c)), .int .u64 (aHi (b * c)), .int .u64 (aLo (b * c)), .bool (negB (b * d)), .int .u64 (aHi (b * d)), .int .u64 (aLo (b * d))] from (by first | with_reducible exact oL | (repeat' first | with_reducible assumption | (with_reducible refine Blk.new' ?_; first | with_reducible rfl | (simp only [World.size_alloc, World.size_setCell, World.size_drew]; done)) | with_reducible refine Blk.alloc ?_ _ | with_reducible refine Blk.drew ?_ | with_reducible refine Blk.drewN ?_ _ | with_reducible apply Blk.both | with_reducible refine Blk.far' ?_ ?_ | (show _ ≠ _; omega)))), (show Blk _ _ _ #[.bool (negB (b * c)), .int .u64 (aHi (b * c)), .int .u64 (aLo (b * c))] from (Blk.set_ (Blk.set_ (Blk.set_ oX 0 _) 1 _) 2 _)), (show Blk _ _ _ #[.bool (negB (mx (a * c) (a * d))), .int .u64 (aHi (mx (a * c) (a * d))), .int .u64 (aLo (mx (a * c) (a * d)))] from (by first | with_reducible exact oY | (repeat' first | with_reducible assumption | (with_reducible refine Blk.new' ?_; first | with_reducible rfl | (simp only [World.size_alloc, World.size_setCell, World.size_drew]; done)) | with_reducible refine Blk.alloc ?_ _ | with_reducible refine Blk.drew ?_ | with_reducible refine Blk.drewN ?_ _ | with_reducible apply Blk.both | with_reducible refine Blk.far' ?_ ?_ | (show _ ≠ _; omega)))), (show Blk _ _ _ #[.bool false, .int .u64 0, .int .u64 0] from (by first | with_reducible exact oP | (repeat' first | with_reducible assumption | (with_reducible refine Blk.new' ?_; first | with_reducible rfl | (simp only [World.size_alloc, World.size_setCell, World.size_drew]; done)) | with_reducible refine Blk.alloc ?_ _ | with_reducible refine Blk.drew ?_ | with_reducible refine Blk.drewN ?_ _ | with_reducible apply Blk.both | with_reducible refine Blk.far' ?_ ?_ | (show _ ≠ _; omega)))), (show Blk _ _ _ #[.bool false, .int .u64 0, .int .u64 0] from (by first | with_reducible exact oQ | (repeat' first | with_reducible assumption | (with_reducible refine Blk.new' ?_; first | with_reducible rfl | (simp only [World.size_alloc, World.size_setCell, World.size_drew]; done)) | with_reducible refine Blk.alloc ?_ _ | with_reducible refine Blk.drew ?_ | with_reducible refine Blk.drewN ?_ _ | with_reducible apply Blk.both | with_reducible refine Blk.far' ?_ ?_ | (show _ ≠ _; omega))))⟩
        clear B oL oX oY oP oQ
        apply Reg.RC_pure (hc := rfl) (hst := rfl) (hw := rfl) (t := 47) (hd := rfl) (ht := Nat.le_of_ble_eq_true rfl)
        · intro D v W hc hj hf K hK
          obtain ⟨B, oL, oX, oY, oP, oQ⟩ := hj
          have cY0 : World.cell? W ⟨gY, 0, none⟩ = some (.bool (negB (mx (a * c) (a * d)))) := oY.c 0 rfl
          have cY1 : World.cell? W ⟨gY, 1, none⟩ = some (.int .u64 (aHi (mx (a * c) (a * d)))) := oY.c 1 rfl
          have cY2 : World.cell? W ⟨gY, 2, none⟩ = some (.int .u64 (aLo (mx (a * c) (a * d)))) := oY.c 2 rfl
          go_step
          exact hK.out
        · rfl
        apply Reg.RC_pure (hc := rfl) (hst := rfl) (hw := rfl) (t := 48) (hd := rfl) (ht := Nat.le_of_ble_eq_true rfl)
        · intro D v W hc hj hf K hK
          go_step
          exact hK.out
        · rfl
        apply Reg.RC_pure (hc := rfl) (hst := rfl) (hw := rfl) (t := 49) (hd := rfl) (ht := Nat.le_of_ble_eq_true rfl)
        · intro D v W hc hj hf K hK
          go_step
          exact hK.out
        · rfl
        apply Reg.RC_pure (hc := rfl) (hst := rfl) (hw := rfl) (t := 50) (hd := rfl) (ht := Nat.le_of_ble_eq_true rfl)
        · intro D v W hc hj hf K hK
          obtain ⟨B, oL, oX, oY, oP, oQ⟩ := hj
          have cL0 : World.cell? W ⟨gL, 0, none⟩ = some (.bool (negB (a * c))) := oL.c 0 rfl
          have cL1 : World.cell? W ⟨gL, 1, none⟩ = some (.int .u64 (aHi (a * c))) := oL.c 1 rfl
          have cL2 : World.cell? W ⟨gL, 2, none⟩ = some (.int .u64 (aLo (a * c))) := oL.c 2 rfl
          have cL3 : World.cell? W ⟨gL, 3, none⟩ = some (.bool (negB (a * d))) := oL.c 3 rfl
          have cL4 : World.cell? W ⟨gL, 4, none⟩ = some (.int .u64 (aHi (a * d))) := oL.c 4 rfl
          have cL5 : World.cell? W ⟨gL, 5, none⟩ = some (.int .u64 (aLo (a * d))) := oL.c 5 rfl
          have cL6 : World.cell? W ⟨gL, 6, none⟩ = some (.bool (negB (b * c))) := oL.c 6 rfl
          have cL7 : World.cell? W ⟨gL, 7, none⟩ = some (.int .u64 (aHi (b * c))) := oL.c 7 rfl
          have cL8 : World.cell? W ⟨gL, 8, none⟩ = some (.int .u64 (aLo (b * c))) := oL.c 8 rfl
          have cL9 : World.cell? W ⟨gL, 9, none⟩ = some (.bool (negB (b * d))) := oL.c 9 rfl
          have cL10 : World.cell? W ⟨gL, 10, none⟩ = some (.int .u64 (aHi (b * d))) := oL.c 10 rfl
          have cL11 : World.cell? W ⟨gL, 11, none⟩ = some (.int .u64 (aLo (b * d))) := oL.c 11 rfl
          go_step
          exact hK.out
        · rfl
        refine Reg.RC_exact _ (fun _ h => h) rfl (by intro t ht; cases ht; exact Nat.le_of_ble_eq_true rfl) rfl (fun D v W hc hj hf K hK => ?_) (Reg.RC_at (b := ⟨#[_, _, _, _, _, _, _, _, _, _, _, _, _, _, _, _, _, _, _, _, _, _, _, _, _, _, _, _, _, _, _, _, _, _, _, _, _, _, _, _, _, _, _, _, _, _, _, _, _, _, _, _, _, _, _, _, _], []⟩) rfl ?_)
        · obtain ⟨B, oL, oX, oY, oP, oQ⟩ := hj
          go_step
          refine (rless_q _ _ _ _ D2.out).mono ?_
          rintro e W' ⟨rfl, hb⟩
          have st : Steps W W' := hb
          exact hK.out _ _ Reg.any ⟨below_steps B (Nat.le_refl _) st, oL.steps st, oX.steps st, oY.steps st, oP.steps st, oQ.steps st⟩ Reg.none_ rfl
        refine Reg.RC_end (fun D v W hd hj hf => ?_)
        obtain ⟨B, oL, oX, oY, oP, oQ⟩ := hj
        clear hd hf
        refine hQ _ _ ?_
        clear hQ hops Q' ops'
        have lL := oL.lt
        have fL := oL.fr
        have cL6 := oL.c 6 rfl
        have cL7 := oL.c 7 rfl
        have cL8 := oL.c 8 rfl
        have lX := oX.lt
        have fX := oX.fr
        have cX0 := oX.c 0 rfl
        have cX1 := oX.c 1 rfl
        have cX2 := oX.c 2 rfl
        have lY := oY.lt
        have fY := oY.fr
        have cY0 := oY.c 0 rfl
        have cY1 := oY.c 1 rfl
        have cY2 := oY.c 2 rfl
        go_wp2_with fail
        go_roundw
        case rel =>
          refine ⟨3, by omega, rfl, ?_, ?_, ?_, ?_, ?_, ?_⟩
          · exact oL
          · show Blk _ gX 77 #[.bool (negB (mn (mn (a * c) (a * d)) (b * c))), .int .u64 (aHi (mn (mn (a * c) (a * d)) (b * c))), .int .u64 (aLo (mn (mn (a * c) (a * d)) (b * c)))]
            rw [E1.out]
            exact oX
          · show Blk _ gY 77 #[.bool (negB (mx (mx (a * c) (a * d)) (b * c))), .int .u64 (aHi (mx (mx (a * c) (a * d)) (b * c))), .int .u64 (aLo (mx (mx (a * c) (a * d)) (b * c)))]
            rw [E2.out]
            exact oY
          · exact oP
          · exact oQ
          · (repeat' first | with_reducible assumption | with_reducible exact Below.refl _ _ | with_reducible refine Below.alloc ?_ ?_ _ | with_reducible refine Below.drew ?_ | with_reducible refine belowN ?_ _ | with_reducible refine Below.setCell ?_ ?_ _ | go_size)
        case measure => simp [intOf] <;> omega
      · have D1 : Hid (decide (b * c < mn (a * c) (a * d)) = false) := by show decide _ = _; simp <;> omega
        have D2 : Hid (decide (mx (a * c) (a * d) < b * c) = true) := by show decide _ = _; simp <;> omega
        have E1 : Hid (mn (mn (a * c) (a * d)) (b * c) = mn (a * c) (a * d)) := mn_ge h1
        have E2 : Hid (mx (mx (a * c) (a * d)) (b * c) = b * c) := mx_lt h2
        clear h1 h2
        go_wp2_with fail
        refine Reg.wp_chain (fun D v W => Below w.heap.size w W ∧ Blk W (gL) 109 #[.bool (negB (a * c)), .int .u64 (aHi (a * c)), .int .u64 (aLo (a * c)), .bool (negB (a * d)), .int .u64 (aHi (a * d)), .int .u64 (aLo (a * d)), .bool (negB (b * c)), .int .u64 (aHi (b * c)), .int .u64 (aLo (b * c)), .bool (negB (b * d)), .int .u64 (aHi (b * d)), .int .u64 (aLo (b * d))] ∧ Blk W (gX) 77 #[.bool (negB (mn (a * c) (a * d))), .int .u64 (aHi (mn (a * c) (a * d))), .int .u64 (aLo (mn (a * c) (a * d)))] ∧ Blk W (gY) 77 #[.bool (negB (mx (a * c) (a * d))), .int .u64 (aHi (mx (a * c) (a * d))), .int .u64 (aLo (mx (a * c) (a * d)))] ∧ Blk W (w.heap.size + 1 + 1) 77 #[.bool false, .int .u64 0, .int .u64 0] ∧ Blk W (w.heap.size + 1 + 1 + 1) 77 #[.bool false, .int .u64 0, .int .u64 0])
          (Reg.inl [4]) (Reg.ge [(4, .bool false)]) Reg.None_ (fun _ => Reg.Any) (fun _ _ => False) (Reg.pl []) (Reg.pl [])
          (by kernel_rfl) (by kernel_rfl) (by kernel_rfl) (Reg.ge_some _) (fun v => ?_) (fun _ _ _ _ _ h => h) (fun _ _ _ _ _ _ _ _ _ _ _ _ _ => Reg.none_) (fun _ _ _ _ h => h.elim) (fun ops' Q' hops hQ => ?_)
        · exact ⟨(by first | with_reducible exact Below.drew B | with_reducible exact Below.drew (belowN B _) | (repeat' first | with_reducible assumption | with_reducible exact Below.refl _ _ | with_reducible refine Below.alloc ?_ ?_ _ | with_reducible refine Below.drew ?_ | with_reducible refine belowN ?_ _ | with_reducible refine Below.setCell ?_ ?_ _ | go_size)), (show Blk _ _ _ #[.bool (negB (a * c)), .int .u64 (aHi (a * c)), .int .u64 (aLo (a * c)), .bool (negB (a * d)), .int .u64 (aHi (a * d)), .int .u64 (aLo (a * d)), .bool (negB (b * c)), .int .u64 (aHi (b * c)), .int .u64 (aLo (b * c)), .bool (negB (b * d)), .int .u64 (aHi (b * d)), .int .u64 (aLo (b * d))] from (by first | with_reducible exact oL | (repeat' first | with_reducible assumption | (with_reducible refine Blk.new' ?_; first | with_reducible rfl | (simp only [World.size_alloc, World.size_setCell, World.size_drew]; done)) | with_reducible refine Blk.alloc ?_ _ | with_reducible refine Blk.drew ?_ | with_reducible refine Blk.drewN ?_ _ | with_reducible apply Blk.both | with_reducible refine Blk.far' ?_ ?_ | (show _ ≠ _; omega)))), (show Blk _ _ _ #[.bool (negB (mn (a * c) (a * d))), .int .u64 (aHi (mn (a * c) (a * d))), .int .u64 (aLo (mn (a * c) (a * d)))] from (by first | with_reducible exact oX | (repeat' first | with_reducible assumption | (with_reducible refine Blk.new' ?_; first | with_reducible rfl | (simp only [World.size_alloc, World.size_setCell, World.size_drew]; done)) | with_reducible refine Blk.alloc ?_ _ | with_reducible refine Blk.drew ?_ | with_reducible refine Blk.drewN ?_ _ | with_reducible apply Blk.both | with_reducible refine Blk.far' ?_ ?_ | (show _ ≠ _; omega)))), (show Blk _ _ _ #[.bool (negB (mx (a * c) (a * d))), .int .u64 (aHi (mx (a * c) (a * d))), .int .u64 (aLo (mx (a * c) (a * d)))] from (by first | with_reducible exact oY | (repeat' first | with_reducible assumption | (with_reducible refine Blk.new' ?_; first | with_reducible rfl | (simp only [World.size_alloc, World.size_setCell, World.size_drew]; done)) | with_reducible refine Blk.alloc ?_ _ | with_reducible refine Blk.drew ?_ | with_reducible refine Blk.drewN ?_ _ | with_reducible apply Blk.both | with_reducible refine Blk.far' ?_ ?_ | (show _ ≠ _; omega)))), (show Blk _ _ _ #[.bool false, .int .u64 0, .int .u64 0] from (by first | with_reducible exact oP | (repeat' first | with_reducible assumption | (with_reducible refine Blk.new' ?_; first | with_reducible rfl | (simp only [World.size_alloc, World.size_setCell, World.size_drew]; done)) | with_reducible refine Blk.alloc ?_ _ | with_reducible refine Blk.drew ?_ | with_reducible refine Blk.drewN ?_ _ | with_reducible apply Blk.both | with_reducible refine Blk.far' ?_ ?_ | (show _ ≠ _; omega)))), (show Blk _ _ _ #[.bool false, .int .u64 0, .int .u64 0] from (by first | with_reducible exact oQ | (repeat' first | with_reducible assumption | (with_reducible refine Blk.new' ?_; first | with_reducible rfl | (simp only [World.size_alloc, World.size_setCell, World.size_drew]; done)) | with_reducible refine Blk.alloc ?_ _ | with_reducible refine Blk.drew ?_ | with_reducible refine Blk.drewN ?_ _ | with_reducible apply Blk.both | with_reducible refine Blk.far' ?_ ?_ | (show _ ≠ _; omega))))⟩
        clear B oL oX oY oP oQ
        apply Reg.RC_pure (hc := rfl) (hst := rfl) (hw := rfl) (t := 39) (hd := rfl) (ht := Nat.le_of_ble_eq_true rfl)
        · intro D v W hc hj hf K hK
          go_step
          exact hK.out
        · rfl
        apply Reg.RC_pure (hc := rfl) (hst := rfl) (hw := rfl) (t := 40) (hd := rfl) (ht := Nat.le_of_ble_eq_true rfl)
        · intro D v W hc hj hf K hK
          go_step
          exact hK.out
        · rfl
        apply Reg.RC_pure (hc := rfl) (hst := rfl) (hw := rfl) (t := 41) (hd := rfl) (ht := Nat.le_of_ble_eq_true rfl)
        · intro D v W hc hj hf K hK
          obtain ⟨B, oL, oX, oY, oP, oQ⟩ := hj
          have cL0 : World.cell? W ⟨gL, 0, none⟩ = some (.bool (negB (a * c))) := oL.c 0 rfl
          have cL1 : World.cell? W ⟨gL, 1, none⟩ = some (.int .u64 (aHi (a * c))) := oL.c 1 rfl
          have cL2 : World.cell? W ⟨gL, 2, none⟩ = some (.int .u64 (aLo (a * c))) := oL.c 2 rfl
          have cL3 : World.cell? W ⟨gL, 3, none⟩ = some (.bool (negB (a * d))) := oL.c 3 rfl
          have cL4 : World.cell? W ⟨gL, 4, none⟩ = some (.int .u64 (aHi (a * d))) := oL.c 4 rfl
          have cL5 : World.cell? W ⟨gL, 5, none⟩ = some (.int .u64 (aLo (a * d))) := oL.c 5 rfl
          have cL6 : World.cell? W ⟨gL, 6, none⟩ = some (.bool (negB (b * c))) := oL.c 6 rfl
          have cL7 : World.cell? W ⟨gL, 7, none⟩ = some (.int .u64 (aHi (b * c))) := oL.c 7 rfl
          have cL8 : World.cell? W ⟨gL, 8, none⟩ = some (.int .u64 (aLo (b * c))) := oL.c 8 rfl
          have cL9 : World.cell? W ⟨gL, 9, none⟩ = some (.bool (negB (b * d))) := oL.c 9 rfl
          have cL10 : World.cell? W ⟨gL, 10, none⟩ = some (.int .u64 (aHi (b * d))) := oL.c 10 rfl
          have cL11 : World.cell? W ⟨gL, 11, none⟩ = some (.int .u64 (aLo (b * d))) := oL.c 11 rfl
          go_step
          exact hK.out
        · rfl
        apply Reg.RC_pure (hc := rfl) (hst := rfl) (hw := rfl) (t := 42) (hd := rfl) (ht := Nat.le_of_ble_eq_true rfl)
        · intro D v W hc hj hf K hK
          obtain ⟨B, oL, oX, oY, oP, oQ⟩ := hj
          have cX0 : World.cell? W ⟨gX, 0, none⟩ = some (.bool (negB (mn (a * c) (a * d)))) := oX.c 0 rfl
          have cX1 : World.cell? W ⟨gX, 1, none⟩ = some (.int .u64 (aHi (mn (a * c) (a * d)))) := oX.c 1 rfl
          have cX2 : World.cell? W ⟨gX, 2, none⟩ = some (.int .u64 (aLo (mn (a * c) (a * d)))) := oX.c 2 rfl
          go_step
          exact hK.out
        · rfl
        refine Reg.RC_exact _ (fun _ h => h) rfl (by intro t ht; cases ht; exact Nat.le_of_ble_eq_true rfl) rfl (fun D v W hc hj hf K hK => ?_) (Reg.RC_at (b := ⟨#[_, _, _, _, _, _, _, _, _, _, _, _, _, _, _, _, _, _, _, _, _, _, _, _, _, _, _, _, _, _, _, _, _, _, _, _, _, _, _, _, _, _, _, _, _, _, _, _, _, _, _, _, _, _, _, _, _], []⟩) rfl ?_)
        · obtain ⟨B, oL, oX, oY, oP, oQ⟩ := hj
          go_step
          refine (rless_q _ _ _ _ D1.out).mono ?_
          rintro e W' ⟨rfl, hb⟩
          have st : Steps W W' := hb
          exact hK.out _ _ Reg.any ⟨below_steps B (Nat.le_refl _) st, oL.steps st, oX.steps st, oY.steps st, oP.steps st, oQ.steps st⟩ Reg.none_ rfl
        refine Reg.RC_end (fun D v W hd hj hf => ?_)
        obtain ⟨B, oL, oX, oY, oP, oQ⟩ := hj
        clear hd hf
        refine hQ _ _ ?_
        clear hQ hops Q' ops'
        have lL := oL.lt
        have fL := oL.fr
        have cL6 := oL.c 6 rfl
        have cL7 := oL.c 7 rfl
        have cL8 := oL.c 8 rfl
        have lX := oX.lt
        have fX := oX.fr
        have cX0 := oX.c 0 rfl
        have cX1 := oX.c 1 rfl
        have cX2 := oX.c 2 rfl
        have lY := oY.lt
        have fY := oY.fr
        have cY0 := oY.c 0 rfl
        have cY1 := oY.c 1 rfl
        have cY2 := oY.c 2 rfl
        go_wp2_with fail
        clear lL lX lY fL fX fY cL6 cL7 cL8 cX0 cX1 cX2 cY0 cY1 cY2
        refine Reg.wp_chain (fun D v W => Below w.heap.size w W ∧ Blk W (gL) 109 #[.bool (negB (a * c)), .int .u64 (aHi (a * c)), .int .u64 (aLo (a * c)), .bool (negB (a * d)), .int .u64 (aHi (a * d)), .int .u64 (aLo (a * d)), .bool (negB (b * c)), .int .u64 (aHi (b * c)), .int .u64 (aLo (b * c)), .bool (negB (b * d)), .int .u64 (aHi (b * d)), .int .u64 (aLo (b * d))] ∧ Blk W (gX) 77 #[.bool (negB (mn (a * c) (a * d))), .int .u64 (aHi (mn (a * c) (a * d))), .int .u64 (aLo (mn (a * c) (a * d)))] ∧ Blk W (gY) 77 #[.bool (negB (mx (a * c) (a * d))), .int .u64 (aHi (mx (a * c) (a * d))), .int .u64 (aLo (mx (a * c) (a * d)))] ∧ Blk W (w.heap.size + 1 + 1) 77 #[.bool false, .int .u64 0, .int .u64 0] ∧ Blk W (w.heap.size + 1 + 1 + 1) 77 #[.bool false, .int .u64 0, .int .u64 0])
          (Reg.inl [4]) (Reg.ge [(4, .bool true)]) Reg.None_ (fun _ => Reg.Any) (fun _ _ => False) (Reg.pl []) (Reg.pl [])
          (by kernel_rfl) (by kernel_rfl) (by kernel_rfl) (Reg.ge_some _) (fun v => ?_) (fun _ _ _ _ _ h => h) (fun _ _ _ _ _ _ _ _ _ _ _ _ _ => Reg.none_) (fun _ _ _ _ h => h.elim) (fun ops' Q' hops hQ => ?_)
        · exact ⟨(by first | with_reducible exact Below.drew B | with_reducible exact Below.drew (belowN B _) | (repeat' first | with_reducible assumption | with_reducible exact Below.refl _ _ | with_reducible refine Below.alloc ?_ ?_ _ | with_reducible refine Below.drew ?_ | with_reducible refine belowN ?_ _ | with_reducible refine Below.setCell ?_ ?_ _ | go_size)), (show Blk _ _ _ #[.bool (negB (a * c)), .int .u64 (aHi (a * c)), .int .u64 (aLo (a * c)), .bool (negB (a * d)), .int .u64 (aHi (a * d)), .int .u64 (aLo (a * d)), .bool (negB (b * c)), .int .u64 (aHi (b * c)), .int .u64 (aLo (b * c)), .bool (negB (b * d)), .int .u64 (aHi (b * d)), .int .u64 (aLo (b * d))] from (by first | with_reducible exact oL | (repeat' first | with_reducible assumption | (with_reducible refine Blk.new' ?_; first | with_reducible rfl | (simp only [World.size_alloc, World.size_setCell, World.size_drew]; done)) | with_reducible refine Blk.alloc ?_ _ | with_reducible refine Blk.drew ?_ | with_reducible refine Blk.drewN ?_ _ | with_reducible apply Blk.both | with_reducible refine Blk.far' ?_ ?_ | (show _ ≠ _; omega)))), (show Blk _ _ _ #[.bool (negB (mn (a * c) (a * d))), .int .u64 (aHi (mn (a * c) (a * d))), .int .u64 (aLo (mn (a * c) (a * d)))] from (by first | with_reducible exact oX | (repeat' first | with_reducible assumption | (with_reducible refine Blk.new' ?_; first | with_reducible rfl | (simp only [World.size_alloc, World.size_setCell, World.size_drew]; done)) | with_reducible refine Blk.alloc ?_ _ | with_reducible refine Blk.drew ?_ | with_reducible refine Blk.drewN ?_ _ | with_reducible apply Blk.both | with_reducible refine Blk.far' ?_ ?_ | (show _ ≠ _; omega)))), (show Blk _ _ _ #[.bool (negB (mx (a * c) (a * d))), .int .u64 (aHi (mx (a * c) (a * d))), .int .u64 (aLo (mx (a * c) (a * d)))] from (by first | with_reducible exact oY | (repeat' first | with_reducible assumption | (with_reducible refine Blk.new' ?_; first | with_reducible rfl | (simp only [World.size_alloc, World.size_setCell, World.size_drew]; done)) | with_reducible refine Blk.alloc ?_ _ | with_reducible refine Blk.drew ?_ | with_reducible refine Blk.drewN ?_ _ | with_reducible apply Blk.both | with_reducible refine Blk.far' ?_ ?_ | (show _ ≠ _; omega)))), (show Blk _ _ _ #[.bool false, .int .u64 0, .int .u64 0] from (by first | with_reducible exact oP | (repeat' first | with_reducible assumption | (with_reducible refine Blk.new' ?_; first | with_reducible rfl | (simp only [World.size_alloc, World.size_setCell, World.size_drew]; done)) | with_reducible refine Blk.alloc ?_ _ | with_reducible refine Blk.drew ?_ | with_reducible refine Blk.drewN ?_ _ | with_reducible apply Blk.both | with_reducible refine Blk.far' ?_ ?_ | (show _ ≠ _; omega)))), (show Blk _ _ _ #[.bool false, .int .u64 0, .int .u64 0] from (by first | with_reducible exact oQ | (repeat' first | with_reducible assumption | (with_reducible refine Blk.new' ?_; first | with_reducible rfl | (simp only [World.size_alloc, World.size_setCell, World.size_drew]; done)) | with_reducible refine Blk.alloc ?_ _ | with_reducible refine Blk.drew ?_ | with_reducible refine Blk.drewN ?_ _ | with_reducible apply Blk.both | with_reducible refine Blk.far' ?_ ?_ | (show _ ≠ _; omega))))⟩
        clear B oL oX oY oP oQ
        apply Reg.RC_pure (hc := rfl) (hst := rfl) (hw := rfl) (t := 47) (hd := rfl) (ht := Nat.le_of_ble_eq_true rfl)
        · intro D v W hc hj hf K hK
          obtain ⟨B, oL, oX, oY, oP, oQ⟩ := hj
          have cY0 : World.cell? W ⟨gY, 0, none⟩ = some (.bool (negB (mx (a * c) (a * d)))) := oY.c 0 rfl
          have cY1 : World.cell? W ⟨gY, 1, none⟩ = some (.int .u64 (aHi (mx (a * c) (a * d)))) := oY.c 1 rfl
          have cY2 : World.cell? W ⟨gY, 2, none⟩ = some (.int .u64 (aLo (mx (a * c) (a * d)))) := oY.c 2 rfl
          go_step
          exact hK.out
        · rfl
        apply Reg.RC_pure (hc := rfl) (hst := rfl) (hw := rfl) (t := 48) (hd := rfl) (ht := Nat.le_of_ble_eq_true rfl)
        · intro D v W hc hj hf K hK
          go_step
          exact hK.out
        · rfl
        apply Reg.RC_pure (hc := rfl) (hst := rfl) (hw := rfl) (t := 49) (hd := rfl) (ht := Nat.le_of_ble_eq_true rfl)
        · intro D v W hc hj hf K hK
          go_step
          exact hK.out
        · rfl
        apply Reg.RC_pure (hc := rfl) (hst := rfl) (hw := rfl) (t := 50) (hd := rfl) (ht := Nat.le_of_ble_eq_true rfl)
        · intro D v W hc hj hf K hK
          obtain ⟨B, oL, oX, oY, oP, oQ⟩ := hj
          have cL0 : World.cell? W ⟨gL, 0, none⟩ = some (.bool (negB (a * c))) := oL.c 0 rfl
          have cL1 : World.cell? W ⟨gL, 1, none⟩ = some (.int .u64 (aHi (a * c))) := oL.c 1 rfl
          have cL2 : World.cell? W ⟨gL, 2, none⟩ = some (.int .u64 (aLo (a * c))) := oL.c 2 rfl
          have cL3 : World.cell? W ⟨gL, 3, none⟩ = some (.bool (negB (a * d))) := oL.c 3 rfl
          have cL4 : World.cell? W ⟨gL, 4, none⟩ = some (.int .u64 (aHi (a * d))) := oL.c 4 rfl
          have cL5 : World.cell? W ⟨gL, 5, none⟩ = some (.int .u64 (aLo (a * d))) := oL.c 5 rfl
          have cL6 : World.cell? W ⟨gL, 6, none⟩ = some (.bool (negB (b * c))) := oL.c 6 rfl
          have cL7 : World.cell? W ⟨gL, 7, none⟩ = some (.int .u64 (aHi (b * c))) := oL.c 7 rfl
          have cL8 : World.cell? W ⟨gL, 8, none⟩ = some (.int .u64 (aLo (b * c))) := oL.c 8 rfl
          have cL9 : World.cell? W ⟨gL, 9, none⟩ = some (.bool (negB (b * d))) := oL.c 9 rfl
          have cL10 : World.cell? W ⟨gL, 10, none⟩ = some (.int .u64 (aHi (b * d))) := oL.c 10 rfl
          have cL11 : World.cell? W ⟨gL, 11, none⟩ = some (.int .u64 (aLo (b * d))) := oL.c 11 rfl
          go_step
          exact hK.out
        · rfl
        refine Reg.RC_exact _ (fun _ h => h) rfl (by intro t ht; cases ht; exact Nat.le_of_ble_eq_true rfl) rfl (fun D v W hc hj hf K hK => ?_) (Reg.RC_at (b := ⟨#[_, _, _, _, _, _, _, _, _, _, _, _, _, _, _, _, _, _, _, _, _, _, _, _, _, _, _, _, _, _, _, _, _, _, _, _, _, _, _, _, _, _, _, _, _, _, _, _, _, _, _, _, _, _, _, _, _], []⟩) rfl ?_)
        · obtain ⟨B, oL, oX, oY, oP, oQ⟩ := hj
          go_step
          refine (rless_q _ _ _ _ D2.out).mono ?_
          rintro e W' ⟨rfl, hb⟩
          have st : Steps W W' := hb
          exact hK.out _ _ Reg.any ⟨below_steps B (Nat.le_refl _) st, oL.steps st, oX.steps st, oY.steps st, oP.steps st, oQ.steps st⟩ Reg.none_ rfl
        refine Reg.RC_end (fun D v W hd hj hf => ?_)
        obtain ⟨B, oL, oX, oY, oP, oQ⟩ := hj
        clear hd hf
        refine hQ _ _ ?_
        clear hQ hops Q' ops'
        have lL := oL.lt
        have fL := oL.fr
        have cL6 := oL.c 6 rfl
        have cL7 := oL.c 7 rfl
        have cL8 := oL.c 8 rfl
        have lX := oX.lt
        have fX := oX.fr
        have cX0 := oX.c 0 rfl
        have cX1 := oX.c 1 rfl
        have cX2 := oX.c 2 rfl
        have lY := oY.lt
        have fY := oY.fr
        have cY0 := oY.c 0 rfl
        have cY1 := oY.c 1 rfl
        have cY2 := oY.c 2 rfl
        go_wp2_with fail
        go_roundw
        case rel =>
          refine ⟨3, by omega, rfl, ?_, ?_, ?_, ?_, ?_, ?_⟩
          · exact Blk.far' (Blk.far' (Blk.far' oL sLY2) sLY2) sLY2
          · show Blk _ gX 77 #[.bool (negB (mn (mn (a * c) (a * d)) (b * c))), .int .u64 (aHi (mn (mn (a * c) (a * d)) (b * c))), .int .u64 (aLo (mn (mn (a * c) (a * d)) (b * c)))]
            rw [E1.out]
            exact Blk.far' (Blk.far' (Blk.far' oX nXY) nXY) nXY
          · show Blk _ gY 77 #[.bool (negB (mx (mx (a * c) (a * d)) (b * c))), .int .u64 (aHi (mx (mx (a * c) (a * d)) (b * c))), .int .u64 (aLo (mx (mx (a * c) (a * d)) (b * c)))]
            rw [E2.out]
            exact Blk.set_ (Blk.set_ (Blk.set_ oY 0 _) 1 _) 2 _
          · exact Blk.far' (Blk.far' (Blk.far' oP sPY) sPY) sPY
          · exact Blk.far' (Blk.far' (Blk.far' oQ sQY) sQY) sQY
          · (repeat' first | with_reducible assumption | with_reducible exact Below.refl _ _ | with_reducible refine Below.alloc ?_ ?_ _ | with_reducible refine Below.drew ?_ | with_reducible refine belowN ?_ _ | with_reducible refine Below.setCell ?_ ?_ _ | go_size)
        case measure => simp [intOf] <;> omega
      · have D1 : Hid (decide (b * c < mn (a * c) (a * d)) = false) := by show decide _ = _; simp <;> omega
        have D2 : Hid (decide (mx (a * c) (a * d) < b * c) = false) := by show decide _ = _; simp <;> omega
        have E1 : Hid (mn (mn (a * c) (a * d)) (b * c) = mn (a * c) (a * d)) := mn_ge h1
        have E2 : Hid (mx (mx (a * c) (a * d)) (b * c) = mx (a * c) (a * d)) := mx_ge h2
        clear h1 h2
        go_wp2_with fail
        refine Reg.wp_chain (fun D v W => Below w.heap.size w W ∧ Blk W (gL) 109 #[.bool (negB (a * c)), .int .u64 (aHi (a * c)), .int .u64 (aLo (a * c)), .bool (negB (a * d)), .int .u64 (aHi (a * d)), .int .u64 (aLo (a * d)), .bool (negB (b * c)), .int .u64 (aHi (b * c)), .int .u64 (aLo (b * c)), .bool (negB (b * d)), .int .u64 (aHi (b * d)), .int .u64 (aLo (b * d))] ∧ Blk W (gX) 77 #[.bool (negB (mn (a * c) (a * d))), .int .u64 (aHi (mn (a * c) (a * d))), .int .u64 (aLo (mn (a * c) (a * d)))] ∧ Blk W (gY) 77 #[.bool (negB (mx (a * c) (a * d))), .int .u64 (aHi (mx (a * c) (a * d))), .int .u64 (aLo (mx (a * c) (a * d)))] ∧ Blk W (w.heap.size + 1 + 1) 77 #[.bool false, .int .u64 0, .int .u64 0] ∧ Blk W (w.heap.size + 1 + 1 + 1) 77 #[.bool false, .int .u64 0, .int .u64 0])
          (Reg.inl [4]) (Reg.ge [(4, .bool false)]) Reg.None_ (fun _ => Reg.Any) (fun _ _ => False) (Reg.pl []) (Reg.pl [])
          (by kernel_rfl) (by kernel_rfl) (by kernel_rfl) (Reg.ge_some _) (fun v => ?_) (fun _ _ _ _ _ h => h) (fun _ _ _ _ _ _ _ _ _ _ _ _ _ => Reg.none_) (fun _ _ _ _ h => h.elim) (fun ops' Q' hops hQ => ?_)
        · exact ⟨(by first | with_reducible exact Below.drew B | with_reducible exact Below.drew (belowN B _) | (repeat' first | with_reducible assumption | with_reducible exact Below.refl _ _ | with_reducible refine Below.alloc ?_ ?_ _ | with_reducible refine Below.drew ?_ | with_reducible refine belowN ?_ _ | with_reducible refine Below.setCell ?_ ?_ _ | go_size)), (show Blk _ _ _ #[.bool (negB (a * c)), .int .u64 (aHi (a * c)), .int .u64 (aLo (a * c)), .bool (negB (a * d)), .int .u64 (aHi (a * d)), .int .u64 (aLo (a * d)), .bool (negB (b * c)), .int .u64 (aHi (b * c)), .int .u64 (aLo (b * c)), .bool (negB (b * d)), .int .u64 (aHi (b * d)), .int .u64 (aLo (b * d))] from (by first | with_reducible exact oL | (repeat' first | with_reducible assumption | (with_reducible refine Blk.new' ?_; first | with_reducible rfl | (simp only [World.size_alloc, World.size_setCell, World.size_drew]; done)) | with_reducible refine Blk.alloc ?_ _ | with_reducible refine Blk.drew ?_ | with_reducible refine Blk.drewN ?_ _ | with_reducible apply Blk.both | with_reducible refine Blk.far' ?_ ?_ | (show _ ≠ _; omega)))), (show Blk _ _ _ #[.bool (negB (mn (a * c) (a * d))), .int .u64 (aHi (mn (a * c) (a * d))), .int .u64 (aLo (mn (a * c) (a * d)))] from (by first | with_reducible exact oX | (repeat' first | with_reducible assumption | (with_reducible refine Blk.new' ?_; first | with_reducible rfl | (simp only [World.size_alloc, World.size_setCell, World.size_drew]; done)) | with_reducible refine Blk.alloc ?_ _ | with_reducible refine Blk.drew ?_ | with_reducible refine Blk.drewN ?_ _ | with_reducible apply Blk.both | with_reducible refine Blk.far' ?_ ?_ | (show _ ≠ _; omega)))), (show Blk _ _ _ #[.bool (negB (mx (a * c) (a * d))), .int .u64 (aHi (mx (a * c) (a * d))), .int .u64 (aLo (mx (a * c) (a * d)))] from (by first | with_reducible exact oY | (repeat' first | with_reducible assumption | (with_reducible refine Blk.new' ?_; first | with_reducible rfl | (simp only [World.size_alloc, World.size_setCell, World.size_drew]; done)) | with_reducible refine Blk.alloc ?_ _ | with_reducible refine Blk.drew ?_ | with_reducible refine Blk.drewN ?_ _ | with_reducible apply Blk.both | with_reducible refine Blk.far' ?_ ?_ | (show _ ≠ _; omega)))), (show Blk _ _ _ #[.bool false, .int .u64 0, .int .u64 0] from (by first | with_reducible exact oP | (repeat' first | with_reducible assumption | (with_reducible refine Blk.new' ?_; first | with_reducible rfl | (simp only [World.size_alloc, World.size_setCell, World.size_drew]; done)) | with_reducible refine Blk.alloc ?_ _ | with_reducible refine Blk.drew ?_ | with_reducible refine Blk.drewN ?_ _ | with_reducible apply Blk.both | with_reducible refine Blk.far' ?_ ?_ | (show _ ≠ _; omega)))), (show Blk _ _ _ #[.bool false, .int .u64 0, .int .u64 0] from (by first | with_reducible exact oQ | (repeat' first | with_reducible assumption | (with_reducible refine Blk.new' ?_; first | with_reducible rfl | (simp only [World.size_alloc, World.size_setCell, World.size_drew]; done)) | with_reducible refine Blk.alloc ?_ _ | with_reducible refine Blk.drew ?_ | with_reducible refine Blk.drewN ?_ _ | with_reducible apply Blk.both | with_reducible refine Blk.far' ?_ ?_ | (show _ ≠ _; omega))))⟩
        clear B oL oX oY oP oQ
        apply Reg.RC_pure (hc := rfl) (hst := rfl) (hw := rfl) (t := 39) (hd := rfl) (ht := Nat.le_of_ble_eq_true rfl)
        · intro D v W hc hj hf K hK
          go_step
          exact hK.out
        · rfl
        apply Reg.RC_pure (hc := rfl) (hst := rfl) (hw := rfl) (t := 40) (hd := rfl) (ht := Nat.le_of_ble_eq_true rfl)
        · intro D v W hc hj hf K hK
          go_step
          exact hK.out
        · rfl
        apply Reg.RC_pure (hc := rfl) (hst := rfl) (hw := rfl) (t := 41) (hd := rfl) (ht := Nat.le_of_ble_eq_true rfl)
        · intro D v W hc hj hf K hK
          obtain ⟨B, oL, oX, oY, oP, oQ⟩ := hj
          have cL0 : World.cell? W ⟨gL, 0, none⟩ = some (.bool (negB (a * c))) := oL.c 0 rfl
          have cL1 : World.cell? W ⟨gL, 1, none⟩ = some (.int .u64 (aHi (a * c))) := oL.c 1 rfl
          have cL2 : World.cell? W ⟨gL, 2, none⟩ = some (.int .u64 (aLo (a * c))) := oL.c 2 rfl
          have cL3 : World.cell? W ⟨gL, 3, none⟩ = some (.bool (negB (a * d))) := oL.c 3 rfl
          have cL4 : World.cell? W ⟨gL, 4, none⟩ = some (.int .u64 (aHi (a * d))) := oL.c 4 rfl
          have cL5 : World.cell? W ⟨gL, 5, none⟩ = some (.int .u64 (aLo (a * d))) := oL.c 5 rfl
          have cL6 : World.cell? W ⟨gL, 6, none⟩ = some (.bool (negB (b * c))) := oL.c 6 rfl
          have cL7 : World.cell? W ⟨gL, 7, none⟩ = some (.int .u64 (aHi (b * c))) := oL.c 7 rfl
          have cL8 : World.cell? W ⟨gL, 8, none⟩ = some (.int .u64 (aLo (b * c))) := oL.c 8 rfl
          have cL9 : World.cell? W ⟨gL, 9, none⟩ = some (.bool (negB (b * d))) := oL.c 9 rfl
          have cL10 : World.cell? W ⟨gL, 10, none⟩ = some (.int .u64 (aHi (b * d))) := oL.c 10 rfl
          have cL11 : World.cell? W ⟨gL, 11, none⟩ = some (.int .u64 (aLo (b * d))) := oL.c 11 rfl
          go_step
          exact hK.out
        · rfl
        apply Reg.RC_pure (hc := rfl) (hst := rfl) (hw := rfl) (t := 42) (hd := rfl) (ht := Nat.le_of_ble_eq_true rfl)
        · intro D v W hc hj hf K hK
          obtain ⟨B, oL, oX, oY, oP, oQ⟩ := hj
          have cX0 : World.cell? W ⟨gX, 0, none⟩ = some (.bool (negB (mn (a * c) (a * d)))) := oX.c 0 rfl
          have cX1 : World.cell? W ⟨gX, 1, none⟩ = some (.int .u64 (aHi (mn (a * c) (a * d)))) := oX.c 1 rfl
          have cX2 : World.cell? W ⟨gX, 2, none⟩ = some (.int .u64 (aLo (mn (a * c) (a * d)))) := oX.c 2 rfl
          go_step
          exact hK.out
        · rfl
        refine Reg.RC_exact _ (fun _ h => h) rfl (by intro t ht; cases ht; exact Nat.le_of_ble_eq_true rfl) rfl (fun D v W hc hj hf K hK => ?_) (Reg.RC_at (b := ⟨#[_, _, _, _, _, _, _, _, _, _, _, _, _, _, _, _, _, _, _, _, _, _, _, _, _, _, _, _, _, _, _, _, _, _, _, _, _, _, _, _, _, _, _, _, _, _, _, _, _, _, _, _, _, _, _, _, _], []⟩) rfl ?_)
        · obtain ⟨B, oL, oX, oY, oP, oQ⟩ := hj
          go_step
          refine (rless_q _ _ _ _ D1.out).mono ?_
          rintro e W' ⟨rfl, hb⟩
          have st : Steps W W' := hb
          exact hK.out _ _ Reg.any ⟨below_steps B (Nat.le_refl _) st, oL.steps st, oX.steps st, oY.steps st, oP.steps st, oQ.steps st⟩ Reg.none_ rfl
        refine Reg.RC_end (fun D v W hd hj hf => ?_)
        obtain ⟨B, oL, oX, oY, oP, oQ⟩ := hj
        clear hd hf
        refine hQ _ _ ?_
        clear hQ hops Q' ops'
        have lL := oL.lt
        have fL := oL.fr
        have cL6 := oL.c 6 rfl
        have cL7 := oL.c 7 rfl
        have cL8 := oL.c 8 rfl
        have lX := oX.lt
        have fX := oX.fr
        have cX0 := oX.c 0 rfl
        have cX1 := oX.c 1 rfl
        have cX2 := oX.c 2 rfl
        have lY := oY.lt
        have fY := oY.fr
        have cY0 := oY.c 0 rfl
        have cY1 := oY.c 1 rfl
        have cY2 := oY.c 2 rfl
        go_wp2_with fail
        clear lL lX lY fL fX fY cL6 cL7 cL8 cX0 cX1 cX2 cY0 cY1 cY2
        refine Reg.wp_chain (fun D v W => Below w.heap.size w W ∧ Blk W (gL) 109 #[.bool (negB (a * c)), .int .u64 (aHi (a * c)), .int .u64 (aLo (a * c)), .bool (negB (a * d)), .int .u64 (aHi (a * d)), .int .u64 (aLo (a * d)), .bool (negB (b * c)), .int .u64 (aHi (b * c)), .int .u64 (aLo (b * c)), .bool (negB (b * d)), .int .u64 (aHi (b * d)), .int .u64 (aLo (b * d))] ∧ Blk W (gX) 77 #[.bool (negB (mn (a * c) (a * d))), .int .u64 (aHi (mn (a * c) (a * d))), .int .u64 (aLo (mn (a * c) (a * d)))] ∧ Blk W (gY) 77 #[.bool (negB (mx (a * c) (a * d))), .int .u64 (aHi (mx (a * c) (a * d))), .int .u64 (aLo (mx (a * c) (a * d)))] ∧ Blk W (w.heap.size + 1 + 1) 77 #[.bool false, .int .u64 0, .int .u64 0] ∧ Blk W (w.heap.size + 1 + 1 + 1) 77 #[.bool false, .int .u64 0, .int .u64 0])
          (Reg.inl [4]) (Reg.ge [(4, .bool false)]) Reg.None_ (fun _ => Reg.Any) (fun _ _ => False) (Reg.pl []) (Reg.pl [])
          (by kernel_rfl) (by kernel_rfl) (by kernel_rfl) (Reg.ge_some _) (fun v => ?_) (fun _ _ _ _ _ h => h) (fun _ _ _ _ _ _ _ _ _ _ _ _ _ => Reg.none_) (fun _ _ _ _ h => h.elim) (fun ops' Q' hops hQ => ?_)
        · exact ⟨(by first | with_reducible exact Below.drew B | with_reducible exact Below.drew (belowN B _) | (repeat' first | with_reducible assumption | with_reducible exact Below.refl _ _ | with_reducible refine Below.alloc ?_ ?_ _ | with_reducible refine Below.drew ?_ | with_reducible refine belowN ?_ _ | with_reducible refine Below.setCell ?_ ?_ _ | go_size)), (show Blk _ _ _ #[.bool (negB (a * c)), .int .u64 (aHi (a * c)), .int .u64 (aLo (a * c)), .bool (negB (a * d)), .int .u64 (aHi (a * d)), .int .u64 (aLo (a * d)), .bool (negB (b * c)), .int .u64 (aHi (b * c)), .int .u64 (aLo (b * c)), .bool (negB (b * d)), .int .u64 (aHi (b * d)), .int .u64 (aLo (b * d))] from (by first | with_reducible exact oL | (repeat' first | with_reducible assumption | (with_reducible refine Blk.new' ?_; first | with_reducible rfl | (simp only [World.size_alloc, World.size_setCell, World.size_drew]; done)) | with_reducible refine Blk.alloc ?_ _ | with_reducible refine Blk.drew ?_ | with_reducible refine Blk.drewN ?_ _ | with_reducible apply Blk.both | with_reducible refine Blk.far' ?_ ?_ | (show _ ≠ _; omega)))), (show Blk _ _ _ #[.bool (negB (mn (a * c) (a * d))), .int .u64 (aHi (mn (a * c) (a * d))), .int .u64 (aLo (mn (a * c) (a * d)))] from (by first | with_reducible exact oX | (repeat' first | with_reducible assumption | (with_reducible refine Blk.new' ?_; first | with_reducible rfl | (simp only [World.size_alloc, World.size_setCell, World.size_drew]; done)) | with_reducible refine Blk.alloc ?_ _ | with_reducible refine Blk.drew ?_ | with_reducible refine Blk.drewN ?_ _ | with_reducible apply Blk.both | with_reducible refine Blk.far' ?_ ?_ | (show _ ≠ _; omega)))), (show Blk _ _ _ #[.bool (negB (mx (a * c) (a * d))), .int .u64 (aHi (mx (a * c) (a * d))), .int .u64 (aLo (mx (a * c) (a * d)))] from (by first | with_reducible exact oY | (repeat' first | with_reducible assumption | (with_reducible refine Blk.new' ?_; first | with_reducible rfl | (simp only [World.size_alloc, World.size_setCell, World.size_drew]; done)) | with_reducible refine Blk.alloc ?_ _ | with_reducible refine Blk.drew ?_ | with_reducible refine Blk.drewN ?_ _ | with_reducible apply Blk.both | with_reducible refine Blk.far' ?_ ?_ | (show _ ≠ _; omega)))), (show Blk _ _ _ #[.bool false, .int .u64 0, .int .u64 0] from (by first | with_reducible exact oP | (repeat' first | with_reducible assumption | (with_reducible refine Blk.new' ?_; first | with_reducible rfl | (simp only [World.size_alloc, World.size_setCell, World.size_drew]; done)) | with_reducible refine Blk.alloc ?_ _ | with_reducible refine Blk.drew ?_ | with_reducible refine Blk.drewN ?_ _ | with_reducible apply Blk.both | with_reducible refine Blk.far' ?_ ?_ | (show _ ≠ _; omega)))), (show Blk _ _ _ #[.bool false, .int .u64 0, .int .u64 0] from (by first | with_reducible exact oQ | (repeat' first | with_reducible assumption | (with_reducible refine Blk.new' ?_; first | with_reducible rfl | (simp only [World.size_alloc, World.size_setCell, World.size_drew]; done)) | with_reducible refine Blk.alloc ?_ _ | with_reducible refine Blk.drew ?_ | with_reducible refine Blk.drewN ?_ _ | with_reducible apply Blk.both | with_reducible refine Blk.far' ?_ ?_ | (show _ ≠ _; omega))))⟩
        clear B oL oX oY oP oQ
        apply Reg.RC_pure (hc := rfl) (hst := rfl) (hw := rfl) (t := 47) (hd := rfl) (ht := Nat.le_of_ble_eq_true rfl)
        · intro D v W hc hj hf K hK
          obtain ⟨B, oL, oX, oY, oP, oQ⟩ := hj
          have cY0 : World.cell? W ⟨gY, 0, none⟩ = some (.bool (negB (mx (a * c) (a * d)))) := oY.c 0 rfl
          have cY1 : World.cell? W ⟨gY, 1, none⟩ = some (.int .u64 (aHi (mx (a * c) (a * d)))) := oY.c 1 rfl
          have cY2 : World.cell? W ⟨gY, 2, none⟩ = some (.int .u64 (aLo (mx (a * c) (a * d)))) := oY.c 2 rfl
          go_step
          exact hK.out
        · rfl
        apply Reg.RC_pure (hc := rfl) (hst := rfl) (hw := rfl) (t := 48) (hd := rfl) (ht := Nat.le_of_ble_eq_true rfl)
        · intro D v W hc hj hf K hK
          go_step
          exact hK.out
        · rfl
        apply Reg.RC_pure (hc := rfl) (hst := rfl) (hw := rfl) (t := 49) (hd := rfl) (ht := Nat.le_of_ble_eq_true rfl)
        · intro D v W hc hj hf K hK
          go_step
          exact hK.out
        · rfl
        apply Reg.RC_pure (hc := rfl) (hst := rfl) (hw := rfl) (t := 50) (hd := rfl) (ht := Nat.le_of_ble_eq_true rfl)
        · intro D v W hc hj hf K hK
          obtain ⟨B, oL, oX, oY, oP, oQ⟩ := hj
          have cL0 : World.cell? W ⟨gL, 0, none⟩ = some (.bool (negB (a * c))) := oL.c 0 rfl
          have cL1 : World.cell? W ⟨gL, 1, none⟩ = some (.int .u64 (aHi (a * c))) := oL.c 1 rfl
          have cL2 : World.cell? W ⟨gL, 2, none⟩ = some (.int .u64 (aLo (a * c))) := oL.c 2 rfl
          have cL3 : World.cell? W ⟨gL, 3, none⟩ = some (.bool (negB (a * d))) := oL.c 3 rfl
          have cL4 : World.cell? W ⟨gL, 4, none⟩ = some (.int .u64 (aHi (a * d))) := oL.c 4 rfl
          have cL5 : World.cell? W ⟨gL, 5, none⟩ = some (.int .u64 (aLo (a * d))) := oL.c 5 rfl
          have cL6 : World.cell? W ⟨gL, 6, none⟩ = some (.bool (negB (b * c))) := oL.c 6 rfl
          have cL7 : World.cell? W ⟨gL, 7, none⟩ = some (.int .u64 (aHi (b * c))) := oL.c 7 rfl
          have cL8 : World.cell? W ⟨gL, 8, none⟩ = some (.int .u64 (aLo (b * c))) := oL.c 8 rfl
          have cL9 : World.cell? W ⟨gL, 9, none⟩ = some (.bool (negB (b * d))) := oL.c 9 rfl
          have cL10 : World.cell? W ⟨gL, 10, none⟩ = some (.int .u64 (aHi (b * d))) := oL.c 10 rfl
          have cL11 : World.cell? W ⟨gL, 11, none⟩ = some (.int .u64 (aLo (b * d))) := oL.c 11 rfl
          go_step
          exact hK.out
        · rfl
        refine Reg.RC_exact _ (fun _ h => h) rfl (by intro t ht; cases ht; exact Nat.le_of_ble_eq_true rfl) rfl (fun D v W hc hj hf K hK => ?_) (Reg.RC_at (b := ⟨#[_, _, _, _, _, _, _, _, _, _, _, _, _, _, _, _, _, _, _, _, _, _, _, _, _, _, _, _, _, _, _, _, _, _, _, _, _, _, _, _, _, _, _, _, _, _, _, _, _, _, _, _, _, _, _, _, _], []⟩) rfl ?_)
        · obtain ⟨B, oL, oX, oY, oP, oQ⟩ := hj
          go_step
          refine (rless_q _ _ _ _ D2.out).mono ?_
          rintro e W' ⟨rfl, hb⟩
          have st : Steps W W' := hb
          exact hK.out _ _ Reg.any ⟨below_steps B (Nat.le_refl _) st, oL.steps st, oX.steps st, oY.steps st, oP.steps st, oQ.steps st⟩ Reg.none_ rfl
        refine Reg.RC_end (fun D v W hd hj hf => ?_)
        obtain ⟨B, oL, oX, oY, oP, oQ⟩ := hj
        clear hd hf
        refine hQ _ _ ?_
        clear hQ hops Q' ops'
        have lL := oL.lt
        have fL := oL.fr
        have cL6 := oL.c 6 rfl
        have cL7 := oL.c 7 rfl
        have cL8 := oL.c 8 rfl
        have lX := oX.lt
        have fX := oX.fr
        have cX0 := oX.c 0 rfl
        have cX1 := oX.c 1 rfl
        have cX2 := oX.c 2 rfl
        have lY := oY.lt
        have fY := oY.fr
        have cY0 := oY.c 0 rfl
        have cY1 := oY.c 1 rfl
        have cY2 := oY.c 2 rfl
        go_wp2_with fail
        go_roundw
        case rel =>
          refine ⟨3, by omega, rfl, ?_, ?_, ?_, ?_, ?_, ?_⟩
          · exact oL
          · show Blk _ gX 77 #[.bool (negB (mn (mn (a * c) (a * d)) (b * c))), .int .u64 (aHi (mn (mn (a * c) (a * d)) (b * c))), .int .u64 (aLo (mn (mn (a * c) (a * d)) (b * c)))]
            rw [E1.out]
            exact oX
          · show Blk _ gY 77 #[.bool (negB (mx (mx (a * c) (a * d)) (b * c))), .int .u64 (aHi (mx (mx (a * c) (a * d)) (b * c))), .int .u64 (aLo (mx (mx (a * c) (a * d)) (b * c)))]
            rw [E2.out]
            exact oY
          · exact oP
          · exact oQ
          · (repeat' first | with_reducible assumption | with_reducible exact Below.refl _ _ | with_reducible refine Below.alloc ?_ ?_ _ | with_reducible refine Below.drew ?_ | with_reducible refine belowN ?_ _ | with_reducible refine Below.setCell ?_ ?_ _ | go_size)
        case measure => simp [intOf] <;> omega
    · clear k0 k1
      have oX : Blk _ gX 77 #[.bool (negB (mn (mn (a * c) (a * d)) (b * c))), .int .u64 (aHi (mn (mn (a * c) (a * d)) (b * c))), .int .u64 (aLo (mn (mn (a * c) (a * d)) (b * c)))] := oX
      have oY : Blk _ gY 77 #[.bool (negB (mx (mx (a * c) (a * d)) (b * c))), .int .u64 (aHi (mx (mx (a * c) (a * d)) (b * c))), .int .u64 (aLo (mx (mx (a * c) (a * d)) (b * c)))] := oY
      by_cases h1 : b * d < mn (mn (a * c) (a * d)) (b * c)
      all_goals by_cases h2 : mx (mx (a * c) (a * d)) (b * c) < b * d
      · have D1 : Hid (decide (b * d < mn (mn (a * c) (a * d)) (b * c)) = true) := by show decide _ = _; simp <;> omega
        have D2 : Hid (decide (mx (mx (a * c) (a * d)) (b * c) < b * d) = true) := by show decide _ = _; simp <;> omega
        have E1 : Hid (mn (mn (mn (a * c) (a * d)) (b * c)) (b * d) = b * d) := mn_lt h1
        have E2 : Hid (mx (mx (mx (a * c) (a * d)) (b * c)) (b * d) = b * d) := mx_lt h2
        clear h1 h2
        go_wp2_with fail
        refine Reg.wp_chain (fun D v W => Below w.heap.size w W ∧ Blk W (gL) 109 #[.bool (negB (a * c)), .int .u64 (aHi (a * c)), .int .u64 (aLo (a * c)), .bool (negB (a * d)), .int .u64 (aHi (a * d)), .int .u64 (aLo (a * d)), .bool (negB (b * c)), .int .u64 (aHi (b * c)), .int .u64 (aLo (b * c)), .bool (negB (b * d)), .int .u64 (aHi (b * d)), .int .u64 (aLo (b * d))] ∧ Blk W (gX) 77 #[.bool (negB (mn (mn (a * c) (a * d)) (b * c))), .int .u64 (aHi (mn (mn (a * c) (a * d)) (b * c))), .int .u64 (aLo (mn (mn (a * c) (a * d)) (b * c)))] ∧ Blk W (gY) 77 #[.bool (negB (mx (mx (a * c) (a * d)) (b * c))), .int .u64 (aHi (mx (mx (a * c) (a * d)) (b * c))), .int .u64 (aLo (mx (mx (a * c) (a * d)) (b * c)))] ∧ Blk W (w.heap.size + 1 + 1) 77 #[.bool false, .int .u64 0, .int .u64 0] ∧ Blk W (w.heap.size + 1 + 1 + 1) 77 #[.bool false, .int .u64 0, .int .u64 0])
          (Reg.inl [4]) (Reg.ge [(4, .bool true)]) Reg.None_ (fun _ => Reg.Any) (fun _ _ => False) (Reg.pl []) (Reg.pl [])
          (by kernel_rfl) (by kernel_rfl) (by kernel_rfl) (Reg.ge_some _) (fun v => ?_) (fun _ _ _ _ _ h => h) (fun _ _ _ _ _ _ _ _ _ _ _ _ _ => Reg.none_) (fun _ _ _ _ h => h.elim) (fun ops' Q' hops hQ => ?_)
        · exact ⟨(by first | with_reducible exact Below.drew B | with_reducible exact Below.drew (belowN B _) | (repeat' first | with_reducible assumption | with_reducible exact Below.refl _ _ | with_reducible refine Below.alloc ?_ ?_ _ | with_reducible refine Below.drew ?_ | with_reducible refine belowN ?_ _ | with_reducible refine Below.setCell ?_ ?_ _ | go_size)), (show Blk _ _ _ #[.bool (negB (a * c)), .int .u64 (aHi (a * c)), .int .u64 (aLo (a * c)), .bool (negB (a * d)), .int .u64 (aHi (a * d)), .int .u64 (aLo (a * d)), .bool (negB (b * c)), .int .u64 (aHi (b * c)), .int .u64 (aLo (b * c)), .bool (negB (b * d)), .int .u64 (aHi (b * d)), .int .u64 (aLo (b * d))] from (by first | with_reducible exact oL | (repeat' first | with_reducible assumption | (with_reducible refine Blk.new' ?_; first | with_reducible rfl | (simp only [World.size_alloc, World.size_setCell, World.size_drew]; done)) | with_reducible refine Blk.alloc ?_ _ | with_reducible refine Blk.drew ?_ | with_reducible refine Blk.drewN ?_ _ | with_reducible apply Blk.both | with_reducible refine Blk.far' ?_ ?_ | (show _ ≠ _; omega)))), (show Blk _ _ _ #[.bool (negB (mn (mn (a * c) (a * d)) (b * c))), .int .u64 (aHi (mn (mn (a * c) (a * d)) (b * c))), .int .u64 (aLo (mn (mn (a * c) (a * d)) (b * c)))] from (by first | with_reducible exact oX | (repeat' first | with_reducible assumption | (with_reducible refine Blk.new' ?_; first | with_reducible rfl | (simp only [World.size_alloc, World.size_setCell, World.size_drew]; done)) | with_reducible refine Blk.alloc ?_ _ | with_reducible refine Blk.drew ?_ | with_reducible refine Blk.drewN ?_ _ | with_reducible apply Blk.both | with_reducible refine Blk.far' ?_ ?_ | (show _ ≠ _; omega)))), (show Blk _ _ _ #[.bool (negB (mx (mx (a * c) (a * d)) (b * c))), .int .u64 (aHi (mx (mx (a * c) (a * d)) (b * c))), .int .u64 (aLo (mx (mx (a * c) (a * d)) (b * c)))] from (by first | with_reducible exact oY | (repeat' first | with_reducible assumption | (with_reducible refine Blk.new' ?_; first | with_reducible rfl | (simp only [World.size_alloc, World.size_setCell, World.size_drew]; done)) | with_reducible refine Blk.alloc ?_ _ | with_reducible refine Blk.drew ?_ | with_reducible refine Blk.drewN ?_ _ | with_reducible apply Blk.both | with_reducible refine Blk.far' ?_ ?_ | (show _ ≠ _; omega)))), (show Blk _ _ _ #[.bool false, .int .u64 0, .int .u64 0] from (by first | with_reducible exact oP | (repeat' first | with_reducible assumption | (with_reducible refine Blk.new' ?_; first | with_reducible rfl | (simp only [World.size_alloc, World.size_setCell, World.size_drew]; done)) | with_reducible refine Blk.alloc ?_ _ | with_reducible refine Blk.drew ?_ | with_reducible refine Blk.drewN ?_ _ | with_reducible apply Blk.both | with_reducible refine Blk.far' ?_ ?_ | (show _ ≠ _; omega)))), (show Blk _ _ _ #[.bool false, .int .u64 0, .int .u64 0] from (by first | with_reducible exact oQ | (repeat' first | with_reducible assumption | (with_reducible refine Blk.new' ?_; first | with_reducible rfl | (simp only [World.size_alloc, World.size_setCell, World.size_drew]; done)) | with_reducible refine Blk.alloc ?_ _ | with_reducible refine Blk.drew ?_ | with_reducible refine Blk.drewN ?_ _ | with_reducible apply Blk.both | with_reducible refine Blk.far' ?_ ?_ | (show _ ≠ _; omega))))⟩
        clear B oL oX oY oP oQ
        apply Reg.RC_pure (hc := rfl) (hst := rfl) (hw := rfl) (t := 39) (hd := rfl) (ht := Nat.le_of_ble_eq_true rfl)
        · intro D v W hc hj hf K hK
          go_step
          exact hK.out
        · rfl
        apply Reg.RC_pure (hc := rfl) (hst := rfl) (hw := rfl) (t := 40) (hd := rfl) (ht := Nat.le_of_ble_eq_true rfl)
        · intro D v W hc hj hf K hK
          go_step
          exact hK.out
        · rfl
        apply Reg.RC_pure (hc := rfl) (hst := rfl) (hw := rfl) (t := 41) (hd := rfl) (ht := Nat.le_of_ble_eq_true rfl)
        · intro D v W hc hj hf K hK
          obtain ⟨B, oL, oX, oY, oP, oQ⟩ := hj
          have cL0 : World.cell? W ⟨gL, 0, none⟩ = some (.bool (negB (a * c))) := oL.c 0 rfl
          have cL1 : World.cell? W ⟨gL, 1, none⟩ = some (.int .u64 (aHi (a * c))) := oL.c 1 rfl
          have cL2 : World.cell? W ⟨gL, 2, none⟩ = some (.int .u64 (aLo (a * c))) := oL.c 2 rfl
          have cL3 : World.cell? W ⟨gL, 3, none⟩ = some (.bool (negB (a * d))) := oL.c 3 rfl
          have cL4 : World.cell? W ⟨gL, 4, none⟩ = some (.int .u64 (aHi (a * d))) := oL.c 4 rfl
          have cL5 : World.cell? W ⟨gL, 5, none⟩ = some (.int .u64 (aLo (a * d))) := oL.c 5 rfl
          have cL6 : World.cell? W ⟨gL, 6, none⟩ = some (.bool (negB (b * c))) := oL.c 6 rfl
          have cL7 : World.cell? W ⟨gL, 7, none⟩ = some (.int .u64 (aHi (b * c))) := oL.c 7 rfl
          have cL8 : World.cell? W ⟨gL, 8, none⟩ = some (.int .u64 (aLo (b * c))) := oL.c 8 rfl
          have cL9 : World.cell? W ⟨gL, 9, none⟩ = some (.bool (negB (b * d))) := oL.c 9 rfl
          have cL10 : World.cell? W ⟨gL, 10, none⟩ = some (.int .u64 (aHi (b * d))) := oL.c 10 rfl
          have cL11 : World.cell? W ⟨gL, 11, none⟩ = some (.int .u64 (aLo (b * d))) := oL.c 11 rfl
          go_step
          exact hK.out
        · rfl
        apply Reg.RC_pure (hc := rfl) (hst := rfl) (hw := rfl) (t := 42) (hd := rfl) (ht := Nat.le_of_ble_eq_true rfl)
        · intro D v W hc hj hf K hK
          obtain ⟨B, oL, oX, oY, oP, oQ⟩ := hj
          have cX0 : World.cell? W ⟨gX, 0, none⟩ = some (.bool (negB (mn (mn (a * c) (a * d)) (b * c)))) := oX.c 0 rfl
          have cX1 : World.cell? W ⟨gX, 1, none⟩ = some (.int .u64 (aHi (mn (mn (a * c) (a * d)) (b * c)))) := oX.c 1 rfl
          have cX2 : World.cell? W ⟨gX, 2, none⟩ = some (.int .u64 (aLo (mn (mn (a * c) (a * d)) (b * c)))) := oX.c 2 rfl
          go_step
          exact hK.out
        · rfl
        refine Reg.RC_exact _ (fun _ h => h) rfl (by intro t ht; cases ht; exact Nat.le_of_ble_eq_true rfl) rfl (fun D v W hc hj hf K hK => ?_) (Reg.RC_at (b := ⟨#[_, _, _, _, _, _, _, _, _, _, _, _, _, _, _, _, _, _, _, _, _, _, _, _, _, _, _, _, _, _, _, _, _, _, _, _, _, _, _, _, _, _, _, _, _, _, _, _, _, _, _, _, _, _, _, _, _], []⟩) rfl ?_)
        · obtain ⟨B, oL, oX, oY, oP, oQ⟩ := hj
          go_step
          refine (rless_q _ _ _ _ D1.out).mono ?_
          rintro e W' ⟨rfl, hb⟩
          have st : Steps W W' := hb
          exact hK.out _ _ Reg.any ⟨below_steps B (Nat.le_refl _) st, oL.steps st, oX.steps st, oY.steps st, oP.steps st, oQ.steps st⟩ Reg.none_ rfl
        refine Reg.RC_end (fun D v W hd hj hf => ?_)
        obtain ⟨B, oL, oX, oY, oP, oQ⟩ := hj
        clear hd hf
        refine hQ _ _ ?_
        clear hQ hops Q' ops'
        have lL := oL.lt
        have fL := oL.fr
        have cL9 := oL.c 9 rfl
        have cL10 := oL.c 10 rfl
        have cL11 := oL.c 11 rfl
        have lX := oX.lt
        have fX := oX.fr
        have cX0 := oX.c 0 rfl
        have cX1 := oX.c 1 rfl
        have cX2 := oX.c 2 rfl
        have lY := oY.lt
        have fY := oY.fr
        have cY0 := oY.c 0 rfl
        have cY1 := oY.c 1 rfl
        have cY2 := oY.c 2 rfl
        go_wp2_with fail
        clear lL lX lY fL fX fY cL9 cL10 cL11 cX0 cX1 cX2 cY0 cY1 cY2
        refine Reg.wp_chain (fun D v W => Below w.heap.size w W ∧ Blk W (gL) 109 #[.bool (negB (a * c)), .int .u64 (aHi (a * c)), .int .u64 (aLo (a * c)), .bool (negB (a * d)), .int .u64 (aHi (a * d)), .int .u64 (aLo (a * d)), .bool (negB (b * c)), .int .u64 (aHi (b * c)), .int .u64 (aLo (b * c)), .bool (negB (b * d)), .int .u64 (aHi (b * d)), .int .u64 (aLo (b * d))] ∧ Blk W (gX) 77 #[.bool (negB (b * d)), .int .u64 (aHi (b * d)), .int .u64 (aLo (b * d))] ∧ Blk W (gY) 77 #[.bool (negB (mx (mx (a * c) (a * d)) (b * c))), .int .u64 (aHi (mx (mx (a * c) (a * d)) (b * c))), .int .u64 (aLo (mx (mx (a * c) (a * d)) (b * c)))] ∧ Blk W (w.heap.size + 1 + 1) 77 #[.bool false, .int .u64 0, .int .u64 0] ∧ Blk W (w.heap.size + 1 + 1 + 1) 77 #[.bool false, .int .u64 0, .int .u64 0])
          (Reg.inl [4]) (Reg.ge [(4, .bool true)]) Reg.None_ (fun _ => Reg.Any) (fun _ _ => False) (Reg.pl []) (Reg.pl [])
          (by kernel_rfl) (by kernel_rfl) (by kernel_rfl) (Reg.ge_some _) (fun v => ?_) (fun _ _ _ _ _ h => h) (fun _ _ _ _ _ _ _ _ _ _ _ _ _ => Reg.none_) (fun _ _ _ _ h => h.elim) (fun ops' Q' hops hQ => ?_)
        · exact ⟨(by first | with_reducible exact Below.drew B | with_reducible exact Below.drew (belowN B _) | (repeat' first | with_reducible assumption | with_reducible exact Below.refl _ _ | with_reducible refine Below.alloc ?_ ?_ _ | with_reducible refine Below.drew ?_ | with_reducible refine belowN ?_ _ | with_reducible refine Below.setCell ?_ ?_ _ | go_size)), (show Blk _ _ _ #[.bool (negB (a * c)), .int .u64 (aHi (a * c)), .int .u64 (aLo (a * c)), .bool (negB (a * d)), .int .u64 (aHi (a * d)), .int .u64 (aLo (a * d)), .bool (negB (b * c)), .int .u64 (aHi (b * c)), .int .u64 (aLo (b * c)), .bool (negB (b * d)), .int .u64 (aHi (b * d)), .int .u64 (aLo (b * d))] from (by first | with_reducible exact oL | (repeat' first | with_reducible assumption | (with_reducible refine Blk.new' ?_; first | with_reducible rfl | (simp only [World.size_alloc, World.size_setCell, World.size_drew]; done)) | with_reducible refine Blk.alloc ?_ _ | with_reducible refine Blk.drew ?_ | with_reducible refine Blk.drewN ?_ _ | with_reducible apply Blk.both | with_reducible refine Blk.far' ?_ ?_ | (show _ ≠ _; omega)))), (show Blk _ _ _ #[.bool (negB (b * d)), .int .u64 (aHi (b * d)), .int .u64 (aLo (b * d))] from (Blk.set_ (Blk.set_ (Blk.set_ oX 0 _) 1 _) 2 _)), (show Blk _ _ _ #[.bool (negB (mx (mx (a * c) (a * d)) (b * c))), .int .u64 (aHi (mx (mx (a * c) (a * d)) (b * c))), .int .u64 (aLo (mx (mx (a * c) (a * d)) (b * c)))] from (by first | with_reducible exact oY | (repeat' first | with_reducible assumption | (with_reducible refine Blk.new' ?_; first | with_reducible rfl | (simp only [World.size_alloc, World.size_setCell, World.size_drew]; done)) | with_reducible refine Blk.alloc ?_ _ | with_reducible refine Blk.drew ?_ | with_reducible refine Blk.drewN ?_ _ | with_reducible apply Blk.both | with_reducible refine Blk.far' ?_ ?_ | (show _ ≠ _; omega)))), (show Blk _ _ _ #[.bool false, .int .u64 0, .int .u64 0] from (by first | with_reducible exact oP | (repeat' first | with_reducible assumption | (with_reducible refine Blk.new' ?_; first | with_reducible rfl | (simp only [World.size_alloc, World.size_setCell, World.size_drew]; done)) | with_reducible refine Blk.alloc ?_ _ | with_reducible refine Blk.drew ?_ | with_reducible refine Blk.drewN ?_ _ | with_reducible apply Blk.both | with_reducible refine Blk.far' ?_ ?_ | (show _ ≠ _; omega)))), (show Blk _ _ _ #[.bool false, .int .u64 0, .int .u64 0] from (by first | with_reducible exact oQ | (repeat' first | with_reducible assumption | (with_reducible refine Blk.new' ?_; first | with_reducible rfl | (simp only [World.size_alloc, World.size_setCell, World.size_drew]; done)) | with_reducible refine Blk.alloc ?_ _ | with_reducible refine Blk.drew ?_ | with_reducible refine Blk.drewN ?_ _ | with_reducible apply Blk.both | with_reducible refine Blk.far' ?_ ?_ | (show _ ≠ _; omega))))⟩
        clear B oL oX oY oP oQ
        apply Reg.RC_pure (hc := rfl) (hst := rfl) (hw := rfl) (t := 47) (hd := rfl) (ht := Nat.le_of_ble_eq_true rfl)
        · intro D v W hc hj hf K hK
          obtain ⟨B, oL, oX, oY, oP, oQ⟩ := hj
          have cY0 : World.cell? W ⟨gY, 0, none⟩ = some (.bool (negB (mx (mx (a * c) (a * d)) (b * c)))) := oY.c 0 rfl
          have cY1 : World.cell? W ⟨gY, 1, none⟩ = some (.int .u64 (aHi (mx (mx (a * c) (a * d)) (b * c)))) := oY.c 1 rfl
          have cY2 : World.cell? W ⟨gY, 2, none⟩ = some (.int .u64 (aLo (mx (mx (a * c) (a * d)) (b * c)))) := oY.c 2 rfl
          go_step
          exact hK.out
        · rfl
        apply Reg.RC_pure (hc := rfl) (hst := rfl) (hw := rfl) (t := 48) (hd := rfl) (ht := Nat.le_of_ble_eq_true rfl)
        · intro D v W hc hj hf K hK
          go_step
          exact hK.out
        · rfl
        apply Reg.RC_pure (hc := rfl) (hst := rfl) (hw := rfl) (t := 49) (hd := rfl) (ht := Nat.le_of_ble_eq_true rfl)
        · intro D v W hc hj hf K hK
          go_step
          exact hK.out
        · rfl
        apply Reg.RC_pure (hc := rfl) (hst := rfl) (hw := rfl) (t := 50) (hd := rfl) (ht := Nat.le_of_ble_eq_true rfl)
        · intro D v W hc hj hf K hK
          obtain ⟨B, oL, oX, oY, oP, oQ⟩ := hj
          have cL0 : World.cell? W ⟨gL, 0, none⟩ = some (.bool (negB (a * c))) := oL.c 0 rfl
          have cL1 : World.cell? W ⟨gL, 1, none⟩ = some (.int .u64 (aHi (a * c))) := oL.c 1 rfl
          have cL2 : World.cell? W ⟨gL, 2, none⟩ = some (.int .u64 (aLo (a * c))) := oL.c 2 rfl
          have cL3 : World.cell? W ⟨gL, 3, none⟩ = some (.bool (negB (a * d))) := oL.c 3 rfl
          have cL4 : World.cell? W ⟨gL, 4, none⟩ = some (.int .u64 (aHi (a * d))) := oL.c 4 rfl
          have cL5 : World.cell? W ⟨gL, 5, none⟩ = some (.int .u64 (aLo (a * d))) := oL.c 5 rfl
          have cL6 : World.cell? W ⟨gL, 6, none⟩ = some (.bool (negB (b * c))) := oL.c 6 rfl
          have cL7 : World.cell? W ⟨gL, 7, none⟩ = some (.int .u64 (aHi (b * c))) := oL.c 7 rfl
          have cL8 : World.cell? W ⟨gL, 8, none⟩ = some (.int .u64 (aLo (b * c))) := oL.c 8 rfl
          have cL9 : World.cell? W ⟨gL, 9, none⟩ = some (.bool (negB (b * d))) := oL.c 9 rfl
          have cL10 : World.cell? W ⟨gL, 10, none⟩ = some (.int .u64 (aHi (b * d))) := oL.c 10 rfl
          have cL11 : World.cell? W ⟨gL, 11, none⟩ = some (.int .u64 (aLo (b * d))) := oL.c 11 rfl
          go_step
          exact hK.out
        · rfl
        refine Reg.RC_exact _ (fun _ h => h) rfl (by intro t ht; cases ht; exact Nat.le_of_ble_eq_true rfl) rfl (fun D v W hc hj hf K hK => ?_) (Reg.RC_at (b := ⟨#[_, _, _, _, _, _, _, _, _, _, _, _, _, _, _, _, _, _, _, _, _, _, _, _, _, _, _, _, _, _, _, _, _, _, _, _, _, _, _, _, _, _, _, _, _, _, _, _, _, _, _, _, _, _, _, _, _], []⟩) rfl ?_)
        · obtain ⟨B, oL, oX, oY, oP, oQ⟩ := hj
          go_step
          refine (rless_q _ _ _ _ D2.out).mono ?_
          rintro e W' ⟨rfl, hb⟩
          have st : Steps W W' := hb
          exact hK.out _ _ Reg.any ⟨below_steps B (Nat.le_refl _) st, oL.steps st, oX.steps st, oY.steps st, oP.steps st, oQ.steps st⟩ Reg.none_ rfl
        refine Reg.RC_end (fun D v W hd hj hf => ?_)
        obtain ⟨B, oL, oX, oY, oP, oQ⟩ := hj
        clear hd hf
        refine hQ _ _ ?_
        clear hQ hops Q' ops'
        have lL := oL.lt
        have fL := oL.fr
        have cL9 := oL.c 9 rfl
        have cL10 := oL.c 10 rfl
        have cL11 := oL.c 11 rfl
        have lX := oX.lt
        have fX := oX.fr
        have cX0 := oX.c 0 rfl
        have cX1 := oX.c 1 rfl
        have cX2 := oX.c 2 rfl
        have lY := oY.lt
        have fY := oY.fr
        have cY0 := oY.c 0 rfl
        have cY1 := oY.c 1 rfl
        have cY2 := oY.c 2 rfl
        go_wp2_with fail
        go_roundw
        case rel =>
          refine ⟨4, by omega, rfl, ?_, ?_, ?_, ?_, ?_, ?_⟩
          · exact Blk.far' (Blk.far' (Blk.far' oL sLY2) sLY2) sLY2
          · show Blk _ gX 77 #[.bool (negB (mn (mn (mn (a * c) (a * d)) (b * c)) (b * d))), .int .u64 (aHi (mn (mn (mn (a * c) (a * d)) (b * c)) (b * d))), .int .u64 (aLo (mn (mn (mn (a * c) (a * d)) (b * c)) (b * d)))]
            rw [E1.out]
            exact Blk.far' (Blk.far' (Blk.far' oX nXY) nXY) nXY
          · show Blk _ gY 77 #[.bool (negB (mx (mx (mx (a * c) (a * d)) (b * c)) (b * d))), .int .u64 (aHi (mx (mx (mx (a * c) (a * d)) (b * c)) (b * d))), .int .u64 (aLo (mx (mx (mx (a * c) (a * d)) (b * c)) (b * d)))]
            rw [E2.out]
            exact Blk.set_ (Blk.set_ (Blk.set_ oY 0 _) 1 _) 2 _
          · exact Blk.far' (Blk.far' (Blk.far' oP sPY) sPY) sPY
          · exact Blk.far' (Blk.far' (Blk.far' oQ sQY) sQY) sQY
          · (repeat' first | with_reducible assumption | with_reducible exact Below.refl _ _ | with_reducible refine Below.alloc ?_ ?_ _ | with_reducible refine Below.drew ?_ | with_reducible refine belowN ?_ _ | with_reducible refine Below.setCell ?_ ?_ _ | go_size)
        case measure => simp [intOf] <;> omega
      · have D1 : Hid (decide (b * d < mn (mn (a * c) (a * d)) (b * c)) = true) := by show decide _ = _; simp <;> omega
        have D2 : Hid (decide (mx (mx (a * c) (a * d)) (b * c) < b * d) = false) := by show decide _ = _; simp <;> omega
        have E1 : Hid (mn (mn (mn (a * c) (a * d)) (b * c)) (b * d) = b * d) := mn_lt h1
        have E2 : Hid (mx (mx (mx (a * c) (a * d)) (b * c)) (b * d) = mx (mx (a * c) (a * d)) (b * c)) := mx_ge h2
        clear h1 h2
        go_wp2_with fail
        refine Reg.wp_chain (fun D v W => Below w.heap.size w W ∧ Blk W (gL) 109 #[.bool (negB (a * c)), .int .u64 (aHi (a * c)), .int .u64 (aLo (a * c)), .bool (negB (a * d)), .int .u64 (aHi (a * d)), .int .u64 (aLo (a * d)), .bool (negB (b * c)), .int .u64 (aHi (b * c)), .int .u64 (aLo (b * c)), .bool (negB (b * d)), .int .u64 (aHi (b * d)), .int .u64 (aLo (b * d))] ∧ Blk W (gX) 77 #[.bool (negB (mn (mn (a * c) (a * d)) (b * c))), .int .u64 (aHi (mn (mn (a * c) (a * d)) (b * c))), .int .u64 (aLo (mn (mn (a * c) (a * d)) (b * c)))] ∧ Blk W (gY) 77 #[.bool (negB (mx (mx (a * c) (a * d)) (b * c))), .int .u64 (aHi (mx (mx (a * c) (a * d)) (b * c))), .int .u64 (aLo (mx (mx (a * c) (a * d)) (b * c)))] ∧ Blk W (w.heap.size + 1 + 1) 77 #[.bool false, .int .u64 0, .int .u64 0] ∧ Blk W (w.heap.size + 1 + 1 + 1) 77 #[.bool false, .int .u64 0, .int .u64 0])
          (Reg.inl [4]) (Reg.ge [(4, .bool true)]) Reg.None_ (fun _ => Reg.Any) (fun _ _ => False) (Reg.pl []) (Reg.pl [])
          (by kernel_rfl) (by kernel_rfl) (by kernel_rfl) (Reg.ge_some _) (fun v => ?_) (fun _ _ _ _ _ h => h) (fun _ _ _ _ _ _ _ _ _ _ _ _ _ => Reg.none_) (fun _ _ _ _ h => h.elim) (fun ops' Q' hops hQ => ?_)
        · exact ⟨(by first | with_reducible exact Below.drew B | with_reducible exact Below.drew (belowN B _) | (repeat' first | with_reducible assumption | with_reducible exact Below.refl _ _ | with_reducible refine Below.alloc ?_ ?_ _ | with_reducible refine Below.drew ?_ | with_reducible refine belowN ?_ _ | with_reducible refine Below.setCell ?_ ?_ _ | go_size)), (show Blk _ _ _ #[.bool (negB (a * c)), .int .u64 (aHi (a * c)), .int .u64 (aLo (a * c)), .bool (negB (a * d)), .int .u64 (aHi (a * d)), .int .u64 (aLo (a * d)), .bool (negB (b * c)), .int .u64 (aHi (b * c)), .int .u64 (aLo (b * c)), .bool (negB (b * d)), .int .u64 (aHi (b * d)), .int .u64 (aLo (b * d))] from (by first | with_reducible exact oL | (repeat' first | with_reducible assumption | (with_reducible refine Blk.new' ?_; first | with_reducible rfl | (simp only [World.size_alloc, World.size_setCell, World.size_drew]; done)) | with_reducible refine Blk.alloc ?_ _ | with_reducible refine Blk.drew ?_ | with_reducible refine Blk.drewN ?_ _ | with_reducible apply Blk.both | with_reducible refine Blk.far' ?_ ?_ | (show _ ≠ _; omega)))), (show Blk _ _ _ #[.bool (negB (mn (mn (a * c) (a * d)) (b * c))), .int .u64 (aHi (mn (mn (a * c) (a * d)) (b * c))), .int .u64 (aLo (mn (mn (a * c) (a * d)) (b * c)))] from (by first | with_reducible exact oX | (repeat' first | with_reducible assumption | (with_reducible refine Blk.new' ?_; first | with_reducible rfl | (simp only [World.size_alloc, World.size_setCell, World.size_drew]; done)) | with_reducible refine Blk.alloc ?_ _ | with_reducible refine Blk.drew ?_ | with_reducible refine Blk.drewN ?_ _ | with_reducible apply Blk.both | with_reducible refine Blk.far' ?_ ?_ | (show _ ≠ _; omega)))), (show Blk _ _ _ #[.bool (negB (mx (mx (a * c) (a * d)) (b * c))), .int .u64 (aHi (mx (mx (a * c) (a * d)) (b * c))), .int .u64 (aLo (mx (mx (a * c) (a * d)) (b * c)))] from (by first | with_reducible exact oY | (repeat' first | with_reducible assumption | (with_reducible refine Blk.new' ?_; first | with_reducible rfl | (simp only [World.size_alloc, World.size_setCell, World.size_drew]; done)) | with_reducible refine Blk.alloc ?_ _ | with_reducible refine Blk.drew ?_ | with_reducible refine Blk.drewN ?_ _ | with_reducible apply Blk.both | with_reducible refine Blk.far' ?_ ?_ | (show _ ≠ _; omega)))), (show Blk _ _ _ #[.bool false, .int .u64 0, .int .u64 0] from (by first | with_reducible exact oP | (repeat' first | with_reducible assumption | (with_reducible refine Blk.new' ?_; first | with_reducible rfl | (simp only [World.size_alloc, World.size_setCell, World.size_drew]; done)) | with_reducible refine Blk.alloc ?_ _ | with_reducible refine Blk.drew ?_ | with_reducible refine Blk.drewN ?_ _ | with_reducible apply Blk.both | with_reducible refine Blk.far' ?_ ?_ | (show _ ≠ _; omega)))), (show Blk _ _ _ #[.bool false, .int .u64 0, .int .u64 0] from (by first | with_reducible exact oQ | (repeat' first | with_reducible assumption | (with_reducible refine Blk.new' ?_; first | with_reducible rfl | (simp only [World.size_alloc, World.size_setCell, World.size_drew]; done)) | with_reducible refine Blk.alloc ?_ _ | with_reducible refine Blk.drew ?_ | with_reducible refine Blk.drewN ?_ _ | with_reducible apply Blk.both | with_reducible refine Blk.far' ?_ ?_ | (show _ ≠ _; omega))))⟩
        clear B oL oX oY oP oQ
        apply Reg.RC_pure (hc := rfl) (hst := rfl) (hw := rfl) (t := 39) (hd := rfl) (ht := Nat.le_of_ble_eq_true rfl)
        · intro D v W hc hj hf K hK
          go_step
          exact hK.out
        · rfl
        apply Reg.RC_pure (hc := rfl) (hst := rfl) (hw := rfl) (t := 40) (hd := rfl) (ht := Nat.le_of_ble_eq_true rfl)
        · intro D v W hc hj hf K hK
          go_step
          exact hK.out
        · rfl
        apply Reg.RC_pure (hc := rfl) (hst := rfl) (hw := rfl) (t := 41) (hd := rfl) (ht := Nat.le_of_ble_eq_true rfl)
        · intro D v W hc hj hf K hK
          obtain ⟨B, oL, oX, oY, oP, oQ⟩ := hj
          have cL0 : World.cell? W ⟨gL, 0, none⟩ = some (.bool (negB (a * c))) := oL.c 0 rfl
          have cL1 : World.cell? W ⟨gL, 1, none⟩ = some (.int .u64 (aHi (a * c))) := oL.c 1 rfl
          have cL2 : World.cell? W ⟨gL, 2, none⟩ = some (.int .u64 (aLo (a * c))) := oL.c 2 rfl
          have cL3 : World.cell? W ⟨gL, 3, none⟩ = some (.bool (negB (a * d))) := oL.c 3 rfl
          have cL4 : World.cell? W ⟨gL, 4, none⟩ = some (.int .u64 (aHi (a * d))) := oL.c 4 rfl
          have cL5 : World.cell? W ⟨gL, 5, none⟩ = some (.int .u64 (aLo (a * d))) := oL.c 5 rfl
          have cL6 : World.cell? W ⟨gL, 6, none⟩ = some (.bool (negB (b * c))) := oL.c 6 rfl
          have cL7 : World.cell? W ⟨gL, 7, none⟩ = some (.int .u64 (aHi (b * c))) := oL.c 7 rfl
          have cL8 : World.cell? W ⟨gL, 8, none⟩ = some (.int .u64 (aLo (b * c))) := oL.c 8 rfl
          have cL9 : World.cell? W ⟨gL, 9, none⟩ = some (.bool (negB (b * d))) := oL.c 9 rfl
          have cL10 : World.cell? W ⟨gL, 10, none⟩ = some (.int .u64 (aHi (b * d))) := oL.c 10 rfl
          have cL11 : World.cell? W ⟨gL, 11, none⟩ = some (.int .u64 (aLo (b * d))) := oL.c 11 rfl
          go_step
          exact hK.out
        · rfl
        apply Reg.RC_pure (hc := rfl) (hst := rfl) (hw := rfl) (t := 42) (hd := rfl) (ht := Nat.le_of_ble_eq_true rfl)
        · intro D v W hc hj hf K hK
          obtain ⟨B, oL, oX, oY, oP, oQ⟩ := hj
          have cX0 : World.cell? W ⟨gX, 0, none⟩ = some (.bool (negB (mn (mn (a * c) (a * d)) (b * c)))) := oX.c 0 rfl
          have cX1 : World.cell? W ⟨gX, 1, none⟩ = some (.int .u64 (aHi (mn (mn (a * c) (a * d)) (b * c)))) := oX.c 1 rfl
          have cX2 : World.cell? W ⟨gX, 2, none⟩ = some (.int .u64 (aLo (mn (mn (a * c) (a * d)) (b * c)))) := oX.c 2 rfl
          go_step
          exact hK.out
        · rfl
        refine Reg.RC_exact _ (fun _ h => h) rfl (by intro t ht; cases ht; exact Nat.le_of_ble_eq_true rfl) rfl (fun D v W hc hj hf K hK => ?_) (Reg.RC_at (b := ⟨#[_, _, _, _, _, _, _, _, _, _, _, _, _, _, _, _, _, _, _, _, _, _, _, _, _, _, _, _, _, _, _, _, _, _, _, _, _, _, _, _, _, _, _, _, _, _, _, _, _, _, _, _, _, _, _, _, _], []⟩) rfl ?_)
        · obtain ⟨B, oL, oX, oY, oP, oQ⟩ := hj
          go_step
          refine (rless_q _ _ _ _ D1.out).mono ?_
          rintro e W' ⟨rfl, hb⟩
          have st : Steps W W' := hb
          exact hK.out _ _ Reg.any ⟨below_steps B (Nat.le_refl _) st, oL.steps st, oX.steps st, oY.steps st, oP.steps st, oQ.steps st⟩ Reg.none_ rfl
        refine Reg.RC_end (fun D v W hd hj hf => ?_)
        obtain ⟨B, oL, oX, oY, oP, oQ⟩ := hj
        clear hd hf
        refine hQ _ _ ?_
        clear hQ hops Q' ops'
        have lL := oL.lt
        have fL := oL.fr
        have cL9 := oL.c 9 rfl
        have cL10 := oL.c 10 rfl
        have cL11 := oL.c 11 rfl
        have lX := oX.lt
        have fX := oX.fr
        have cX0 := oX.c 0 rfl
        have cX1 := oX.c 1 rfl
        have cX2 := oX.c 2 rfl
        have lY := oY.lt
        have fY := oY.fr
        have cY0 := oY.c 0 rfl
        have cY1 := oY.c 1 rfl
        have cY2 := oY.c 2 rfl
        go_wp2_with fail
        clear lL lX lY fL fX fY cL9 cL10 cL11 cX0 cX1 cX2 cY0 cY1 cY2
        refine Reg.wp_chain (fun D v W => Below w.heap.size w W ∧ Blk W (gL) 109 #[.bool (negB (a * c)), .int .u64 (aHi (a * c)), .int .u64 (aLo (a * c)), .bool (negB (a * d)), .int .u64 (aHi (a * d)), .int .u64 (aLo (a * d)), .bool (negB (b * c)), .int .u64 (aHi (b * c)), .int .u64 (aLo (b * c)), .bool (negB (b * d)), .int .u64 (aHi (b * d)), .int .u64 (aLo (b * d))] ∧ Blk W (gX) 77 #[.bool (negB (b * d)), .int .u64 (aHi (b * d)), .int .u64 (aLo (b * d))] ∧ Blk W (gY) 77 #[.bool (negB (mx (mx (a * c) (a * d)) (b * c))), .int .u64 (aHi (mx (mx (a * c) (a * d)) (b * c))), .int .u64 (aLo (mx (mx (a * c) (a * d)) (b * c)))] ∧ Blk W (w.heap.size + 1 + 1) 77 #[.bool false, .int .u64 0, .int .u64 0] ∧ Blk W (w.heap.size + 1 + 1 + 1) 77 #[.bool false, .int .u64 0, .int .u64 0])
          (Reg.inl [4]) (Reg.ge [(4, .bool false)]) Reg.None_ (fun _ => Reg.Any) (fun _ _ => False) (Reg.pl []) (Reg.pl [])
          (by kernel_rfl) (by kernel_rfl) (by kernel_rfl) (Reg.ge_some _) (fun v => ?_) (fun _ _ _ _ _ h => h) (fun _ _ _ _ _ _ _ _ _ _ _ _ _ => Reg.none_) (fun _ _ _ _ h => h.elim) (fun ops' Q' hops hQ => ?_)
        · exact ⟨(by first | with_reducible exact Below.drew B | with_reducible exact Below.drew (belowN B _) | (repeat' first | with_reducible assumption | with_reducible exact Below.refl _ _ | with_reducible refine Below.alloc ?_ ?_ _ | with_reducible refine Below.drew ?_ | with_reducible refine belowN ?_ _ | with_reducible refine Below.setCell ?_ ?_ _ | go_size)), (show Blk _ _ _ #[.bool (negB (a * c)), .int .u64 (aHi (a * c)), .int .u64 (aLo (a * c)), .bool (negB (a * d)), .int .u64 (aHi (a * d)), .int .u64 (aLo (a * d)), .bool (negB (b * c)), .int .u64 (aHi (b * c)), .int .u64 (aLo (b * c)), .bool (negB (b * d)), .int .u64 (aHi (b * d)), .int .u64 (aLo (b * d))] from (by first | with_reducible exact oL | (repeat' first | with_reducible assumption | (with_reducible refine Blk.new' ?_; first | with_reducible rfl | (simp only [World.size_alloc, World.size_setCell, World.size_drew]; done)) | with_reducible refine Blk.alloc ?_ _ | with_reducible refine Blk.drew ?_ | with_reducible refine Blk.drewN ?_ _ | with_reducible apply Blk.both | with_reducible refine Blk.far' ?_ ?_ | (show _ ≠ _; omega)))), (show Blk _ _ _ #[.bool (negB (b * d)), .int .u64 (aHi (b * d)), .int .u64 (aLo (b * d))] from (Blk.set_ (Blk.set_ (Blk.set_ oX 0 _) 1 _) 2 _)), (show Blk _ _ _ #[.bool (negB (mx (mx (a * c) (a * d)) (b * c))), .int .u64 (aHi (mx (mx (a * c) (a * d)) (b * c))), .int .u64 (aLo (mx (mx (a * c) (a * d)) (b * c)))] from (by first | with_reducible exact oY | (repeat' first | with_reducible assumption | (with_reducible refine Blk.new' ?_; first | with_reducible rfl | (simp only [World.size_alloc, World.size_setCell, World.size_drew]; done)) | with_reducible refine Blk.alloc ?_ _ | with_reducible refine Blk.drew ?_ | with_reducible refine Blk.drewN ?_ _ | with_reducible apply Blk.both | with_reducible refine Blk.far' ?_ ?_ | (show _ ≠ _; omega)))), (show Blk _ _ _ #[.bool false, .int .u64 0, .int .u64 0] from (by first | with_reducible exact oP | (repeat' first | with_reducible assumption | (with_reducible refine Blk.new' ?_; first | with_reducible rfl | (simp only [World.size_alloc, World.size_setCell, World.size_drew]; done)) | with_reducible refine Blk.alloc ?_ _ | with_reducible refine Blk.drew ?_ | with_reducible refine Blk.drewN ?_ _ | with_reducible apply Blk.both | with_reducible refine Blk.far' ?_ ?_ | (show _ ≠ _; omega)))), (show Blk _ _ _ #[.bool false, .int .u64 0, .int .u64 0] from (by first | with_reducible exact oQ | (repeat' first | with_reducible assumption | (with_reducible refine Blk.new' ?_; first | with_reducible rfl | (simp only [World.size_alloc, World.size_setCell, World.size_drew]; done)) | with_reducible refine Blk.alloc ?_ _ | with_reducible refine Blk.drew ?_ | with_reducible refine Blk.drewN ?_ _ | with_reducible apply Blk.both | with_reducible refine Blk.far' ?_ ?_ | (show _ ≠ _; omega))))⟩
        clear B oL oX oY oP oQ
        apply Reg.RC_pure (hc := rfl) (hst := rfl) (hw := rfl) (t := 47) (hd := rfl) (ht := Nat.le_of_ble_eq_true rfl)
        · intro D v W hc hj hf K hK
          obtain ⟨B, oL, oX, oY, oP, oQ⟩ := hj
          have cY0 : World.cell? W ⟨gY, 0, none⟩ = some (.bool (negB (mx (mx (a * c) (a * d)) (b * c)))) := oY.c 0 rfl
          have cY1 : World.cell? W ⟨gY, 1, none⟩ = some (.int .u64 (aHi (mx (mx (a * c) (a * d)) (b * c)))) := oY.c 1 rfl
          have cY2 : World.cell? W ⟨gY, 2, none⟩ = some (.int .u64 (aLo (mx (mx (a * c) (a * d)) (b * c)))) := oY.c 2 rfl
          go_step
          exact hK.out
        · rfl
        apply Reg.RC_pure (hc := rfl) (hst := rfl) (hw := rfl) (t := 48) (hd := rfl) (ht := Nat.le_of_ble_eq_true rfl)
        · intro D v W hc hj hf K hK
          go_step
          exact hK.out
        · rfl
        apply Reg.RC_pure (hc := rfl) (hst := rfl) (hw := rfl) (t := 49) (hd := rfl) (ht := Nat.le_of_ble_eq_true rfl)
        · intro D v W hc hj hf K hK
          go_step
          exact hK.out
        · rfl
        apply Reg.RC_pure (hc := rfl) (hst := rfl) (hw := rfl) (t := 50) (hd := rfl) (ht := Nat.le_of_ble_eq_true rfl)
        · intro D v W hc hj hf K hK
          obtain ⟨B, oL, oX, oY, oP, oQ⟩ := hj
          have cL0 : World.cell? W ⟨gL, 0, none⟩ = some (.bool (negB (a * c))) := oL.c 0 rfl
          have cL1 : World.cell? W ⟨gL, 1, none⟩ = some (.int .u64 (aHi (a * c))) := oL.c 1 rfl
          have cL2 : World.cell? W ⟨gL, 2, none⟩ = some (.int .u64 (aLo (a * c))) := oL.c 2 rfl
          have cL3 : World.cell? W ⟨gL, 3, none⟩ = some (.bool (negB (a * d))) := oL.c 3 rfl
          have cL4 : World.cell? W ⟨gL, 4, none⟩ = some (.int .u64 (aHi (a * d))) := oL.c 4 rfl
          have cL5 : World.cell? W ⟨gL, 5, none⟩ = some (.int .u64 (aLo (a * d))) := oL.c 5 rfl
          have cL6 : World.cell? W ⟨gL, 6, none⟩ = some (.bool (negB (b * c))) := oL.c 6 rfl
          have cL7 : World.cell? W ⟨gL, 7, none⟩ = some (.int .u64 (aHi (b * c))) := oL.c 7 rfl
          have cL8 : World.cell? W ⟨gL, 8, none⟩ = some (.int .u64 (aLo (b * c))) := oL.c 8 rfl
          have cL9 : World.cell? W ⟨gL, 9, none⟩ = some (.bool (negB (b * d))) := oL.c 9 rfl
          have cL10 : World.cell? W ⟨gL, 10, none⟩ = some (.int .u64 (aHi (b * d))) := oL.c 10 rfl
          have cL11 : World.cell? W ⟨gL, 11, none⟩ = some (.int .u64 (aLo (b * d))) := oL.c 11 rfl
          go_step
          exact hK.out
        · rfl
        refine Reg.RC_exact _ (fun _ h => h) rfl (by intro t ht; cases ht; exact Nat.le_of_ble_eq_true rfl) rfl (fun D v W hc hj hf K hK => ?_) (Reg.RC_at (b := ⟨#[_, _, _, _, _, _, _, _, _, _, _, _, _, _, _, _, _, _, _, _, _, _, _, _, _, _, _, _, _, _, _, _, _, _, _, _, _, _, _, _, _, _, _, _, _, _, _, _, _, _, _, _, _, _, _, _, _], []⟩) rfl ?_)
        · obtain ⟨B, oL, oX, oY, oP, oQ⟩ := hj
          go_step
          refine (rless_q _ _ _ _ D2.out).mono ?_
          rintro e W' ⟨rfl, hb⟩
          have st : Steps W W' := hb
          exact hK.out _ _ Reg.any ⟨below_steps B (Nat.le_refl _) st, oL.steps st, oX.steps st, oY.steps st, oP.steps st, oQ.steps st⟩ Reg.none_ rfl
        refine Reg.RC_end (fun D v W hd hj hf => ?_)
        obtain ⟨B, oL, oX, oY, oP, oQ⟩ := hj
        clear hd hf
        refine hQ _ _ ?_
        clear hQ hops Q' ops'
        have lL := oL.lt
        have fL := oL.fr
        have cL9 := oL.c 9 rfl
        have cL10 := oL.c 10 rfl
        have cL11 := oL.c 11 rfl
        have lX := oX.lt
        have fX := oX.fr
        have cX0 := oX.c 0 rfl
        have cX1 := oX.c 1 rfl
        have cX2 := oX.c 2 rfl
        have lY := oY.lt
        have fY := oY.fr
        have cY0 := oY.c 0 rfl
        have cY1 := oY.c 1 rfl
        have cY2 := oY.c 2 rfl
        go_wp2_with fail
        go_roundw
        case rel =>
          refine ⟨4, by omega, rfl, ?_, ?_, ?_, ?_, ?_, ?_⟩
          · exact oL
          · show Blk _ gX 77 #[.bool (negB (mn (mn (mn (a * c) (a * d)) (b * c)) (b * d))), .int .u64 (aHi (mn (mn (mn (a * c) (a * d)) (b * c)) (b * d))), .int .u64 (aLo (mn (mn (mn (a * c) (a * d)) (b * c)) (b * d)))]
            rw [E1.out]
            exact oX
          · show Blk _ gY 77 #[.bool (negB (mx (mx (mx (a * c) (a * d)) (b * c)) (b * d))), .int .u64 (aHi (mx (mx (mx (a * c) (a * d)) (b * c)) (b * d))), .int .u64 (aLo (mx (mx (mx (a * c) (a * d)) (b * c)) (b * d)))]
            rw [E2.out]
            exact oY
          · exact oP
          · exact oQ
          · (repeat' first | with_reducible assumption | with_reducible exact Below.refl _ _ | with_reducible refine Below.alloc ?_ ?_ _ | with_reducible refine Below.drew ?_ | with_reducible refine belowN ?_ _ | with_reducible refine Below.setCell ?_ ?_ _ | go_size)
        case measure => simp [intOf] <;> omega
      · have D1 : Hid (decide (b * d < mn (mn (a * c) (a * d)) (b * c)) = false) := by show decide _ = _; simp <;> omega
        have D2 : Hid (decide (mx (mx (a * c) (a * d)) (b * c) < b * d) = true) := by show decide _ = _; simp <;> omega
        have E1 : Hid (mn (mn (mn (a * c) (a * d)) (b * c)) (b * d) = mn (mn (a * c) (a * d)) (b * c)) := mn_ge h1
        have E2 : Hid (mx (mx (mx (a * c) (a * d)) (b * c)) (b * d) = b * d) := mx_lt h2
        clear h1 h2
        go_wp2_with fail
        refine Reg.wp_chain (fun D v W => Below w.heap.size w W ∧ Blk W (gL) 109 #[.bool (negB (a * c)), .int .u64 (aHi (a * c)), .int .u64 (aLo (a * c)), .bool (negB (a * d)), .int .u64 (aHi (a * d)), .int .u64 (aLo (a * d)), .bool (negB (b * c)), .int .u64 (aHi (b * c)), .int .u64 (aLo (b * c)), .bool (negB (b * d)), .int .u64 (aHi (b * d)), .int .u64 (aLo (b * d))] ∧ Blk W (gX) 77 #[.bool (negB (mn (mn (a * c) (a * d)) (b * c))), .int .u64 (aHi (mn (mn (a * c) (a * d)) (b * c))), .int .u64 (aLo (mn (mn (a * c) (a * d)) (b * c)))] ∧ Blk W (gY) 77 #[.bool (negB (mx (mx (a * c) (a * d)) (b * c))), .int .u64 (aHi (mx (mx (a * c) (a * d)) (b * c))), .int .u64 (aLo (mx (mx (a * c) (a * d)) (b * c)))] ∧ Blk W (w.heap.size + 1 + 1) 77 #[.bool false, .int .u64 0, .int .u64 0] ∧ Blk W (w.heap.size + 1 + 1 + 1) 77 #[.bool false, .int .u64 0, .int .u64 0])
          (Reg.inl [4]) (Reg.ge [(4, .bool false)]) Reg.None_ (fun _ => Reg.Any) (fun _ _ => False) (Reg.pl []) (Reg.pl [])
          (by kernel_rfl) (by kernel_rfl) (by kernel_rfl) (Reg.ge_some _) (fun v => ?_) (fun _ _ _ _ _ h => h) (fun _ _ _ _ _ _ _ _ _ _ _ _ _ => Reg.none_) (fun _ _ _ _ h => h.elim) (fun ops' Q' hops hQ => ?_)
        · exact ⟨(by first | with_reducible exact Below.drew B | with_reducible exact Below.drew (belowN B _) | (repeat' first | with_reducible assumption | with_reducible exact Below.refl _ _ | with_reducible refine Below.alloc ?_ ?_ _ | with_reducible refine Below.drew ?_ | with_reducible refine belowN ?_ _ | with_reducible refine Below.setCell ?_ ?_ _ | go_size)), (show Blk _ _ _ #[.bool (negB (a * c)), .int .u64 (aHi (a * c)), .int .u64 (aLo (a * c)), .bool (negB (a * d)), .int .u64 (aHi (a * d)), .int .u64 (aLo (a * d)), .bool (negB (b * c)), .int .u64 (aHi (b * c)), .int .u64 (aLo (b * c)), .bool (negB (b * d)), .int .u64 (aHi (b * d)), .int .u64 (aLo (b * d))] from (by first | with_reducible exact oL | (repeat' first | with_reducible assumption | (with_reducible refine Blk.new' ?_; first | with_reducible rfl | (simp only [World.size_alloc, World.size_setCell, World.size_drew]; done)) | with_reducible refine Blk.alloc ?_ _ | with_reducible refine Blk.drew ?_ | with_reducible refine Blk.drewN ?_ _ | with_reducible apply Blk.both | with_reducible refine Blk.far' ?_ ?_ | (show _ ≠ _; omega)))), (show Blk _ _ _ #[.bool (negB (mn (mn (a * c) (a * d)) (b * c))), .int .u64 (aHi (mn (mn (a * c) (a * d)) (b * c))), .int .u64 (aLo (mn (mn (a * c) (a * d)) (b * c)))] from (by first | with_reducible exact oX | (repeat' first | with_reducible assumption | (with_reducible refine Blk.new' ?_; first | with_reducible rfl | (simp only [World.size_alloc, World.size_setCell, World.size_drew]; done)) | with_reducible refine Blk.alloc ?_ _ | with_reducible refine Blk.drew ?_ | with_reducible refine Blk.drewN ?_ _ | with_reducible apply Blk.both | with_reducible refine Blk.far' ?_ ?_ | (show _ ≠ _; omega)))), (show Blk _ _ _ #[.bool (negB (mx (mx (a * c) (a * d)) (b * c))), .int .u64 (aHi (mx (mx (a * c) (a * d)) (b * c))), .int .u64 (aLo (mx (mx (a * c) (a * d)) (b * c)))] from (by first | with_reducible exact oY | (repeat' first | with_reducible assumption | (with_reducible refine Blk.new' ?_; first | with_reducible rfl | (simp only [World.size_alloc, World.size_setCell, World.size_drew]; done)) | with_reducible refine Blk.alloc ?_ _ | with_reducible refine Blk.drew ?_ | with_reducible refine Blk.drewN ?_ _ | with_reducible apply Blk.both | with_reducible refine Blk.far' ?_ ?_ | (show _ ≠ _; omega)))), (show Blk _ _ _ #[.bool false, .int .u64 0, .int .u64 0] from (by first | with_reducible exact oP | (repeat' first | with_reducible assumption | (with_reducible refine Blk.new' ?_; first | with_reducible rfl | (simp only [World.size_alloc, World.size_setCell, World.size_drew]; done)) | with_reducible refine Blk.alloc ?_ _ | with_reducible refine Blk.drew ?_ | with_reducible refine Blk.drewN ?_ _ | with_reducible apply Blk.both | with_reducible refine Blk.far' ?_ ?_ | (show _ ≠ _; omega)))), (show Blk _ _ _ #[.bool false, .int .u64 0, .int .u64 0] from (by first | with_reducible exact oQ | (repeat' first | with_reducible assumption | (with_reducible refine Blk.new' ?_; first | with_reducible rfl | (simp only [World.size_alloc, World.size_setCell, World.size_drew]; done)) | with_reducible refine Blk.alloc ?_ _ | with_reducible refine Blk.drew ?_ | with_reducible refine Blk.drewN ?_ _ | with_reducible apply Blk.both | with_reducible refine Blk.far' ?_ ?_ | (show _ ≠ _; omega))))⟩
        clear B oL oX oY oP oQ
        apply Reg.RC_pure (hc := rfl) (hst := rfl) (hw := rfl) (t := 39) (hd := rfl) (ht := Nat.le_of_ble_eq_true rfl)
        · intro D v W hc hj hf K hK
          go_step
          exact hK.out
        · rfl
        apply Reg.RC_pure (hc := rfl) (hst := rfl) (hw := rfl) (t := 40) (hd := rfl) (ht := Nat.le_of_ble_eq_true rfl)
        · intro D v W hc hj hf K hK
          go_step
          exact hK.out
        · rfl
        apply Reg.RC_pure (hc := rfl) (hst := rfl) (hw := rfl) (t := 41) (hd := rfl) (ht := Nat.le_of_ble_eq_true rfl)
        · intro D v W hc hj hf K hK
          obtain ⟨B, oL, oX, oY, oP, oQ⟩ := hj
          have cL0 : World.cell? W ⟨gL, 0, none⟩ = some (.bool (negB (a * c))) := oL.c 0 rfl
          have cL1 : World.cell? W ⟨gL, 1, none⟩ = some (.int .u64 (aHi (a * c))) := oL.c 1 rfl
          have cL2 : World.cell? W ⟨gL, 2, none⟩ = some (.int .u64 (aLo (a * c))) := oL.c 2 rfl
          have cL3 : World.cell? W ⟨gL, 3, none⟩ = some (.bool (negB (a * d))) := oL.c 3 rfl
          have cL4 : World.cell? W ⟨gL, 4, none⟩ = some (.int .u64 (aHi (a * d))) := oL.c 4 rfl
          have cL5 : World.cell? W ⟨gL, 5, none⟩ = some (.int .u64 (aLo (a * d))) := oL.c 5 rfl
          have cL6 : World.cell? W ⟨gL, 6, none⟩ = some (.bool (negB (b * c))) := oL.c 6 rfl
          have cL7 : World.cell? W ⟨gL, 7, none⟩ = some (.int .u64 (aHi (b * c))) := oL.c 7 rfl
          have cL8 : World.cell? W ⟨gL, 8, none⟩ = some (.int .u64 (aLo (b * c))) := oL.c 8 rfl
          have cL9 : World.cell? W ⟨gL, 9, none⟩ = some (.bool (negB (b * d))) := oL.c 9 rfl
          have cL10 : World.cell? W ⟨gL, 10, none⟩ = some (.int .u64 (aHi (b * d))) := oL.c 10 rfl
          have cL11 : World.cell? W ⟨gL, 11, none⟩ = some (.int .u64 (aLo (b * d))) := oL.c 11 rfl
          go_step
          exact hK.out
        · rfl
        apply Reg.RC_pure (hc := rfl) (hst := rfl) (hw := rfl) (t := 42) (hd := rfl) (ht := Nat.le_of_ble_eq_true rfl)
        · intro D v W hc hj hf K hK
          obtain ⟨B, oL, oX, oY, oP, oQ⟩ := hj
          have cX0 : World.cell? W ⟨gX, 0, none⟩ = some (.bool (negB (mn (mn (a * c) (a * d)) (b * c)))) := oX.c 0 rfl
          have cX1 : World.cell? W ⟨gX, 1, none⟩ = some (.int .u64 (aHi (mn (mn (a * c) (a * d)) (b * c)))) := oX.c 1 rfl
          have cX2 : World.cell? W ⟨gX, 2, none⟩ = some (.int .u64 (aLo (mn (mn (a * c) (a * d)) (b * c)))) := oX.c 2 rfl
          go_step
          exact hK.out
        · rfl
        refine Reg.RC_exact _ (fun _ h => h) rfl (by intro t ht; cases ht; exact Nat.le_of_ble_eq_true rfl) rfl (fun D v W hc hj hf K hK => ?_) (Reg.RC_at (b := ⟨#[_, _, _, _, _, _, _, _, _, _, _, _, _, _, _, _, _, _, _, _, _, _, _, _, _, _, _, _, _, _, _, _, _, _, _, _, _, _, _, _, _, _, _, _, _, _, _, _, _, _, _, _, _, _, _, _, _], []⟩) rfl ?_)
        · obtain ⟨B, oL, oX, oY, oP, oQ⟩ := hj
          go_step
          refine (rless_q _ _ _ _ D1.out).mono ?_
          rintro e W' ⟨rfl, hb⟩
          have st : Steps W W' := hb
          exact hK.out _ _ Reg.any ⟨below_steps B (Nat.le_refl _) st, oL.steps st, oX.steps st, oY.steps st, oP.steps st, oQ.steps st⟩ Reg.none_ rfl
        refine Reg.RC_end (fun D v W hd hj hf => ?_)
        obtain ⟨B, oL, oX, oY, oP, oQ⟩ := hj
        clear hd hf
        refine hQ _ _ ?_
        clear hQ hops Q' ops'
        have lL := oL.lt
        have fL := oL.fr
        have cL9 := oL.c 9 rfl
        have cL10 := oL.c 10 rfl
        have cL11 := oL.c 11 rfl
        have lX := oX.lt
        have fX := oX.fr
        have cX0 := oX.c 0 rfl
        have cX1 := oX.c 1 rfl
        have cX2 := oX.c 2 rfl
        have lY := oY.lt
        have fY := oY.fr
        have cY0 := oY.c 0 rfl
        have cY1 := oY.c 1 rfl
        have cY2 := oY.c 2 rfl
        go_wp2_with fail
        clear lL lX lY fL fX fY cL9 cL10 cL11 cX0 cX1 cX2 cY0 cY1 cY2
        refine Reg.wp_chain (fun D v W => Below w.heap.size w W ∧ Blk W (gL) 109 #[.bool (negB (a * c)), .int .u64 (aHi (a * c)), .int .u64 (aLo (a * c)), .bool (negB (a * d)), .int .u64 (aHi (a * d)), .int .u64 (aLo (a * d)), .bool (negB (b * c)), .int .u64 (aHi (b * c)), .int .u64 (aLo (b * c)), .bool (negB (b * d)), .int .u64 (aHi (b * d)), .int .u64 (aLo (b * d))] ∧ Blk W (gX) 77 #[.bool (negB (mn (mn (a * c) (a * d)) (b * c))), .int .u64 (aHi (mn (mn (a * c) (a * d)) (b * c))), .int .u64 (aLo (mn (mn (a * c) (a * d)) (b * c)))] ∧ Blk W (gY) 77 #[.bool (negB (mx (mx (a * c) (a * d)) (b * c))), .int .u64 (aHi (mx (mx (a * c) (a * d)) (b * c))), .int .u64 (aLo (mx (mx (a * c) (a * d)) (b * c)))] ∧ Blk W (w.heap.size + 1 + 1) 77 #[.bool false, .int .u64 0, .int .u64 0] ∧ Blk W (w.heap.size + 1 + 1 + 1) 77 #[.bool false, .int .u64 0, .int .u64 0])
          (Reg.inl [4]) (Reg.ge [(4, .bool true)]) Reg.None_ (fun _ => Reg.Any) (fun _ _ => False) (Reg.pl []) (Reg.pl [])
          (by kernel_rfl) (by kernel_rfl) (by kernel_rfl) (Reg.ge_some _) (fun v => ?_) (fun _ _ _ _ _ h => h) (fun _ _ _ _ _ _ _ _ _ _ _ _ _ => Reg.none_) (fun _ _ _ _ h => h.elim) (fun ops' Q' hops hQ => ?_)
        · exact ⟨(by first | with_reducible exact Below.drew B | with_reducible exact Below.drew (belowN B _) | (repeat' first | with_reducible assumption | with_reducible exact Below.refl _ _ | with_reducible refine Below.alloc ?_ ?_ _ | with_reducible refine Below.drew ?_ | with_reducible refine belowN ?_ _ | with_reducible refine Below.setCell ?_ ?_ _ | go_size)), (show Blk _ _ _ #[.bool (negB (a * c)), .int .u64 (aHi (a * c)), .int .u64 (aLo (a * c)), .bool (negB (a * d)), .int .u64 (aHi (a * d)), .int .u64 (aLo (a * d)), .bool (negB (b * c)), .int .u64 (aHi (b * c)), .int .u64 (aLo (b * c)), .bool (negB (b * d)), .int .u64 (aHi (b * d)), .int .u64 (aLo (b * d))] from (by first | with_reducible exact oL | (repeat' first | with_reducible assumption | (with_reducible refine Blk.new' ?_; first | with_reducible rfl | (simp only [World.size_alloc, World.size_setCell, World.size_drew]; done)) | with_reducible refine Blk.alloc ?_ _ | with_reducible refine Blk.drew ?_ | with_reducible refine Blk.drewN ?_ _ | with_reducible apply Blk.both | with_reducible refine Blk.far' ?_ ?_ | (show _ ≠ _; omega)))), (show Blk _ _ _ #[.bool (negB (mn (mn (a * c) (a * d)) (b * c))), .int .u64 (aHi (mn (mn (a * c) (a * d)) (b * c))), .int .u64 (aLo (mn (mn (a * c) (a * d)) (b * c)))] from (by first | with_reducible exact oX | (repeat' first | with_reducible assumption | (with_reducible refine Blk.new' ?_; first | with_reducible rfl | (simp only [World.size_alloc, World.size_setCell, World.size_drew]; done)) | with_reducible refine Blk.alloc ?_ _ | with_reducible refine Blk.drew ?_ | with_reducible refine Blk.drewN ?_ _ | with_reducible apply Blk.both | with_reducible refine Blk.far' ?_ ?_ | (show _ ≠ _; omega)))), (show Blk _ _ _ #[.bool (negB (mx (mx (a * c) (a * d)) (b * c))), .int .u64 (aHi (mx (mx (a * c) (a * d)) (b * c))), .int .u64 (aLo (mx (mx (a * c) (a * d)) (b * c)))] from (by first | with_reducible exact oY | (repeat' first | with_reducible assumption | (with_reducible refine Blk.new' ?_; first | with_reducible rfl | (simp only [World.size_alloc, World.size_setCell, World.size_drew]; done)) | with_reducible refine Blk.alloc ?_ _ | with_reducible refine Blk.drew ?_ | with_reducible refine Blk.drewN ?_ _ | with_reducible apply Blk.both | with_reducible refine Blk.far' ?_ ?_ | (show _ ≠ _; omega)))), (show Blk _ _ _ #[.bool false, .int .u64 0, .int .u64 0] from (by first | with_reducible exact oP | (repeat' first | with_reducible assumption | (with_reducible refine Blk.new' ?_; first | with_reducible rfl | (simp only [World.size_alloc, World.size_setCell, World.size_drew]; done)) | with_reducible refine Blk.alloc ?_ _ | with_reducible refine Blk.drew ?_ | with_reducible refine Blk.drewN ?_ _ | with_reducible apply Blk.both | with_reducible refine Blk.far' ?_ ?_ | (show _ ≠ _; omega)))), (show Blk _ _ _ #[.bool false, .int .u64 0, .int .u64 0] from (by first | with_reducible exact oQ | (repeat' first | with_reducible assumption | (with_reducible refine Blk.new' ?_; first | with_reducible rfl | (simp only [World.size_alloc, World.size_setCell, World.size_drew]; done)) | with_reducible refine Blk.alloc ?_ _ | with_reducible refine Blk.drew ?_ | with_reducible refine Blk.drewN ?_ _ | with_reducible apply Blk.both | with_reducible refine Blk.far' ?_ ?_ | (show _ ≠ _; omega))))⟩
        clear B oL oX oY oP oQ
        apply Reg.RC_pure (hc := rfl) (hst := rfl) (hw := rfl) (t := 47) (hd := rfl) (ht := Nat.le_of_ble_eq_true rfl)
        · intro D v W hc hj hf K hK
          obtain ⟨B, oL, oX, oY, oP, oQ⟩ := hj
          have cY0 : World.cell? W ⟨gY, 0, none⟩ = some (.bool (negB (mx (mx (a * c) (a * d)) (b * c)))) := oY.c 0 rfl
          have cY1 : World.cell? W ⟨gY, 1, none⟩ = some (.int .u64 (aHi (mx (mx (a * c) (a * d)) (b * c)))) := oY.c 1 rfl
          have cY2 : World.cell? W ⟨gY, 2, none⟩ = some (.int .u64 (aLo (mx (mx (a * c) (a * d)) (b * c)))) := oY.c 2 rfl
          go_step
          exact hK.out
        · rfl
        apply Reg.RC_pure (hc := rfl) (hst := rfl) (hw := rfl) (t := 48) (hd := rfl) (ht := Nat.le_of_ble_eq_true rfl)
        · intro D v W hc hj hf K hK
          go_step
          exact hK.out
        · rfl
        apply Reg.RC_pure (hc := rfl) (hst := rfl) (hw := rfl) (t := 49) (hd := rfl) (ht := Nat.le_of_ble_eq_true rfl)
        · intro D v W hc hj hf K hK
          go_step
          exact hK.out
        · rfl
        apply Reg.RC_pure (hc := rfl) (hst := rfl) (hw := rfl) (t := 50) (hd := rfl) (ht := Nat.le_of_ble_eq_true rfl)
        · intro D v W hc hj hf K hK
          obtain ⟨B, oL, oX, oY, oP, oQ⟩ := hj
          have cL0 : World.cell? W ⟨gL, 0, none⟩ = some (.bool (negB (a * c))) := oL.c 0 rfl
          have cL1 : World.cell? W ⟨gL, 1, none⟩ = some (.int .u64 (aHi (a * c))) := oL.c 1 rfl
          have cL2 : World.cell? W ⟨gL, 2, none⟩ = some (.int .u64 (aLo (a * c))) := oL.c 2 rfl
          have cL3 : World.cell? W ⟨gL, 3, none⟩ = some (.bool (negB (a * d))) := oL.c 3 rfl
          have cL4 : World.cell? W ⟨gL, 4, none⟩ = some (.int .u64 (aHi (a * d))) := oL.c 4 rfl
          have cL5 : World.cell? W ⟨gL, 5, none⟩ = some (.int .u64 (aLo (a * d))) := oL.c 5 rfl
          have cL6 : World.cell? W ⟨gL, 6, none⟩ = some (.bool (negB (b * c))) := oL.c 6 rfl
          have cL7 : World.cell? W ⟨gL, 7, none⟩ = some (.int .u64 (aHi (b * c))) := oL.c 7 rfl
          have cL8 : World.cell? W ⟨gL, 8, none⟩ = some (.int .u64 (aLo (b * c))) := oL.c 8 rfl
          have cL9 : World.cell? W ⟨gL, 9, none⟩ = some (.bool (negB (b * d))) := oL.c 9 rfl
          have cL10 : World.cell? W ⟨gL, 10, none⟩ = some (.int .u64 (aHi (b * d))) := oL.c 10 rfl
          have cL11 : World.cell? W ⟨gL, 11, none⟩ = some (.int .u64 (aLo (b * d))) := oL.c 11 rfl
          go_step
          exact hK.out
        · rfl
        refine Reg.RC_exact _ (fun _ h => h) rfl (by intro t ht; cases ht; exact Nat.le_of_ble_eq_true rfl) rfl (fun D v W hc hj hf K hK => ?_) (Reg.RC_at (b := ⟨#[_, _, _, _, _, _, _, _, _, _, _, _, _, _, _, _, _, _, _, _, _, _, _, _, _, _, _, _, _, _, _, _, _, _, _, _, _, _, _, _, _, _, _, _, _, _, _, _, _, _, _, _, _, _, _, _, _], []⟩) rfl ?_)
        · obtain ⟨B, oL, oX, oY, oP, oQ⟩ := hj
          go_step
          refine (rless_q _ _ _ _ D2.out).mono ?_
          rintro e W' ⟨rfl, hb⟩
          have st : Steps W W' := hb
          exact hK.out _ _ Reg.any ⟨below_steps B (Nat.le_refl _) st, oL.steps st, oX.steps st, oY.steps st, oP.steps st, oQ.steps st⟩ Reg.none_ rfl
        refine Reg.RC_end (fun D v W hd hj hf => ?_)
        obtain ⟨B, oL, oX, oY, oP, oQ⟩ := hj
        clear hd hf
        refine hQ _ _ ?_
        clear hQ hops Q' ops'
        have lL := oL.lt
        have fL := oL.fr
        have cL9 := oL.c 9 rfl
        have cL10 := oL.c 10 rfl
        have cL11 := oL.c 11 rfl
        have lX := oX.lt
        have fX := oX.fr
        have cX0 := oX.c 0 rfl
        have cX1 := oX.c 1 rfl
        have cX2 := oX.c 2 rfl
        have lY := oY.lt
        have fY := oY.fr
        have cY0 := oY.c 0 rfl
        have cY1 := oY.c 1 rfl
        have cY2 := oY.c 2 rfl
        go_wp2_with fail
        go_roundw
        case rel =>
          refine ⟨4, by omega, rfl, ?_, ?_, ?_, ?_, ?_, ?_⟩
          · exact Blk.far' (Blk.far' (Blk.far' oL sLY2) sLY2) sLY2
          · show Blk _ gX 77 #[.bool (negB (mn (mn (mn (a * c) (a * d)) (b * c)) (b * d))), .int .u64 (aHi (mn (mn (mn (a * c) (a * d)) (b * c)) (b * d))), .int .u64 (aLo (mn (mn (mn (a * c) (a * d)) (b * c)) (b * d)))]
            rw [E1.out]
            exact Blk.far' (Blk.far' (Blk.far' oX nXY) nXY) nXY
          · show Blk _ gY 77 #[.bool (negB (mx (mx (mx (a * c) (a * d)) (b * c)) (b * d))), .int .u64 (aHi (mx (mx (mx (a * c) (a * d)) (b * c)) (b * d))), .int .u64 (aLo (mx (mx (mx (a * c) (a * d)) (b * c)) (b * d)))]
            rw [E2.out]
            exact Blk.set_ (Blk.set_ (Blk.set_ oY 0 _) 1 _) 2 _
          · exact Blk.far' (Blk.far' (Blk.far' oP sPY) sPY) sPY
          · exact Blk.far' (Blk.far' (Blk.far' oQ sQY) sQY) sQY
          · (repeat' first | with_reducible assumption | with_reducible exact Below.refl _ _ | with_reducible refine Below.alloc ?_ ?_ _ | with_reducible refine Below.drew ?_ | with_reducible refine belowN ?_ _ | with_reducible refine Below.setCell ?_ ?_ _ | go_size)
        case measure => simp [intOf] <;> omega
      · have D1 : Hid (decide (b * d < mn (mn (a * c) (a * d)) (b * c)) = false) := by show decide _ = _; simp <;> omega
        have D2 : Hid (decide (mx (mx (a * c) (a * d)) (b * c) < b * d) = false) := by show decide _ = _; simp <;> omega
        have E1 : Hid (mn (mn (mn (a * c) (a * d)) (b * c)) (b * d) = mn (mn (a * c) (a * d)) (b * c)) := mn_ge h1
        have E2 : Hid (mx (mx (mx (a * c) (a * d)) (b * c)) (b * d) = mx (mx (a * c) (a * d)) (b * c)) := mx_ge h2
        clear h1 h2
        go_wp2_with fail
        refine Reg.wp_chain (fun D v W => Below w.heap.size w W ∧ Blk W (gL) 109 #[.bool (negB (a * c)), .int .u64 (aHi (a * c)), .int .u64 (aLo (a * c)), .bool (negB (a * d)), .int .u64 (aHi (a * d)), .int .u64 (aLo (a * d)), .bool (negB (b * c)), .int .u64 (aHi (b * c)), .int .u64 (aLo (b * c)), .bool (negB (b * d)), .int .u64 (aHi (b * d)), .int .u64 (aLo (b * d))] ∧ Blk W (gX) 77 #[.bool (negB (mn (mn (a * c) (a * d)) (b * c))), .int .u64 (aHi (mn (mn (a * c) (a * d)) (b * c))), .int .u64 (aLo (mn (mn (a * c) (a * d)) (b * c)))] ∧ Blk W (gY) 77 #[.bool (negB (mx (mx (a * c) (a * d)) (b * c))), .int .u64 (aHi (mx (mx (a * c) (a * d)) (b * c))), .int .u64 (aLo (mx (mx (a * c) (a * d)) (b * c)))] ∧ Blk W (w.heap.size + 1 + 1) 77 #[.bool false, .int .u64 0, .int .u64 0] ∧ Blk W (w.heap.size + 1 + 1 + 1) 77 #[.bool false, .int .u64 0, .int .u64 0])
          (Reg.inl [4]) (Reg.ge [(4, .bool false)]) Reg.None_ (fun _ => Reg.Any) (fun _ _ => False) (Reg.pl []) (Reg.pl [])
          (by kernel_rfl) (by kernel_rfl) (by kernel_rfl) (Reg.ge_some _) (fun v => ?_) (fun _ _ _ _ _ h => h) (fun _ _ _ _ _ _ _ _ _ _ _ _ _ => Reg.none_) (fun _ _ _ _ h => h.elim) (fun ops' Q' hops hQ => ?_)
        · exact ⟨(by first | with_reducible exact Below.drew B | with_reducible exact Below.drew (belowN B _) | (repeat' first | with_reducible assumption | with_reducible exact Below.refl _ _ | with_reducible refine Below.alloc ?_ ?_ _ | with_reducible refine Below.drew ?_ | with_reducible refine belowN ?_ _ | with_reducible refine Below.setCell ?_ ?_ _ | go_size)), (show Blk _ _ _ #[.bool (negB (a * c)), .int .u64 (aHi (a * c)), .int .u64 (aLo (a * c)), .bool (negB (a * d)), .int .u64 (aHi (a * d)), .int .u64 (aLo (a * d)), .bool (negB (b * c)), .int .u64 (aHi (b * c)), .int .u64 (aLo (b * c)), .bool (negB (b * d)), .int .u64 (aHi (b * d)), .int .u64 (aLo (b * d))] from (by first | with_reducible exact oL | (repeat' first | with_reducible assumption | (with_reducible refine Blk.new' ?_; first | with_reducible rfl | (simp only [World.size_alloc, World.size_setCell, World.size_drew]; done)) | with_reducible refine Blk.alloc ?_ _ | with_reducible refine Blk.drew ?_ | with_reducible refine Blk.drewN ?_ _ | with_reducible apply Blk.both | with_reducible refine Blk.far' ?_ ?_ | (show _ ≠ _; omega)))), (show Blk _ _ _ #[.bool (negB (mn (mn (a * c) (a * d)) (b * c))), .int .u64 (aHi (mn (mn (a * c) (a * d)) (b * c))), .int .u64 (aLo (mn (mn (a * c) (a * d)) (b * c)))] from (by first | with_reducible exact oX | (repeat' first | with_reducible assumption | (with_reducible refine Blk.new' ?_; first | with_reducible rfl | (simp only [World.size_alloc, World.size_setCell, World.size_drew]; done)) | with_reducible refine Blk.alloc ?_ _ | with_reducible refine Blk.drew ?_ | with_reducible refine Blk.drewN ?_ _ | with_reducible apply Blk.both | with_reducible refine Blk.far' ?_ ?_ | (show _ ≠ _; omega)))), (show Blk _ _ _ #[.bool (negB (mx (mx (a * c) (a * d)) (b * c))), .int .u64 (aHi (mx (mx (a * c) (a * d)) (b * c))), .int .u64 (aLo (mx (mx (a * c) (a * d)) (b * c)))] from (by first | with_reducible exact oY | (repeat' first | with_reducible assumption | (with_reducible refine Blk.new' ?_; first | with_reducible rfl | (simp only [World.size_alloc, World.size_setCell, World.size_drew]; done)) | with_reducible refine Blk.alloc ?_ _ | with_reducible refine Blk.drew ?_ | with_reducible refine Blk.drewN ?_ _ | with_reducible apply Blk.both | with_reducible refine Blk.far' ?_ ?_ | (show _ ≠ _; omega)))), (show Blk _ _ _ #[.bool false, .int .u64 0, .int .u64 0] from (by first | with_reducible exact oP | (repeat' first | with_reducible assumption | (with_reducible refine Blk.new' ?_; first | with_reducible rfl | (simp only [World.size_alloc, World.size_setCell, World.size_drew]; done)) | with_reducible refine Blk.alloc ?_ _ | with_reducible refine Blk.drew ?_ | with_reducible refine Blk.drewN ?_ _ | with_reducible apply Blk.both | with_reducible refine Blk.far' ?_ ?_ | (show _ ≠ _; omega)))), (show Blk _ _ _ #[.bool false, .int .u64 0, .int .u64 0] from (by first | with_reducible exact oQ | (repeat' first | with_reducible assumption | (with_reducible refine Blk.new' ?_; first | with_reducible rfl | (simp only [World.size_alloc, World.size_setCell, World.size_drew]; done)) | with_reducible refine Blk.alloc ?_ _ | with_reducible refine Blk.drew ?_ | with_reducible refine Blk.drewN ?_ _ | with_reducible apply Blk.both | with_reducible refine Blk.far' ?_ ?_ | (show _ ≠ _; omega))))⟩
        clear B oL oX oY oP oQ
        apply Reg.RC_pure (hc := rfl) (hst := rfl) (hw := rfl) (t := 39) (hd := rfl) (ht := Nat.le_of_ble_eq_true rfl)
        · intro D v W hc hj hf K hK
          go_step
          exact hK.out
        · rfl
        apply Reg.RC_pure (hc := rfl) (hst := rfl) (hw := rfl) (t := 40) (hd := rfl) (ht := Nat.le_of_ble_eq_true rfl)
        · intro D v W hc hj hf K hK
          go_step
          exact hK.out
        · rfl
        apply Reg.RC_pure (hc := rfl) (hst := rfl) (hw := rfl) (t := 41) (hd := rfl) (ht := Nat.le_of_ble_eq_true rfl)
        · intro D v W hc hj hf K hK
          obtain ⟨B, oL, oX, oY, oP, oQ⟩ := hj
          have cL0 : World.cell? W ⟨gL, 0, none⟩ = some (.bool (negB (a * c))) := oL.c 0 rfl
          have cL1 : World.cell? W ⟨gL, 1, none⟩ = some (.int .u64 (aHi (a * c))) := oL.c 1 rfl
          have cL2 : World.cell? W ⟨gL, 2, none⟩ = some (.int .u64 (aLo (a * c))) := oL.c 2 rfl
          have cL3 : World.cell? W ⟨gL, 3, none⟩ = some (.bool (negB (a * d))) := oL.c 3 rfl
          have cL4 : World.cell? W ⟨gL, 4, none⟩ = some (.int .u64 (aHi (a * d))) := oL.c 4 rfl
          have cL5 : World.cell? W ⟨gL, 5, none⟩ = some (.int .u64 (aLo (a * d))) := oL.c 5 rfl
          have cL6 : World.cell? W ⟨gL, 6, none⟩ = some (.bool (negB (b * c))) := oL.c 6 rfl
          have cL7 : World.cell? W ⟨gL, 7, none⟩ = some (.int .u64 (aHi (b * c))) := oL.c 7 rfl
          have cL8 : World.cell? W ⟨gL, 8, none⟩ = some (.int .u64 (aLo (b * c))) := oL.c 8 rfl
          have cL9 : World.cell? W ⟨gL, 9, none⟩ = some (.bool (negB (b * d))) := oL.c 9 rfl
          have cL10 : World.cell? W ⟨gL, 10, none⟩ = some (.int .u64 (aHi (b * d))) := oL.c 10 rfl
          have cL11 : World.cell? W ⟨gL, 11, none⟩ = some (.int .u64 (aLo (b * d))) := oL.c 11 rfl
          go_step
          exact hK.out
        · rfl
        apply Reg.RC_pure (hc := rfl) (hst := rfl) (hw := rfl) (t := 42) (hd := rfl) (ht := Nat.le_of_ble_eq_true rfl)
        · intro D v W hc hj hf K hK
          obtain ⟨B, oL, oX, oY, oP, oQ⟩ := hj
          have cX0 : World.cell? W ⟨gX, 0, none⟩ = some (.bool (negB (mn (mn (a * c) (a * d)) (b * c)))) := oX.c 0 rfl
          have cX1 : World.cell? W ⟨gX, 1, none⟩ = some (.int .u64 (aHi (mn (mn (a * c) (a * d)) (b * c)))) := oX.c 1 rfl
          have cX2 : World.cell? W ⟨gX, 2, none⟩ = some (.int .u64 (aLo (mn (mn (a * c) (a * d)) (b * c)))) := oX.c 2 rfl
          go_step
          exact hK.out
        · rfl
        refine Reg.RC_exact _ (fun _ h => h) rfl (by intro t ht; cases ht; exact Nat.le_of_ble_eq_true rfl) rfl (fun D v W hc hj hf K hK => ?_) (Reg.RC_at (b := ⟨#[_, _, _, _, _, _, _, _, _, _, _, _, _, _, _, _, _, _, _, _, _, _, _, _, _, _, _, _, _, _, _, _, _, _, _, _, _, _, _, _, _, _, _, _, _, _, _, _, _, _, _, _, _, _, _, _, _], []⟩) rfl ?_)
        · obtain ⟨B, oL, oX, oY, oP, oQ⟩ := hj
          go_step
          refine (rless_q _ _ _ _ D1.out).mono ?_
          rintro e W' ⟨rfl, hb⟩
          have st : Steps W W' := hb
          exact hK.out _ _ Reg.any ⟨below_steps B (Nat.le_refl _) st, oL.steps st, oX.steps st, oY.steps st, oP.steps st, oQ.steps st⟩ Reg.none_ rfl
        refine Reg.RC_end (fun D v W hd hj hf => ?_)
        obtain ⟨B, oL, oX, oY, oP, oQ⟩ := hj
        clear hd hf
        refine hQ _ _ ?_
        clear hQ hops Q' ops'
        have lL := oL.lt
        have fL := oL.fr
        have cL9 := oL.c 9 rfl
        have cL10 := oL.c 10 rfl
        have cL11 := oL.c 11 rfl
        have lX := oX.lt
        have fX := oX.fr
        have cX0 := oX.c 0 rfl
        have cX1 := oX.c 1 rfl
        have cX2 := oX.c 2 rfl
        have lY := oY.lt
        have fY := oY.fr
        have cY0 := oY.c 0 rfl
        have cY1 := oY.c 1 rfl
        have cY2 := oY.c 2 rfl
        go_wp2_with fail
        clear lL lX lY fL fX fY cL9 cL10 cL11 cX0 cX1 cX2 cY0 cY1 cY2
        refine Reg.wp_chain (fun D v W => Below w.heap.size w W ∧ Blk W (gL) 109 #[.bool (negB (a * c)), .int .u64 (aHi (a * c)), .int .u64 (aLo (a * c)), .bool (negB (a * d)), .int .u64 (aHi (a * d)), .int .u64 (aLo (a * d)), .bool (negB (b * c)), .int .u64 (aHi (b * c)), .int .u64 (aLo (b * c)), .bool (negB (b * d)), .int .u64 (aHi (b * d)), .int .u64 (aLo (b * d))] ∧ Blk W (gX) 77 #[.bool (negB (mn (mn (a * c) (a * d)) (b * c))), .int .u64 (aHi (mn (mn (a * c) (a * d)) (b * c))), .int .u64 (aLo (mn (mn (a * c) (a * d)) (b * c)))] ∧ Blk W (gY) 77 #[.bool (negB (mx (mx (a * c) (a * d)) (b * c))), .int .u64 (aHi (mx (mx (a * c) (a * d)) (b * c))), .int .u64 (aLo (mx (mx (a * c) (a * d)) (b * c)))] ∧ Blk W (w.heap.size + 1 + 1) 77 #[.bool false, .int .u64 0, .int .u64 0] ∧ Blk W (w.heap.size + 1 + 1 + 1) 77 #[.bool false, .int .u64 0, .int .u64 0])
          (Reg.inl [4]) (Reg.ge [(4, .bool false)]) Reg.None_ (fun _ => Reg.Any) (fun _ _ => False) (Reg.pl []) (Reg.pl [])
          (by kernel_rfl) (by kernel_rfl) (by kernel_rfl) (Reg.ge_some _) (fun v => ?_) (fun _ _ _ _ _ h => h) (fun _ _ _ _ _ _ _ _ _ _ _ _ _ => Reg.none_) (fun _ _ _ _ h => h.elim) (fun ops' Q' hops hQ => ?_)
        · exact ⟨(by first | with_reducible exact Below.drew B | with_reducible exact Below.drew (belowN B _) | (repeat' first | with_reducible assumption | with_reducible exact Below.refl _ _ | with_reducible refine Below.alloc ?_ ?_ _ | with_reducible refine Below.drew ?_ | with_reducible refine belowN ?_ _ | with_reducible refine Below.setCell ?_ ?_ _ | go_size)), (show Blk _ _ _ #[.bool (negB (a * c)), .int .u64 (aHi (a * c)), .int .u64 (aLo (a * c)), .bool (negB (a * d)), .int .u64 (aHi (a * d)), .int .u64 (aLo (a * d)), .bool (negB (b * c)), .int .u64 (aHi (b * c)), .int .u64 (aLo (b * c)), .bool (negB (b * d)), .int .u64 (aHi (b * d)), .int .u64 (aLo (b * d))] from (by first | with_reducible exact oL | (repeat' first | with_reducible assumption | (with_reducible refine Blk.new' ?_; first | with_reducible rfl | (simp only [World.size_alloc, World.size_setCell, World.size_drew]; done)) | with_reducible refine Blk.alloc ?_ _ | with_reducible refine Blk.drew ?_ | with_reducible refine Blk.drewN ?_ _ | with_reducible apply Blk.both | with_reducible refine Blk.far' ?_ ?_ | (show _ ≠ _; omega)))), (show Blk _ _ _ #[.bool (negB (mn (mn (a * c) (a * d)) (b * c))), .int .u64 (aHi (mn (mn (a * c) (a * d)) (b * c))), .int .u64 (aLo (mn (mn (a * c) (a * d)) (b * c)))] from (by first | with_reducible exact oX | (repeat' first | with_reducible assumption | (with_reducible refine Blk.new' ?_; first | with_reducible rfl | (simp only [World.size_alloc, World.size_setCell, World.size_drew]; done)) | with_reducible refine Blk.alloc ?_ _ | with_reducible refine Blk.drew ?_ | with_reducible refine Blk.drewN ?_ _ | with_reducible apply Blk.both | with_reducible refine Blk.far' ?_ ?_ | (show _ ≠ _; omega)))), (show Blk _ _ _ #[.bool (negB (mx (mx (a * c) (a * d)) (b * c))), .int .u64 (aHi (mx (mx (a * c) (a * d)) (b * c))), .int .u64 (aLo (mx (mx (a * c) (a * d)) (b * c)))] from (by first | with_reducible exact oY | (repeat' first | with_reducible assumption | (with_reducible refine Blk.new' ?_; first | with_reducible rfl | (simp only [World.size_alloc, World.size_setCell, World.size_drew]; done)) | with_reducible refine Blk.alloc ?_ _ | with_reducible refine Blk.drew ?_ | with_reducible refine Blk.drewN ?_ _ | with_reducible apply Blk.both | with_reducible refine Blk.far' ?_ ?_ | (show _ ≠ _; omega)))), (show Blk _ _ _ #[.bool false, .int .u64 0, .int .u64 0] from (by first | with_reducible exact oP | (repeat' first | with_reducible assumption | (with_reducible refine Blk.new' ?_; first | with_reducible rfl | (simp only [World.size_alloc, World.size_setCell, World.size_drew]; done)) | with_reducible refine Blk.alloc ?_ _ | with_reducible refine Blk.drew ?_ | with_reducible refine Blk.drewN ?_ _ | with_reducible apply Blk.both | with_reducible refine Blk.far' ?_ ?_ | (show _ ≠ _; omega)))), (show Blk _ _ _ #[.bool false, .int .u64 0, .int .u64 0] from (by first | with_reducible exact oQ | (repeat' first | with_reducible assumption | (with_reducible refine Blk.new' ?_; first | with_reducible rfl | (simp only [World.size_alloc, World.size_setCell, World.size_drew]; done)) | with_reducible refine Blk.alloc ?_ _ | with_reducible refine Blk.drew ?_ | with_reducible refine Blk.drewN ?_ _ | with_reducible apply Blk.both | with_reducible refine Blk.far' ?_ ?_ | (show _ ≠ _; omega))))⟩
        clear B oL oX oY oP oQ
        apply Reg.RC_pure (hc := rfl) (hst := rfl) (hw := rfl) (t := 47) (hd := rfl) (ht := Nat.le_of_ble_eq_true rfl)
        · intro D v W hc hj hf K hK
          obtain ⟨B, oL, oX, oY, oP, oQ⟩ := hj
          have cY0 : World.cell? W ⟨gY, 0, none⟩ = some (.bool (negB (mx (mx (a * c) (a * d)) (b * c)))) := oY.c 0 rfl
          have cY1 : World.cell? W ⟨gY, 1, none⟩ = some (.int .u64 (aHi (mx (mx (a * c) (a * d)) (b * c)))) := oY.c 1 rfl
          have cY2 : World.cell? W ⟨gY, 2, none⟩ = some (.int .u64 (aLo (mx (mx (a * c) (a * d)) (b * c)))) := oY.c 2 rfl
          go_step
          exact hK.out
        · rfl
        apply Reg.RC_pure (hc := rfl) (hst := rfl) (hw := rfl) (t := 48) (hd := rfl) (ht := Nat.le_of_ble_eq_true rfl)
        · intro D v W hc hj hf K hK
          go_step
          exact hK.out
        · rfl
        apply Reg.RC_pure (hc := rfl) (hst := rfl) (hw := rfl) (t := 49) (hd := rfl) (ht := Nat.le_of_ble_eq_true rfl)
        · intro D v W hc hj hf K hK
          go_step
          exact hK.out
        · rfl
        apply Reg.RC_pure (hc := rfl) (hst := rfl) (hw := rfl) (t := 50) (hd := rfl) (ht := Nat.le_of_ble_eq_true rfl)
        · intro D v W hc hj hf K hK
          obtain ⟨B, oL, oX, oY, oP, oQ⟩ := hj
          have cL0 : World.cell? W ⟨gL, 0, none⟩ = some (.bool (negB (a * c))) := oL.c 0 rfl
          have cL1 : World.cell? W ⟨gL, 1, none⟩ = some (.int .u64 (aHi (a * c))) := oL.c 1 rfl
          have cL2 : World.cell? W ⟨gL, 2, none⟩ = some (.int .u64 (aLo (a * c))) := oL.c 2 rfl
          have cL3 : World.cell? W ⟨gL, 3, none⟩ = some (.bool (negB (a * d))) := oL.c 3 rfl
          have cL4 : World.cell? W ⟨gL, 4, none⟩ = some (.int .u64 (aHi (a * d))) := oL.c 4 rfl
          have cL5 : World.cell? W ⟨gL, 5, none⟩ = some (.int .u64 (aLo (a * d))) := oL.c 5 rfl
          have cL6 : World.cell? W ⟨gL, 6, none⟩ = some (.bool (negB (b * c))) := oL.c 6 rfl
          have cL7 : World.cell? W ⟨gL, 7, none⟩ = some (.int .u64 (aHi (b * c))) := oL.c 7 rfl
          have cL8 : World.cell? W ⟨gL, 8, none⟩ = some (.int .u64 (aLo (b * c))) := oL.c 8 rfl
          have cL9 : World.cell? W ⟨gL, 9, none⟩ = some (.bool (negB (b * d))) := oL.c 9 rfl
          have cL10 : World.cell? W ⟨gL, 10, none⟩ = some (.int .u64 (aHi (b * d))) := oL.c 10 rfl
          have cL11 : World.cell? W ⟨gL, 11, none⟩ = some (.int .u64 (aLo (b * d))) := oL.c 11 rfl
          go_step
          exact hK.out
        · rfl
        refine Reg.RC_exact _ (fun _ h => h) rfl (by intro t ht; cases ht; exact Nat.le_of_ble_eq_true rfl) rfl (fun D v W hc hj hf K hK => ?_) (Reg.RC_at (b := ⟨#[_, _, _, _, _, _, _, _, _, _, _, _, _, _, _, _, _, _, _, _, _, _, _, _, _, _, _, _, _, _, _, _, _, _, _, _, _, _, _, _, _, _, _, _, _, _, _, _, _, _, _, _, _, _, _, _, _], []⟩) rfl ?_)
        · obtain ⟨B, oL, oX, oY, oP, oQ⟩ := hj
          go_step
          refine (rless_q _ _ _ _ D2.out).mono ?_
          rintro e W' ⟨rfl, hb⟩
          have st : Steps W W' := hb
          exact hK.out _ _ Reg.any ⟨below_steps B (Nat.le_refl _) st, oL.steps st, oX.steps st, oY.steps st, oP.steps st, oQ.steps st⟩ Reg.none_ rfl
        refine Reg.RC_end (fun D v W hd hj hf => ?_)
        obtain ⟨B, oL, oX, oY, oP, oQ⟩ := hj
        clear hd hf
        refine hQ _ _ ?_
        clear hQ hops Q' ops'
        have lL := oL.lt
        have fL := oL.fr
        have cL9 := oL.c 9 rfl
        have cL10 := oL.c 10 rfl
        have cL11 := oL.c 11 rfl
        have lX := oX.lt
        have fX := oX.fr
        have cX0 := oX.c 0 rfl
        have cX1 := oX.c 1 rfl
        have cX2 := oX.c 2 rfl
        have lY := oY.lt
        have fY := oY.fr
        have cY0 := oY.c 0 rfl
        have cY1 := oY.c 1 rfl
        have cY2 := oY.c 2 rfl
        go_wp2_with fail
        go_roundw
        case rel =>
          refine ⟨4, by omega, rfl, ?_, ?_, ?_, ?_, ?_, ?_⟩
          · exact oL
          · show Blk _ gX 77 #[.bool (negB (mn (mn (mn (a * c) (a * d)) (b * c)) (b * d))), .int .u64 (aHi (mn (mn (mn (a * c) (a * d)) (b * c)) (b * d))), .int .u64 (aLo (mn (mn (mn (a * c) (a * d)) (b * c)) (b * d)))]
            rw [E1.out]
            exact oX
          · show Blk _ gY 77 #[.bool (negB (mx (mx (mx (a * c) (a * d)) (b * c)) (b * d))), .int .u64 (aHi (mx (mx (mx (a * c) (a * d)) (b * c)) (b * d))), .int .u64 (aLo (mx (mx (mx (a * c) (a * d)) (b * c)) (b * d)))]
            rw [E2.out]
            exact oY
          · exact oP
          · exact oQ
          · (repeat' first | with_reducible assumption | with_reducible exact Below.refl _ _ | with_reducible refine Below.alloc ?_ ?_ _ | with_reducible refine Below.drew ?_ | with_reducible refine belowN ?_ _ | with_reducible refine Below.setCell ?_ ?_ _ | go_size)
        case measure => simp [intOf] <;> omega
    · clear k0 k1
      have oX : Blk _ gX 77 #[.bool (negB (mn (mn (mn (a * c) (a * d)) (b * c)) (b * d))), .int .u64 (aHi (mn (mn (mn (a * c) (a * d)) (b * c)) (b * d))), .int .u64 (aLo (mn (mn (mn (a * c) (a * d)) (b * c)) (b * d)))] := oX
      have oY : Blk _ gY 77 #[.bool (negB (mx (mx (mx (a * c) (a * d)) (b * c)) (b * d))), .int .u64 (aHi (mx (mx (mx (a * c) (a * d)) (b * c)) (b * d))), .int .u64 (aLo (mx (mx (mx (a * c) (a * d)) (b * c)) (b * d)))] := oY
      go_wp2_with fail
      refine Reg.wp_chain (fun D v W => Below w.heap.size w W ∧ Blk W (gX) 77 #[.bool (negB (mn (mn (mn (a * c) (a * d)) (b * c)) (b * d))), .int .u64 (aHi (mn (mn (mn (a * c) (a * d)) (b * c)) (b * d))), .int .u64 (aLo (mn (mn (mn (a * c) (a * d)) (b * c)) (b * d)))] ∧ Blk W (gY) 77 #[.bool (negB (mx (mx (mx (a * c) (a * d)) (b * c)) (b * d))), .int .u64 (aHi (mx (mx (mx (a * c) (a * d)) (b * c)) (b * d))), .int .u64 (aLo (mx (mx (mx (a * c) (a * d)) (b * c)) (b * d)))] ∧ Blk W (w.heap.size + 1 + 1) 77 #[Reg.sel (D 2) (.bool false) (.bool (negB (mn (mn (mn (a * c) (a * d)) (b * c)) (b * d)))), Reg.sel (D 2) (.int .u64 0) (.int .u64 (aHi (mn (mn (mn (a * c) (a * d)) (b * c)) (b * d)))), Reg.sel (D 2) (.int .u64 0) (.int .u64 (aLo (mn (mn (mn (a * c) (a * d)) (b * c)) (b * d))))] ∧ Blk W (w.heap.size + 1 + 1 + 1) 77 #[Reg.sel (D 3) (.bool false) (.bool (negB (mx (mx (mx (a * c) (a * d)) (b * c)) (b * d)))), Reg.sel (D 3) (.int .u64 0) (.int .u64 (aHi (mx (mx (mx (a * c) (a * d)) (b * c)) (b * d)))), Reg.sel (D 3) (.int .u64 0) (.int .u64 (aLo (mx (mx (mx (a * c) (a * d)) (b * c)) (b * d))))])
        (Reg.inl [2, 3]) (Reg.ge []) Reg.None_ (fun _ => Reg.Any) (fun _ _ => False) (Reg.pl []) (Reg.pl [])
        (by kernel_rfl) (by kernel_rfl) (by kernel_rfl) (Reg.ge_some _) (fun v => ?_) (fun _ _ _ _ _ h => h) (fun _ _ _ _ _ _ _ _ _ _ _ _ _ => Reg.none_) (fun _ _ _ _ h => h.elim) (fun ops' Q' hops hQ => ?_)
      · exact ⟨(by first | with_reducible exact Below.drew B | with_reducible exact Below.drew (belowN B _) | (repeat' first | with_reducible assumption | with_reducible exact Below.refl _ _ | with_reducible refine Below.alloc ?_ ?_ _ | with_reducible refine Below.drew ?_ | with_reducible refine belowN ?_ _ | with_reducible refine Below.setCell ?_ ?_ _ | go_size)), (show Blk _ _ _ #[.bool (negB (mn (mn (mn (a * c) (a * d)) (b * c)) (b * d))), .int .u64 (aHi (mn (mn (mn (a * c) (a * d)) (b * c)) (b * d))), .int .u64 (aLo (mn (mn (mn (a * c) (a * d)) (b * c)) (b * d)))] from (by first | with_reducible exact oX | (repeat' first | with_reducible assumption | (with_reducible refine Blk.new' ?_; first | with_reducible rfl | (simp only [World.size_alloc, World.size_setCell, World.size_drew]; done)) | with_reducible refine Blk.alloc ?_ _ | with_reducible refine Blk.drew ?_ | with_reducible refine Blk.drewN ?_ _ | with_reducible apply Blk.both | with_reducible refine Blk.far' ?_ ?_ | (show _ ≠ _; omega)))), (show Blk _ _ _ #[.bool (negB (mx (mx (mx (a * c) (a * d)) (b * c)) (b * d))), .int .u64 (aHi (mx (mx (mx (a * c) (a * d)) (b * c)) (b * d))), .int .u64 (aLo (mx (mx (mx (a * c) (a * d)) (b * c)) (b * d)))] from (by first | with_reducible exact oY | (repeat' first | with_reducible assumption | (with_reducible refine Blk.new' ?_; first | with_reducible rfl | (simp only [World.size_alloc, World.size_setCell, World.size_drew]; done)) | with_reducible refine Blk.alloc ?_ _ | with_reducible refine Blk.drew ?_ | with_reducible refine Blk.drewN ?_ _ | with_reducible apply Blk.both | with_reducible refine Blk.far' ?_ ?_ | (show _ ≠ _; omega)))), (show Blk _ _ _ #[.bool false, .int .u64 0, .int .u64 0] from (by first | with_reducible exact oP | (repeat' first | with_reducible assumption | (with_reducible refine Blk.new' ?_; first | with_reducible rfl | (simp only [World.size_alloc, World.size_setCell, World.size_drew]; done)) | with_reducible refine Blk.alloc ?_ _ | with_reducible refine Blk.drew ?_ | with_reducible refine Blk.drewN ?_ _ | with_reducible apply Blk.both | with_reducible refine Blk.far' ?_ ?_ | (show _ ≠ _; omega)))), (show Blk _ _ _ #[.bool false, .int .u64 0, .int .u64 0] from (by first | with_reducible exact oQ | (repeat' first | with_reducible assumption | (with_reducible refine Blk.new' ?_; first | with_reducible rfl | (simp only [World.size_alloc, World.size_setCell, World.size_drew]; done)) | with_reducible refine Blk.alloc ?_ _ | with_reducible refine Blk.drew ?_ | with_reducible refine Blk.drewN ?_ _ | with_reducible apply Blk.both | with_reducible refine Blk.far' ?_ ?_ | (show _ ≠ _; omega))))⟩
      clear B oX oY oP oQ
      apply Reg.RC_pure (hc := rfl) (hst := rfl) (hw := rfl) (t := 55) (hd := rfl) (ht := Nat.le_of_ble_eq_true rfl)
      · intro D v W hc hj hf K hK
        obtain ⟨B, oX, oY, oP, oQ⟩ := hj
        have cX0 : World.cell? W ⟨gX, 0, none⟩ = some (.bool (negB (mn (mn (mn (a * c) (a * d)) (b * c)) (b * d)))) := oX.c 0 rfl
        have cX1 : World.cell? W ⟨gX, 1, none⟩ = some (.int .u64 (aHi (mn (mn (mn (a * c) (a * d)) (b * c)) (b * d)))) := oX.c 1 rfl
        have cX2 : World.cell? W ⟨gX, 2, none⟩ = some (.int .u64 (aLo (mn (mn (mn (a * c) (a * d)) (b * c)) (b * d)))) := oX.c 2 rfl
        go_step
        exact hK.out
      · rfl
      apply Reg.RC_pure (hc := rfl) (hst := rfl) (hw := rfl) (t := 56) (hd := rfl) (ht := Nat.le_of_ble_eq_true rfl)
      · intro D v W hc hj hf K hK
        obtain ⟨B, oX, oY, oP, oQ⟩ := hj
        have cY0 : World.cell? W ⟨gY, 0, none⟩ = some (.bool (negB (mx (mx (mx (a * c) (a * d)) (b * c)) (b * d)))) := oY.c 0 rfl
        have cY1 : World.cell? W ⟨gY, 1, none⟩ = some (.int .u64 (aHi (mx (mx (mx (a * c) (a * d)) (b * c)) (b * d)))) := oY.c 1 rfl
        have cY2 : World.cell? W ⟨gY, 2, none⟩ = some (.int .u64 (aLo (mx (mx (mx (a * c) (a * d)) (b * c)) (b * d)))) := oY.c 2 rfl
        go_step
        exact hK.out
      · rfl
      refine Reg.RC_call rfl (by intro t ht; cases ht) rfl (fun D v W hc hj hf K hK => ?_) (fun _ _ => Reg.RC_at (b := ⟨_, []⟩) rfl ?_)
      · obtain ⟨B, oX, oY, oP, oQ⟩ := hj
        have hs : D 2 = false := hc.1
        have oP : Blk W (w.heap.size + 1 + 1) 77 #[.bool false, .int .u64 0, .int .u64 0] := by have o := oP; simp only [hs, Reg.sel_false] at o; exact o
        have lP := oP.lt
        have fP := oP.fr
        have cP0 : World.cell? W ⟨w.heap.size + 1 + 1, 0, none⟩ = some (.bool false) := oP.c 0 rfl
        have cP1 : World.cell? W ⟨w.heap.size + 1 + 1, 1, none⟩ = some (.int .u64 0) := oP.c 1 rfl
        have cP2 : World.cell? W ⟨w.heap.size + 1 + 1, 2, none⟩ = some (.int .u64 0) := oP.c 2 rfl
        go_step
        exact hK.out undef _ Reg.any ⟨(by (repeat' first | with_reducible assumption | with_reducible exact Below.refl _ _ | with_reducible refine Below.alloc ?_ ?_ _ | with_reducible refine Below.drew ?_ | with_reducible refine belowN ?_ _ | with_reducible refine Below.setCell ?_ ?_ _ | go_size)), (show Blk _ _ _ #[.bool (negB (mn (mn (mn (a * c) (a * d)) (b * c)) (b * d))), .int .u64 (aHi (mn (mn (mn (a * c) (a * d)) (b * c)) (b * d))), .int .u64 (aLo (mn (mn (mn (a * c) (a * d)) (b * c)) (b * d)))] from (by (repeat' first | with_reducible assumption | (with_reducible refine Blk.new' ?_; first | with_reducible rfl | (simp only [World.size_alloc, World.size_setCell, World.size_drew]; done)) | with_reducible refine Blk.alloc ?_ _ | with_reducible refine Blk.drew ?_ | with_reducible refine Blk.drewN ?_ _ | with_reducible apply Blk.both | with_reducible refine Blk.far' ?_ ?_ | (show _ ≠ _; omega)))), (show Blk _ _ _ #[.bool (negB (mx (mx (mx (a * c) (a * d)) (b * c)) (b * d))), .int .u64 (aHi (mx (mx (mx (a * c) (a * d)) (b * c)) (b * d))), .int .u64 (aLo (mx (mx (mx (a * c) (a * d)) (b * c)) (b * d)))] from (by (repeat' first | with_reducible assumption | (with_reducible refine Blk.new' ?_; first | with_reducible rfl | (simp only [World.size_alloc, World.size_setCell, World.size_drew]; done)) | with_reducible refine Blk.alloc ?_ _ | with_reducible refine Blk.drew ?_ | with_reducible refine Blk.drewN ?_ _ | with_reducible apply Blk.both | with_reducible refine Blk.far' ?_ ?_ | (show _ ≠ _; omega)))), (show Blk _ _ _ #[.bool (negB (mn (mn (mn (a * c) (a * d)) (b * c)) (b * d))), .int .u64 (aHi (mn (mn (mn (a * c) (a * d)) (b * c)) (b * d))), .int .u64 (aLo (mn (mn (mn (a * c) (a * d)) (b * c)) (b * d)))] from (Blk.set2 (cs' := #[.bool (negB (mn (mn (mn (a * c) (a * d)) (b * c)) (b * d))), .int .u64 (aHi (mn (mn (mn (a * c) (a * d)) (b * c)) (b * d))), .int .u64 (aLo (mn (mn (mn (a * c) (a * d)) (b * c)) (b * d)))]) (Blk.set2 (cs' := #[.bool (negB (mn (mn (mn (a * c) (a * d)) (b * c)) (b * d))), .int .u64 (aHi (mn (mn (mn (a * c) (a * d)) (b * c)) (b * d))), .int .u64 0]) (Blk.set2 (cs' := #[.bool (negB (mn (mn (mn (a * c) (a * d)) (b * c)) (b * d))), .int .u64 0, .int .u64 0]) oP (i := 0) rfl) (i := 1) rfl) (i := 2) rfl)), (show Blk _ _ _ #[Reg.sel (D 3) (.bool false) (.bool (negB (mx (mx (mx (a * c) (a * d)) (b * c)) (b * d)))), Reg.sel (D 3) (.int .u64 0) (.int .u64 (aHi (mx (mx (mx (a * c) (a * d)) (b * c)) (b * d)))), Reg.sel (D 3) (.int .u64 0) (.int .u64 (aLo (mx (mx (mx (a * c) (a * d)) (b * c)) (b * d))))] from (by (repeat' first | with_reducible assumption | (with_reducible refine Blk.new' ?_; first | with_reducible rfl | (simp only [World.size_alloc, World.size_setCell, World.size_drew]; done)) | with_reducible refine Blk.alloc ?_ _ | with_reducible refine Blk.drew ?_ | with_reducible refine Blk.drewN ?_ _ | with_reducible apply Blk.both | with_reducible refine Blk.far' ?_ ?_ | (show _ ≠ _; omega))))⟩ Reg.none_ trivial
      refine Reg.RC_call rfl (by intro t ht; cases ht) rfl (fun D v W hc hj hf K hK => ?_) (fun _ _ => Reg.RC_at (b := ⟨_, []⟩) rfl ?_)
      · obtain ⟨B, oX, oY, oP, oQ⟩ := hj
        have hs : D 3 = false := hc.1
        have oQ : Blk W (w.heap.size + 1 + 1 + 1) 77 #[.bool false, .int .u64 0, .int .u64 0] := by have o := oQ; simp only [hs, Reg.sel_false] at o; exact o
        have lQ := oQ.lt
        have fQ := oQ.fr
        have cQ0 : World.cell? W ⟨w.heap.size + 1 + 1 + 1, 0, none⟩ = some (.bool false) := oQ.c 0 rfl
        have cQ1 : World.cell? W ⟨w.heap.size + 1 + 1 + 1, 1, none⟩ = some (.int .u64 0) := oQ.c 1 rfl
        have cQ2 : World.cell? W ⟨w.heap.size + 1 + 1 + 1, 2, none⟩ = some (.int .u64 0) := oQ.c 2 rfl
        go_step
        exact hK.out undef _ Reg.any ⟨(by (repeat' first | with_reducible assumption | with_reducible exact Below.refl _ _ | with_reducible refine Below.alloc ?_ ?_ _ | with_reducible refine Below.drew ?_ | with_reducible refine belowN ?_ _ | with_reducible refine Below.setCell ?_ ?_ _ | go_size)), (show Blk _ _ _ #[.bool (negB (mn (mn (mn (a * c) (a * d)) (b * c)) (b * d))), .int .u64 (aHi (mn (mn (mn (a * c) (a * d)) (b * c)) (b * d))), .int .u64 (aLo (mn (mn (mn (a * c) (a * d)) (b * c)) (b * d)))] from (by (repeat' first | with_reducible assumption | (with_reducible refine Blk.new' ?_; first | with_reducible rfl | (simp only [World.size_alloc, World.size_setCell, World.size_drew]; done)) | with_reducible refine Blk.alloc ?_ _ | with_reducible refine Blk.drew ?_ | with_reducible refine Blk.drewN ?_ _ | with_reducible apply Blk.both | with_reducible refine Blk.far' ?_ ?_ | (show _ ≠ _; omega)))), (show Blk _ _ _ #[.bool (negB (mx (mx (mx (a * c) (a * d)) (b * c)) (b * d))), .int .u64 (aHi (mx (mx (mx (a * c) (a * d)) (b * c)) (b * d))), .int .u64 (aLo (mx (mx (mx (a * c) (a * d)) (b * c)) (b * d)))] from (by (repeat' first | with_reducible assumption | (with_reducible refine Blk.new' ?_; first | with_reducible rfl | (simp only [World.size_alloc, World.size_setCell, World.size_drew]; done)) | with_reducible refine Blk.alloc ?_ _ | with_reducible refine Blk.drew ?_ | with_reducible refine Blk.drewN ?_ _ | with_reducible apply Blk.both | with_reducible refine Blk.far' ?_ ?_ | (show _ ≠ _; omega)))), (show Blk _ _ _ #[Reg.sel (D 2) (.bool false) (.bool (negB (mn (mn (mn (a * c) (a * d)) (b * c)) (b * d)))), Reg.sel (D 2) (.int .u64 0) (.int .u64 (aHi (mn (mn (mn (a * c) (a * d)) (b * c)) (b * d)))), Reg.sel (D 2) (.int .u64 0) (.int .u64 (aLo (mn (mn (mn (a * c) (a * d)) (b * c)) (b * d))))] from (by (repeat' first | with_reducible assumption | (with_reducible refine Blk.new' ?_; first | with_reducible rfl | (simp only [World.size_alloc, World.size_setCell, World.size_drew]; done)) | with_reducible refine Blk.alloc ?_ _ | with_reducible refine Blk.drew ?_ | with_reducible refine Blk.drewN ?_ _ | with_reducible apply Blk.both | with_reducible refine Blk.far' ?_ ?_ | (show _ ≠ _; omega)))), (show Blk _ _ _ #[.bool (negB (mx (mx (mx (a * c) (a * d)) (b * c)) (b * d))), .int .u64 (aHi (mx (mx (mx (a * c) (a * d)) (b * c)) (b * d))), .int .u64 (aLo (mx (mx (mx (a * c) (a * d)) (b * c)) (b * d)))] from (Blk.set2 (cs' := #[.bool (negB (mx (mx (mx (a * c) (a * d)) (b * c)) (b * d))), .int .u64 (aHi (mx (mx (mx (a * c) (a * d)) (b * c)) (b * d))), .int .u64 (aLo (mx (mx (mx (a * c) (a * d)) (b * c)) (b * d)))]) (Blk.set2 (cs' := #[.bool (negB (mx (mx (mx (a * c) (a * d)) (b * c)) (b * d))), .int .u64 (aHi (mx (mx (mx (a * c) (a * d)) (b * c)) (b * d))), .int .u64 0]) (Blk.set2 (cs' := #[.bool (negB (mx (mx (mx (a * c) (a * d)) (b * c)) (b * d))), .int .u64 0, .int .u64 0]) oQ (i := 0) rfl) (i := 1) rfl) (i := 2) rfl))⟩ Reg.none_ trivial
      refine Reg.RC_end (fun D v W hd hj hf => ?_)
      obtain ⟨B, oX, oY, oP, oQ⟩ := hj
      have e2 : D 2 = true := hd 2 (by decide)
      have e3 : D 3 = true := hd 3 (by decide)
      have oP : Blk W (w.heap.size + 1 + 1) 77 #[.bool (negB (mn (mn (mn (a * c) (a * d)) (b * c)) (b * d))), .int .u64 (aHi (mn (mn (mn (a * c) (a * d)) (b * c)) (b * d))), .int .u64 (aLo (mn (mn (mn (a * c) (a * d)) (b * c)) (b * d)))] := by have o := oP; simp only [e2, Reg.sel_true] at o; exact o
      have oQ : Blk W (w.heap.size + 1 + 1 + 1) 77 #[.bool (negB (mx (mx (mx (a * c) (a * d)) (b * c)) (b * d))), .int .u64 (aHi (mx (mx (mx (a * c) (a * d)) (b * c)) (b * d))), .int .u64 (aLo (mx (mx (mx (a * c) (a * d)) (b * c)) (b * d)))] := by have o := oQ; simp only [e3, Reg.sel_true] at o; exact o
      clear e2 e3
      clear hd hf
      refine hQ _ _ ?_
      clear hQ hops Q' ops'
      have lP := oP.lt
      have fP := oP.fr
      have cP0 := oP.c 0 rfl
      have cP1 := oP.c 1 rfl
      have cP2 := oP.c 2 rfl
      have lQ := oQ.lt
      have fQ := oQ.fr
      have cQ0 := oQ.c 0 rfl
      have cQ1 := oQ.c 1 rfl
      have cQ2 := oQ.c 2 rfl
      repeat' (first | go_values | go_skip | go_guarded | go_step | go_upon)
      refine bodyPost_ret (by simp [results, Try.results66, go_sem, cP0, cP1, cP2, cQ0, cQ1, cQ2, lP, lQ, fP, fQ]; rfl) rfl ?_
      exact ⟨rfl, B⟩
