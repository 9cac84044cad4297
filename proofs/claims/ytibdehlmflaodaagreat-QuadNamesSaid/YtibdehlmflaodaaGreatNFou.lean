import Derived.Sort.CutIn
import Derived.LoopNIn
import Derived.Test.YtibdehlmflaodaaGreatNTz
import Derived.Test.YtibdehlmflaodaaGreatNPriv
set_option linter.unusedVariables false
set_option linter.unusedSimpArgs false
set_option maxHeartbeats 6400000
set_option maxRecDepth 1000000
namespace Go.Proofs.YtibdehlmflaodaaGreat
open Go.RowKit Go.Shelf
attribute [local go_sem] Oper.semAt_some
def foursV (x : P4) : Value := .agg #[.int .i64 (x.1 : Nat), .int .i64 (x.2.1 : Nat), .int .i64 (x.2.2.1 : Nat), .int .i64 (x.2.2.2 : Nat)]
def foursE (x : P4) : Array Value := #[foursV x]
def KF (Bs G : Nat) (A B : World) : Prop := B.heap[Bs]? = A.heap[Bs]? ∧ B.heap[G]? = A.heap[G]?
def rk (w : World) (g : Nat) : Nat :=
 512 * (intOf ((w.cell? ⟨g, 0, none⟩).getD undef)).toNat + 64 * (intOf ((w.cell? ⟨g, 1, none⟩).getD undef)).toNat + 8 * (intOf ((w.cell? ⟨g, 2, none⟩).getD undef)).toNat + (intOf ((w.cell? ⟨g, 3, none⟩).getD undef)).toNat
theorem rk_of {w : World} {g : Nat} {t : TypeId} {a b c d : Int} (h : Blk w g t #[.int .i64 a, .int .i64 b, .int .i64 c, .int .i64 d]) : rk w g = 512 * a.toNat + 64 * b.toNat + 8 * c.toNat + d.toNat := by
 unfold rk
 have c0 : w.cell? ⟨g, 0, none⟩ = _ := h.c 0 rfl
 have c1 : w.cell? ⟨g, 1, none⟩ = _ := h.c 1 rfl
 have c2 : w.cell? ⟨g, 2, none⟩ = _ := h.c 2 rfl
 have c3 : w.cell? ⟨g, 3, none⟩ = _ := h.c 3 rfl
 rw [c0, c1, c2, c3]; rfl
theorem fours_in (F : Fence) (n : Nat) (h5 : F.fn 20) (hro : F.round = none) (x : Int) (w : World) :
  CallsIn F n Tryz.prog 20 #[.int .i64 x] w fun e w' => e = .returned (.func (.func 41) #[] #[.pointer (some ⟨w.heap.size, 0, none⟩)]) ∧ w' = w.alloc (.cells #[.int .i64 x] 3) := by
 refine callsIn_of_wp Tryz.func20 rfl h5 ?_ hro
 simp only [Tryz.ntmps20, List.size_toArray, List.length_cons, List.length_nil, Nat.reduceAdd, Nat.reduceSub, Array.replicate_succ, Array.replicate_zero, List.push_toArray, List.append_toArray, List.nil_append, List.cons_append]
 gi_wp2
 go_ret
 exact ⟨rfl, rfl⟩
theorem fours1_priv (m Bs G n : Nat) (hn : n ≤ 7) (hlt : Bs < G) :
  PrivSeq Fence.wide m Tryz.prog 41 #[.pointer (some ⟨Bs, 0, none⟩)] foursE (KF Bs G) (fun xs => xs = fours n) (fun pre x => good4 n x = true ∧ pre.length < 36 ∧ pre = (fours n).take pre.length) G (fun A => Blk A Bs 3 #[.int .i64 (n : Nat)]) := by
 intro l J W0 hpre hG hC hY h0
 obtain ⟨N, hN⟩ : ∃ N : Int, (n : Int) = N := ⟨_, rfl⟩
 rw [hN] at hpre
 obtain ⟨l35, hit, hend⟩ := it4_all n hn
 have HI := Hid.mk_ hit
 clear hit
 have hro : Fence.wide.round = none := rfl
 have n4e : wrap64 (N - 4) = N - 4 := by unfold wrap64; omega
 obtain ⟨n4, hn4⟩ : ∃ x, N - 4 = x := ⟨_, rfl⟩
 rw [hn4] at n4e
 have q3e : wrap64 (n4 + 3) = n4 + 3 := by unfold wrap64; omega
 have q2e : wrap64 (n4 + 2) = n4 + 2 := by unfold wrap64; omega
 have q1e : wrap64 (n4 + 1) = n4 + 1 := by unfold wrap64; omega
 refine callsIn_of_wp Tryz.func41 rfl trivial ?_ hro
 simp only [Tryz.ntmps41, List.size_toArray, List.length_cons, List.length_nil, Nat.reduceAdd, Nat.reduceSub, Array.replicate_succ, Array.replicate_zero, List.push_toArray, List.append_toArray, List.nil_append, List.cons_append]
 gi_wp2
 gi_loopw [4] (fun _ wr => ∃ i : Nat, i ≤ (fours n).length ∧ J ((fours n).take i) wr ∧ Blk wr G 25 #[.int .i64 ((it4 n i).1 : Nat), .int .i64 ((it4 n i).2.1 : Nat), .int .i64 ((it4 n i).2.2.1 : Nat), .int .i64 ((it4 n i).2.2.2 : Nat)] ∧ Blk wr Bs 3 #[.int .i64 N])
  (fun _ wr => 10000 - rk wr G)
 case atStart =>
  refine ⟨0, Nat.zero_le _, ?_, ?_, ?_⟩
  ·
   rw [List.take_zero]
   exact hC.al _ (fun _ => ⟨_, _, rfl, rfl⟩) h0
  · subst hG; exact (show Blk _ _ _ #[.int .i64 0, .int .i64 1, .int .i64 2, .int .i64 3] from ownK)
  · exact ownK
 case round =>
  obtain ⟨i, hi, hJ, oG, oN⟩ := hrel
  have cN : World.cell? wr ⟨Bs, 0, none⟩ = _ := oN.c 0 rfl
  have c3 : World.cell? wr ⟨G, 3, none⟩ = _ := oG.c 3 rfl
  rcases Nat.lt_or_ge i (fours n).length with hil | hil
  ·
   have g4 := good4_iff (HI.out i hil).2
   have hget := (HI.out i hil).1
   have HT : Hid ((fours n).take (i + 1) = (fours n).take i ++ [it4 n i]) := Hid.mk_ (by rw [List.take_add_one, hget]; rfl)
   have HX : Hid (it4 n (i + 1) = nxt4 n (it4 n i)) := Hid.mk_ rfl
   have hlen : ((fours n).take i).length < 36 := by rw [List.length_take]; omega
   obtain ⟨fn, tmps, assign, body, hy, hR⟩ := hY _ (it4 n i) wr hJ ⟨(HI.out i hil).2, hlen, by rw [List.length_take, Nat.min_eq_left hi]⟩ oG.lt
   unfold foursE foursV at hy
   have ltd : decide (((it4 n i).2.2.2 : Int) < N) = true := decide_eq_true (by omega)
   have c0 : World.cell? wr ⟨G, 0, none⟩ = _ := oG.c 0 rfl
   have c1 : World.cell? wr ⟨G, 1, none⟩ = _ := oG.c 1 rfl
   have c2 : World.cell? wr ⟨G, 2, none⟩ = _ := oG.c 2 rfl
   obtain ⟨a, ha⟩ : ∃ a, (it4 n i).1 = a := ⟨_, rfl⟩
   obtain ⟨b, hb⟩ : ∃ a, (it4 n i).2.1 = a := ⟨_, rfl⟩
   obtain ⟨c, hc⟩ : ∃ a, (it4 n i).2.2.1 = a := ⟨_, rfl⟩
   obtain ⟨d, hd⟩ : ∃ a, (it4 n i).2.2.2 = a := ⟨_, rfl⟩
   rw [ha, hb, hc, hd] at hy oG g4
   rw [ha] at c0
   rw [hb] at c1
   rw [hc] at c2
   rw [hd] at c3 ltd
   have HX2 : Hid (it4 n (i + 1) = nxt4 n (a, b, c, d)) := Hid.mk_ (by rw [HX.out, ← ha, ← hb, ← hc, ← hd])
   clear ha hb hc hd hget HX hlen
   gi_wp2
   refine ⟨fun h => (by cases h), hR.mono ?_⟩
   rintro e w0 ⟨rfl, hJ2, kp⟩
   have R0 : Hid (rk wr G = 512 * a + 64 * b + 8 * c + d) := Hid.mk_ (rk_of oG)
   have oG := (show Blk w0 G _ _ from kp.2.trans oG)
   have oN := (show Blk w0 Bs _ _ from kp.1.trans oN)
   rw [← HT.out] at hJ2
   have HJ := hJ2
   clear hJ hJ2 hR hy kp c0 c1 c2 c3 cN
   obtain ⟨A, hA⟩ : ∃ x : Int, (a : Int) = x := ⟨_, rfl⟩
   obtain ⟨B, hB⟩ : ∃ x : Int, (b : Int) = x := ⟨_, rfl⟩
   obtain ⟨C, hCc⟩ : ∃ x : Int, (c : Int) = x := ⟨_, rfl⟩
   obtain ⟨D, hD⟩ : ∃ x : Int, (d : Int) = x := ⟨_, rfl⟩
   rw [hA, hB, hCc, hD] at oG
   have hJ := HJ
   clear HJ
   by_cases g3 : d + 1 < n
   ·
    have t3 : (D == n4 + 3) = false := by simpa using (show D ≠ n4 + 3 by omega)
    obtain ⟨P0, hP0⟩ : ∃ x, D + 1 = x := ⟨_, rfl⟩
    have s0 : wrap64 (D + 1) = P0 := by rw [hP0]; unfold wrap64; omega
    gi_wp2_with fail
    refine wpIn_loop_rounds 5 ?_
    rw [roundsIn_succ]
    gi_upto_region 4 with fail
    refine wpIn_wide.2 ?_
    refine Reg.wp_chain (fun D v W => ∃ m, W = w0.drewN m) (Reg.inl []) (Reg.gv []) Reg.None_ (fun _ => Reg.Any) (fun _ _ => False) (Reg.pl []) (Reg.pl [])
     (by kernel_rfl) (by kernel_rfl) (by kernel_rfl) (Reg.gv_some _ (by intro p hp; cases hp)) (fun _ => ⟨1, rfl⟩) (fun _ _ _ _ _ h => h) (fun _ _ _ _ _ _ _ _ _ _ _ _ _ => Reg.none_) (fun _ _ _ _ h => h.elim) (fun ops' Q' hops hQ => ?_)
    apply Reg.RP rfl rfl rfl 15 rfl rfl
    ·
     intro D v W hc hj hf K' hK'
     go_step
     exact hK'.out
    · rfl
    apply Reg.RP rfl rfl rfl 16 rfl rfl
    ·
     intro D v W hc hj hf K' hK'
     go_step
     exact hK'.out
    · rfl
    apply Reg.RP rfl rfl rfl 17 rfl rfl
    ·
     intro D v W hc hj hf K' hK'
     go_step
     exact hK'.out
    · rfl
    apply Reg.RP rfl rfl (by rw [hops]; rfl) 18 rfl rfl
    ·
     intro D v W hc hj hf K' hK'
     go_step
     exact hK'.out
    · rfl
    apply Reg.RP rfl rfl (by rw [hops]; rfl) 19 rfl rfl
    ·
     intro D v W hc hj hf K' hK'
     go_step
     exact hK'.out
    · rfl
    apply Reg.RP rfl rfl (by rw [hops]; rfl) 20 rfl rfl
    ·
     intro D v W hc hj hf K' hK'
     obtain ⟨m, rfl⟩ := hj
     have c0 : World.cell? _ ⟨G, 3, none⟩ = _ := (oG.drewN m).c 3 rfl
     go_step
     exact hK'.out
    · rfl
    apply Reg.RP rfl rfl (by rw [hops]; rfl) 21 rfl rfl
    ·
     intro D v W hc hj hf K' hK'
     obtain ⟨m, rfl⟩ := hj
     have c0 : World.cell? _ ⟨Bs, 0, none⟩ = _ := (oN.drewN m).c 0 rfl
     go_step
     exact hK'.out
    · rfl
    apply Reg.RP rfl rfl (by rw [hops]; rfl) 22 rfl rfl
    ·
     intro D v W hc hj hf K' hK'
     go_step
     try rw [n4e]
     exact hK'.out
    · rfl
    apply Reg.RP rfl rfl (by rw [hops]; rfl) 23 rfl rfl
    ·
     intro D v W hc hj hf K' hK'
     go_step
     exact hK'.out
    · rfl
    apply Reg.RP rfl rfl (by rw [hops]; rfl) 24 rfl rfl
    ·
     intro D v W hc hj hf K' hK'
     go_step
     try rw [q3e]
     exact hK'.out
    · rfl
    apply Reg.RP rfl rfl (by rw [hops]; rfl) 25 rfl rfl
    ·
     intro D v W hc hj hf K' hK'
     go_step
     try rw [t3]
     exact hK'.out
    · rfl
    apply Reg.RP rfl rfl rfl 26 rfl rfl
    ·
     intro D v W hc hj hf K' hK'
     go_step
     exact hK'.out
    · rfl
    refine Reg.RC_end (fun D v w9 hd hj hf => ?_)
    obtain ⟨m, rfl⟩ := hj
    clear hd hf
    refine hQ _ _ ?_
    clear hQ hops Q' ops'
    have oG := oG.drewN m
    have oN := oN.drewN m
    have hJ := hC.dr m hJ
    generalize hw_ : w0.drewN m = w1 at *
    clear hw_
    have c0 : World.cell? w1 ⟨G, 0, none⟩ = _ := oG.c 0 rfl
    have c1 : World.cell? w1 ⟨G, 1, none⟩ = _ := oG.c 1 rfl
    have c2 : World.cell? w1 ⟨G, 2, none⟩ = _ := oG.c 2 rfl
    have c3 : World.cell? w1 ⟨G, 3, none⟩ = _ := oG.c 3 rfl
    have fG := oG.fr
    have lG := oG.lt
    gi_wp2_with fail
    refine wpIn_loop_rounds 5 ?_
    rw [roundsIn_succ]
    gi_wp2
    go_roundw
    case rel =>
     refine ⟨i + 1, by omega, (hC.st _ _ hJ), ?_, ownK⟩
     rw [HX2.out]
     unfold nxt4
     dsimp only
     rw [if_pos g3]
     dsimp only
     rw [show ((a : Nat) : Int) = A by omega]
     rw [show ((b : Nat) : Int) = B by omega]
     rw [show ((c : Nat) : Int) = C by omega]
     rw [show ((d + 1 : Nat) : Int) = P0 by omega]
     exact ownD
    case measure =>
     have R1 : rk (w1.setCell ⟨G, 3, none⟩ (.int .i64 P0)) G = _ := rk_of (t := 25) (a := A) (b := B) (c := C) (d := P0) ownD
     have R2 := R0.out
     omega
   by_cases g2 : c + 2 < n
   ·
    have t3 : (D == n4 + 3) = true := by simpa using (show D = n4 + 3 by omega)
    have t2 : (C == n4 + 2) = false := by simpa using (show C ≠ n4 + 2 by omega)
    obtain ⟨P0, hP0⟩ : ∃ x, C + 1 = x := ⟨_, rfl⟩
    have s0 : wrap64 (C + 1) = P0 := by rw [hP0]; unfold wrap64; omega
    obtain ⟨P1, hP1⟩ : ∃ x, P0 + 1 = x := ⟨_, rfl⟩
    have s1 : wrap64 (P0 + 1) = P1 := by rw [hP1]; unfold wrap64; omega
    gi_wp2_with fail
    refine wpIn_loop_rounds 5 ?_
    rw [roundsIn_succ]
    gi_upto_region 4 with fail
    refine wpIn_wide.2 ?_
    refine Reg.wp_chain (fun D v W => ∃ m, W = w0.drewN m) (Reg.inl []) (Reg.gv []) Reg.None_ (fun _ => Reg.Any) (fun _ _ => False) (Reg.pl []) (Reg.pl [])
     (by kernel_rfl) (by kernel_rfl) (by kernel_rfl) (Reg.gv_some _ (by intro p hp; cases hp)) (fun _ => ⟨1, rfl⟩) (fun _ _ _ _ _ h => h) (fun _ _ _ _ _ _ _ _ _ _ _ _ _ => Reg.none_) (fun _ _ _ _ h => h.elim) (fun ops' Q' hops hQ => ?_)
    apply Reg.RP rfl rfl rfl 15 rfl rfl
    ·
     intro D v W hc hj hf K' hK'
     go_step
     exact hK'.out
    · rfl
    apply Reg.RP rfl rfl rfl 16 rfl rfl
    ·
     intro D v W hc hj hf K' hK'
     go_step
     exact hK'.out
    · rfl
    apply Reg.RP rfl rfl rfl 17 rfl rfl
    ·
     intro D v W hc hj hf K' hK'
     go_step
     exact hK'.out
    · rfl
    apply Reg.RP rfl rfl (by rw [hops]; rfl) 18 rfl rfl
    ·
     intro D v W hc hj hf K' hK'
     go_step
     exact hK'.out
    · rfl
    apply Reg.RP rfl rfl (by rw [hops]; rfl) 19 rfl rfl
    ·
     intro D v W hc hj hf K' hK'
     go_step
     exact hK'.out
    · rfl
    apply Reg.RP rfl rfl (by rw [hops]; rfl) 20 rfl rfl
    ·
     intro D v W hc hj hf K' hK'
     obtain ⟨m, rfl⟩ := hj
     have c0 : World.cell? _ ⟨G, 3, none⟩ = _ := (oG.drewN m).c 3 rfl
     go_step
     exact hK'.out
    · rfl
    apply Reg.RP rfl rfl (by rw [hops]; rfl) 21 rfl rfl
    ·
     intro D v W hc hj hf K' hK'
     obtain ⟨m, rfl⟩ := hj
     have c0 : World.cell? _ ⟨Bs, 0, none⟩ = _ := (oN.drewN m).c 0 rfl
     go_step
     exact hK'.out
    · rfl
    apply Reg.RP rfl rfl (by rw [hops]; rfl) 22 rfl rfl
    ·
     intro D v W hc hj hf K' hK'
     go_step
     try rw [n4e]
     exact hK'.out
    · rfl
    apply Reg.RP rfl rfl (by rw [hops]; rfl) 23 rfl rfl
    ·
     intro D v W hc hj hf K' hK'
     go_step
     exact hK'.out
    · rfl
    apply Reg.RP rfl rfl (by rw [hops]; rfl) 24 rfl rfl
    ·
     intro D v W hc hj hf K' hK'
     go_step
     try rw [q3e]
     exact hK'.out
    · rfl
    apply Reg.RP rfl rfl (by rw [hops]; rfl) 25 rfl rfl
    ·
     intro D v W hc hj hf K' hK'
     go_step
     try rw [t3]
     exact hK'.out
    · rfl
    apply Reg.RP rfl rfl rfl 26 rfl rfl
    ·
     intro D v W hc hj hf K' hK'
     go_step
     exact hK'.out
    · rfl
    refine Reg.RC_end (fun D v w9 hd hj hf => ?_)
    obtain ⟨m, rfl⟩ := hj
    clear hd hf
    refine hQ _ _ ?_
    clear hQ hops Q' ops'
    have oG := oG.drewN m
    have oN := oN.drewN m
    have hJ := hC.dr m hJ
    generalize hw_ : w0.drewN m = w1 at *
    clear hw_
    gi_wp2_with fail
    rw [roundsIn_succ]
    gi_upto_region 4 with fail
    refine wpIn_wide.2 ?_
    refine Reg.wp_chain (fun D v W => ∃ m, W = w1.drewN m) (Reg.inl []) (Reg.gv []) Reg.None_ (fun _ => Reg.Any) (fun _ _ => False) (Reg.pl []) (Reg.pl [])
     (by kernel_rfl) (by kernel_rfl) (by kernel_rfl) (Reg.gv_some _ (by intro p hp; cases hp)) (fun _ => ⟨1, rfl⟩) (fun _ _ _ _ _ h => h) (fun _ _ _ _ _ _ _ _ _ _ _ _ _ => Reg.none_) (fun _ _ _ _ h => h.elim) (fun ops' Q' hops hQ => ?_)
    apply Reg.RP rfl rfl rfl 15 rfl rfl
    ·
     intro D v W hc hj hf K' hK'
     go_step
     exact hK'.out
    · rfl
    apply Reg.RP rfl rfl rfl 16 rfl rfl
    ·
     intro D v W hc hj hf K' hK'
     go_step
     exact hK'.out
    · rfl
    apply Reg.RP rfl rfl rfl 17 rfl rfl
    ·
     intro D v W hc hj hf K' hK'
     go_step
     exact hK'.out
    · rfl
    apply Reg.RP rfl rfl (by rw [hops]; rfl) 18 rfl rfl
    ·
     intro D v W hc hj hf K' hK'
     go_step
     exact hK'.out
    · rfl
    apply Reg.RP rfl rfl (by rw [hops]; rfl) 19 rfl rfl
    ·
     intro D v W hc hj hf K' hK'
     go_step
     exact hK'.out
    · rfl
    apply Reg.RP rfl rfl (by rw [hops]; rfl) 20 rfl rfl
    ·
     intro D v W hc hj hf K' hK'
     obtain ⟨m, rfl⟩ := hj
     have c0 : World.cell? _ ⟨G, 2, none⟩ = _ := (oG.drewN m).c 2 rfl
     go_step
     exact hK'.out
    · rfl
    apply Reg.RP rfl rfl (by rw [hops]; rfl) 21 rfl rfl
    ·
     intro D v W hc hj hf K' hK'
     obtain ⟨m, rfl⟩ := hj
     have c0 : World.cell? _ ⟨Bs, 0, none⟩ = _ := (oN.drewN m).c 0 rfl
     go_step
     exact hK'.out
    · rfl
    apply Reg.RP rfl rfl (by rw [hops]; rfl) 22 rfl rfl
    ·
     intro D v W hc hj hf K' hK'
     go_step
     try rw [n4e]
     exact hK'.out
    · rfl
    apply Reg.RP rfl rfl (by rw [hops]; rfl) 23 rfl rfl
    ·
     intro D v W hc hj hf K' hK'
     go_step
     exact hK'.out
    · rfl
    apply Reg.RP rfl rfl (by rw [hops]; rfl) 24 rfl rfl
    ·
     intro D v W hc hj hf K' hK'
     go_step
     try rw [q2e]
     exact hK'.out
    · rfl
    apply Reg.RP rfl rfl (by rw [hops]; rfl) 25 rfl rfl
    ·
     intro D v W hc hj hf K' hK'
     go_step
     try rw [t2]
     exact hK'.out
    · rfl
    apply Reg.RP rfl rfl rfl 26 rfl rfl
    ·
     intro D v W hc hj hf K' hK'
     go_step
     exact hK'.out
    · rfl
    refine Reg.RC_end (fun D v w9 hd hj hf => ?_)
    obtain ⟨m, rfl⟩ := hj
    clear hd hf
    refine hQ _ _ ?_
    clear hQ hops Q' ops'
    have oG := oG.drewN m
    have oN := oN.drewN m
    have hJ := hC.dr m hJ
    generalize hw_ : w1.drewN m = w2 at *
    clear hw_
    have c0 : World.cell? w2 ⟨G, 0, none⟩ = _ := oG.c 0 rfl
    have c1 : World.cell? w2 ⟨G, 1, none⟩ = _ := oG.c 1 rfl
    have c2 : World.cell? w2 ⟨G, 2, none⟩ = _ := oG.c 2 rfl
    have c3 : World.cell? w2 ⟨G, 3, none⟩ = _ := oG.c 3 rfl
    have fG := oG.fr
    have lG := oG.lt
    gi_wp2_with fail
    refine wpIn_loop_rounds 5 ?_
    rw [roundsIn_succ]
    gi_wp2_with fail
    rw [roundsIn_succ]
    gi_wp2
    go_roundw
    case rel =>
     refine ⟨i + 1, by omega, (hC.st _ _ (hC.st _ _ hJ)), ?_, ownK⟩
     rw [HX2.out]
     unfold nxt4
     dsimp only
     rw [if_neg g3, if_pos g2]
     dsimp only
     rw [show ((a : Nat) : Int) = A by omega]
     rw [show ((b : Nat) : Int) = B by omega]
     rw [show ((c + 1 : Nat) : Int) = P0 by omega]
     rw [show ((c + 2 : Nat) : Int) = P1 by omega]
     exact ownD
    case measure =>
     have R1 : rk ((w2.setCell ⟨G, 2, none⟩ (.int .i64 P0)).setCell ⟨G, 3, none⟩ (.int .i64 P1)) G = _ := rk_of (t := 25) (a := A) (b := B) (c := P0) (d := P1) ownD
     have R2 := R0.out
     omega
   by_cases g1 : b + 3 < n
   ·
    have t3 : (D == n4 + 3) = true := by simpa using (show D = n4 + 3 by omega)
    have t2 : (C == n4 + 2) = true := by simpa using (show C = n4 + 2 by omega)
    have t1 : (B == n4 + 1) = false := by simpa using (show B ≠ n4 + 1 by omega)
    obtain ⟨P0, hP0⟩ : ∃ x, B + 1 = x := ⟨_, rfl⟩
    have s0 : wrap64 (B + 1) = P0 := by rw [hP0]; unfold wrap64; omega
    obtain ⟨P1, hP1⟩ : ∃ x, P0 + 1 = x := ⟨_, rfl⟩
    have s1 : wrap64 (P0 + 1) = P1 := by rw [hP1]; unfold wrap64; omega
    obtain ⟨P2, hP2⟩ : ∃ x, P1 + 1 = x := ⟨_, rfl⟩
    have s2 : wrap64 (P1 + 1) = P2 := by rw [hP2]; unfold wrap64; omega
    gi_wp2_with fail
    refine wpIn_loop_rounds 5 ?_
    rw [roundsIn_succ]
    gi_upto_region 4 with fail
    refine wpIn_wide.2 ?_
    refine Reg.wp_chain (fun D v W => ∃ m, W = w0.drewN m) (Reg.inl []) (Reg.gv []) Reg.None_ (fun _ => Reg.Any) (fun _ _ => False) (Reg.pl []) (Reg.pl [])
     (by kernel_rfl) (by kernel_rfl) (by kernel_rfl) (Reg.gv_some _ (by intro p hp; cases hp)) (fun _ => ⟨1, rfl⟩) (fun _ _ _ _ _ h => h) (fun _ _ _ _ _ _ _ _ _ _ _ _ _ => Reg.none_) (fun _ _ _ _ h => h.elim) (fun ops' Q' hops hQ => ?_)
    apply Reg.RP rfl rfl rfl 15 rfl rfl
    ·
     intro D v W hc hj hf K' hK'
     go_step
     exact hK'.out
    · rfl
    apply Reg.RP rfl rfl rfl 16 rfl rfl
    ·
     intro D v W hc hj hf K' hK'
     go_step
     exact hK'.out
    · rfl
    apply Reg.RP rfl rfl rfl 17 rfl rfl
    ·
     intro D v W hc hj hf K' hK'
     go_step
     exact hK'.out
    · rfl
    apply Reg.RP rfl rfl (by rw [hops]; rfl) 18 rfl rfl
    ·
     intro D v W hc hj hf K' hK'
     go_step
     exact hK'.out
    · rfl
    apply Reg.RP rfl rfl (by rw [hops]; rfl) 19 rfl rfl
    ·
     intro D v W hc hj hf K' hK'
     go_step
     exact hK'.out
    · rfl
    apply Reg.RP rfl rfl (by rw [hops]; rfl) 20 rfl rfl
    ·
     intro D v W hc hj hf K' hK'
     obtain ⟨m, rfl⟩ := hj
     have c0 : World.cell? _ ⟨G, 3, none⟩ = _ := (oG.drewN m).c 3 rfl
     go_step
     exact hK'.out
    · rfl
    apply Reg.RP rfl rfl (by rw [hops]; rfl) 21 rfl rfl
    ·
     intro D v W hc hj hf K' hK'
     obtain ⟨m, rfl⟩ := hj
     have c0 : World.cell? _ ⟨Bs, 0, none⟩ = _ := (oN.drewN m).c 0 rfl
     go_step
     exact hK'.out
    · rfl
    apply Reg.RP rfl rfl (by rw [hops]; rfl) 22 rfl rfl
    ·
     intro D v W hc hj hf K' hK'
     go_step
     try rw [n4e]
     exact hK'.out
    · rfl
    apply Reg.RP rfl rfl (by rw [hops]; rfl) 23 rfl rfl
    ·
     intro D v W hc hj hf K' hK'
     go_step
     exact hK'.out
    · rfl
    apply Reg.RP rfl rfl (by rw [hops]; rfl) 24 rfl rfl
    ·
     intro D v W hc hj hf K' hK'
     go_step
     try rw [q3e]
     exact hK'.out
    · rfl
    apply Reg.RP rfl rfl (by rw [hops]; rfl) 25 rfl rfl
    ·
     intro D v W hc hj hf K' hK'
     go_step
     try rw [t3]
     exact hK'.out
    · rfl
    apply Reg.RP rfl rfl rfl 26 rfl rfl
    ·
     intro D v W hc hj hf K' hK'
     go_step
     exact hK'.out
    · rfl
    refine Reg.RC_end (fun D v w9 hd hj hf => ?_)
    obtain ⟨m, rfl⟩ := hj
    clear hd hf
    refine hQ _ _ ?_
    clear hQ hops Q' ops'
    have oG := oG.drewN m
    have oN := oN.drewN m
    have hJ := hC.dr m hJ
    generalize hw_ : w0.drewN m = w1 at *
    clear hw_
    gi_wp2_with fail
    rw [roundsIn_succ]
    gi_upto_region 4 with fail
    refine wpIn_wide.2 ?_
    refine Reg.wp_chain (fun D v W => ∃ m, W = w1.drewN m) (Reg.inl []) (Reg.gv []) Reg.None_ (fun _ => Reg.Any) (fun _ _ => False) (Reg.pl []) (Reg.pl [])
     (by kernel_rfl) (by kernel_rfl) (by kernel_rfl) (Reg.gv_some _ (by intro p hp; cases hp)) (fun _ => ⟨1, rfl⟩) (fun _ _ _ _ _ h => h) (fun _ _ _ _ _ _ _ _ _ _ _ _ _ => Reg.none_) (fun _ _ _ _ h => h.elim) (fun ops' Q' hops hQ => ?_)
    apply Reg.RP rfl rfl rfl 15 rfl rfl
    ·
     intro D v W hc hj hf K' hK'
     go_step
     exact hK'.out
    · rfl
    apply Reg.RP rfl rfl rfl 16 rfl rfl
    ·
     intro D v W hc hj hf K' hK'
     go_step
     exact hK'.out
    · rfl
    apply Reg.RP rfl rfl rfl 17 rfl rfl
    ·
     intro D v W hc hj hf K' hK'
     go_step
     exact hK'.out
    · rfl
    apply Reg.RP rfl rfl (by rw [hops]; rfl) 18 rfl rfl
    ·
     intro D v W hc hj hf K' hK'
     go_step
     exact hK'.out
    · rfl
    apply Reg.RP rfl rfl (by rw [hops]; rfl) 19 rfl rfl
    ·
     intro D v W hc hj hf K' hK'
     go_step
     exact hK'.out
    · rfl
    apply Reg.RP rfl rfl (by rw [hops]; rfl) 20 rfl rfl
    ·
     intro D v W hc hj hf K' hK'
     obtain ⟨m, rfl⟩ := hj
     have c0 : World.cell? _ ⟨G, 2, none⟩ = _ := (oG.drewN m).c 2 rfl
     go_step
     exact hK'.out
    · rfl
    apply Reg.RP rfl rfl (by rw [hops]; rfl) 21 rfl rfl
    ·
     intro D v W hc hj hf K' hK'
     obtain ⟨m, rfl⟩ := hj
     have c0 : World.cell? _ ⟨Bs, 0, none⟩ = _ := (oN.drewN m).c 0 rfl
     go_step
     exact hK'.out
    · rfl
    apply Reg.RP rfl rfl (by rw [hops]; rfl) 22 rfl rfl
    ·
     intro D v W hc hj hf K' hK'
     go_step
     try rw [n4e]
     exact hK'.out
    · rfl
    apply Reg.RP rfl rfl (by rw [hops]; rfl) 23 rfl rfl
    ·
     intro D v W hc hj hf K' hK'
     go_step
     exact hK'.out
    · rfl
    apply Reg.RP rfl rfl (by rw [hops]; rfl) 24 rfl rfl
    ·
     intro D v W hc hj hf K' hK'
     go_step
     try rw [q2e]
     exact hK'.out
    · rfl
    apply Reg.RP rfl rfl (by rw [hops]; rfl) 25 rfl rfl
    ·
     intro D v W hc hj hf K' hK'
     go_step
     try rw [t2]
     exact hK'.out
    · rfl
    apply Reg.RP rfl rfl rfl 26 rfl rfl
    ·
     intro D v W hc hj hf K' hK'
     go_step
     exact hK'.out
    · rfl
    refine Reg.RC_end (fun D v w9 hd hj hf => ?_)
    obtain ⟨m, rfl⟩ := hj
    clear hd hf
    refine hQ _ _ ?_
    clear hQ hops Q' ops'
    have oG := oG.drewN m
    have oN := oN.drewN m
    have hJ := hC.dr m hJ
    generalize hw_ : w1.drewN m = w2 at *
    clear hw_
    gi_wp2_with fail
    rw [roundsIn_succ]
    gi_upto_region 4 with fail
    refine wpIn_wide.2 ?_
    refine Reg.wp_chain (fun D v W => ∃ m, W = w2.drewN m) (Reg.inl []) (Reg.gv []) Reg.None_ (fun _ => Reg.Any) (fun _ _ => False) (Reg.pl []) (Reg.pl [])
     (by kernel_rfl) (by kernel_rfl) (by kernel_rfl) (Reg.gv_some _ (by intro p hp; cases hp)) (fun _ => ⟨1, rfl⟩) (fun _ _ _ _ _ h => h) (fun _ _ _ _ _ _ _ _ _ _ _ _ _ => Reg.none_) (fun _ _ _ _ h => h.elim) (fun ops' Q' hops hQ => ?_)
    apply Reg.RP rfl rfl rfl 15 rfl rfl
    ·
     intro D v W hc hj hf K' hK'
     go_step
     exact hK'.out
    · rfl
    apply Reg.RP rfl rfl rfl 16 rfl rfl
    ·
     intro D v W hc hj hf K' hK'
     go_step
     exact hK'.out
    · rfl
    apply Reg.RP rfl rfl rfl 17 rfl rfl
    ·
     intro D v W hc hj hf K' hK'
     go_step
     exact hK'.out
    · rfl
    apply Reg.RP rfl rfl (by rw [hops]; rfl) 18 rfl rfl
    ·
     intro D v W hc hj hf K' hK'
     go_step
     exact hK'.out
    · rfl
    apply Reg.RP rfl rfl (by rw [hops]; rfl) 19 rfl rfl
    ·
     intro D v W hc hj hf K' hK'
     go_step
     exact hK'.out
    · rfl
    apply Reg.RP rfl rfl (by rw [hops]; rfl) 20 rfl rfl
    ·
     intro D v W hc hj hf K' hK'
     obtain ⟨m, rfl⟩ := hj
     have c0 : World.cell? _ ⟨G, 1, none⟩ = _ := (oG.drewN m).c 1 rfl
     go_step
     exact hK'.out
    · rfl
    apply Reg.RP rfl rfl (by rw [hops]; rfl) 21 rfl rfl
    ·
     intro D v W hc hj hf K' hK'
     obtain ⟨m, rfl⟩ := hj
     have c0 : World.cell? _ ⟨Bs, 0, none⟩ = _ := (oN.drewN m).c 0 rfl
     go_step
     exact hK'.out
    · rfl
    apply Reg.RP rfl rfl (by rw [hops]; rfl) 22 rfl rfl
    ·
     intro D v W hc hj hf K' hK'
     go_step
     try rw [n4e]
     exact hK'.out
    · rfl
    apply Reg.RP rfl rfl (by rw [hops]; rfl) 23 rfl rfl
    ·
     intro D v W hc hj hf K' hK'
     go_step
     exact hK'.out
    · rfl
    apply Reg.RP rfl rfl (by rw [hops]; rfl) 24 rfl rfl
    ·
     intro D v W hc hj hf K' hK'
     go_step
     try rw [q1e]
     exact hK'.out
    · rfl
    apply Reg.RP rfl rfl (by rw [hops]; rfl) 25 rfl rfl
    ·
     intro D v W hc hj hf K' hK'
     go_step
     try rw [t1]
     exact hK'.out
    · rfl
    apply Reg.RP rfl rfl rfl 26 rfl rfl
    ·
     intro D v W hc hj hf K' hK'
     go_step
     exact hK'.out
    · rfl
    refine Reg.RC_end (fun D v w9 hd hj hf => ?_)
    obtain ⟨m, rfl⟩ := hj
    clear hd hf
    refine hQ _ _ ?_
    clear hQ hops Q' ops'
    have oG := oG.drewN m
    have oN := oN.drewN m
    have hJ := hC.dr m hJ
    generalize hw_ : w2.drewN m = w3 at *
    clear hw_
    have c0 : World.cell? w3 ⟨G, 0, none⟩ = _ := oG.c 0 rfl
    have c1 : World.cell? w3 ⟨G, 1, none⟩ = _ := oG.c 1 rfl
    have c2 : World.cell? w3 ⟨G, 2, none⟩ = _ := oG.c 2 rfl
    have c3 : World.cell? w3 ⟨G, 3, none⟩ = _ := oG.c 3 rfl
    have fG := oG.fr
    have lG := oG.lt
    gi_wp2_with fail
    refine wpIn_loop_rounds 5 ?_
    rw [roundsIn_succ]
    gi_wp2_with fail
    rw [roundsIn_succ]
    gi_wp2_with fail
    rw [roundsIn_succ]
    gi_wp2
    go_roundw
    case rel =>
     refine ⟨i + 1, by omega, (hC.st _ _ (hC.st _ _ (hC.st _ _ hJ))), ?_, ownK⟩
     rw [HX2.out]
     unfold nxt4
     dsimp only
     rw [if_neg g3, if_neg g2, if_pos g1]
     dsimp only
     rw [show ((a : Nat) : Int) = A by omega]
     rw [show ((b + 1 : Nat) : Int) = P0 by omega]
     rw [show ((b + 2 : Nat) : Int) = P1 by omega]
     rw [show ((b + 3 : Nat) : Int) = P2 by omega]
     exact ownD
    case measure =>
     have R1 : rk (((w3.setCell ⟨G, 1, none⟩ (.int .i64 P0)).setCell ⟨G, 2, none⟩ (.int .i64 P1)).setCell ⟨G, 3, none⟩ (.int .i64 P2)) G = _ := rk_of (t := 25) (a := A) (b := P0) (c := P1) (d := P2) ownD
     have R2 := R0.out
     omega
   have t3 : (D == n4 + 3) = true := by simpa using (show D = n4 + 3 by omega)
   have t2 : (C == n4 + 2) = true := by simpa using (show C = n4 + 2 by omega)
   have t1 : (B == n4 + 1) = true := by simpa using (show B = n4 + 1 by omega)
   obtain ⟨P0, hP0⟩ : ∃ x, A + 1 = x := ⟨_, rfl⟩
   have s0 : wrap64 (A + 1) = P0 := by rw [hP0]; unfold wrap64; omega
   obtain ⟨P1, hP1⟩ : ∃ x, P0 + 1 = x := ⟨_, rfl⟩
   have s1 : wrap64 (P0 + 1) = P1 := by rw [hP1]; unfold wrap64; omega
   obtain ⟨P2, hP2⟩ : ∃ x, P1 + 1 = x := ⟨_, rfl⟩
   have s2 : wrap64 (P1 + 1) = P2 := by rw [hP2]; unfold wrap64; omega
   obtain ⟨P3, hP3⟩ : ∃ x, P2 + 1 = x := ⟨_, rfl⟩
   have s3 : wrap64 (P2 + 1) = P3 := by rw [hP3]; unfold wrap64; omega
   gi_wp2_with fail
   refine wpIn_loop_rounds 5 ?_
   rw [roundsIn_succ]
   gi_upto_region 4 with fail
   refine wpIn_wide.2 ?_
   refine Reg.wp_chain (fun D v W => ∃ m, W = w0.drewN m) (Reg.inl []) (Reg.gv []) Reg.None_ (fun _ => Reg.Any) (fun _ _ => False) (Reg.pl []) (Reg.pl [])
    (by kernel_rfl) (by kernel_rfl) (by kernel_rfl) (Reg.gv_some _ (by intro p hp; cases hp)) (fun _ => ⟨1, rfl⟩) (fun _ _ _ _ _ h => h) (fun _ _ _ _ _ _ _ _ _ _ _ _ _ => Reg.none_) (fun _ _ _ _ h => h.elim) (fun ops' Q' hops hQ => ?_)
   apply Reg.RP rfl rfl rfl 15 rfl rfl
   ·
    intro D v W hc hj hf K' hK'
    go_step
    exact hK'.out
   · rfl
   apply Reg.RP rfl rfl rfl 16 rfl rfl
   ·
    intro D v W hc hj hf K' hK'
    go_step
    exact hK'.out
   · rfl
   apply Reg.RP rfl rfl rfl 17 rfl rfl
   ·
    intro D v W hc hj hf K' hK'
    go_step
    exact hK'.out
   · rfl
   apply Reg.RP rfl rfl (by rw [hops]; rfl) 18 rfl rfl
   ·
    intro D v W hc hj hf K' hK'
    go_step
    exact hK'.out
   · rfl
   apply Reg.RP rfl rfl (by rw [hops]; rfl) 19 rfl rfl
   ·
    intro D v W hc hj hf K' hK'
    go_step
    exact hK'.out
   · rfl
   apply Reg.RP rfl rfl (by rw [hops]; rfl) 20 rfl rfl
   ·
    intro D v W hc hj hf K' hK'
    obtain ⟨m, rfl⟩ := hj
    have c0 : World.cell? _ ⟨G, 3, none⟩ = _ := (oG.drewN m).c 3 rfl
    go_step
    exact hK'.out
   · rfl
   apply Reg.RP rfl rfl (by rw [hops]; rfl) 21 rfl rfl
   ·
    intro D v W hc hj hf K' hK'
    obtain ⟨m, rfl⟩ := hj
    have c0 : World.cell? _ ⟨Bs, 0, none⟩ = _ := (oN.drewN m).c 0 rfl
    go_step
    exact hK'.out
   · rfl
   apply Reg.RP rfl rfl (by rw [hops]; rfl) 22 rfl rfl
   ·
    intro D v W hc hj hf K' hK'
    go_step
    try rw [n4e]
    exact hK'.out
   · rfl
   apply Reg.RP rfl rfl (by rw [hops]; rfl) 23 rfl rfl
   ·
    intro D v W hc hj hf K' hK'
    go_step
    exact hK'.out
   · rfl
   apply Reg.RP rfl rfl (by rw [hops]; rfl) 24 rfl rfl
   ·
    intro D v W hc hj hf K' hK'
    go_step
    try rw [q3e]
    exact hK'.out
   · rfl
   apply Reg.RP rfl rfl (by rw [hops]; rfl) 25 rfl rfl
   ·
    intro D v W hc hj hf K' hK'
    go_step
    try rw [t3]
    exact hK'.out
   · rfl
   apply Reg.RP rfl rfl rfl 26 rfl rfl
   ·
    intro D v W hc hj hf K' hK'
    go_step
    exact hK'.out
   · rfl
   refine Reg.RC_end (fun D v w9 hd hj hf => ?_)
   obtain ⟨m, rfl⟩ := hj
   clear hd hf
   refine hQ _ _ ?_
   clear hQ hops Q' ops'
   have oG := oG.drewN m
   have oN := oN.drewN m
   have hJ := hC.dr m hJ
   generalize hw_ : w0.drewN m = w1 at *
   clear hw_
   gi_wp2_with fail
   rw [roundsIn_succ]
   gi_upto_region 4 with fail
   refine wpIn_wide.2 ?_
   refine Reg.wp_chain (fun D v W => ∃ m, W = w1.drewN m) (Reg.inl []) (Reg.gv []) Reg.None_ (fun _ => Reg.Any) (fun _ _ => False) (Reg.pl []) (Reg.pl [])
    (by kernel_rfl) (by kernel_rfl) (by kernel_rfl) (Reg.gv_some _ (by intro p hp; cases hp)) (fun _ => ⟨1, rfl⟩) (fun _ _ _ _ _ h => h) (fun _ _ _ _ _ _ _ _ _ _ _ _ _ => Reg.none_) (fun _ _ _ _ h => h.elim) (fun ops' Q' hops hQ => ?_)
   apply Reg.RP rfl rfl rfl 15 rfl rfl
   ·
    intro D v W hc hj hf K' hK'
    go_step
    exact hK'.out
   · rfl
   apply Reg.RP rfl rfl rfl 16 rfl rfl
   ·
    intro D v W hc hj hf K' hK'
    go_step
    exact hK'.out
   · rfl
   apply Reg.RP rfl rfl rfl 17 rfl rfl
   ·
    intro D v W hc hj hf K' hK'
    go_step
    exact hK'.out
   · rfl
   apply Reg.RP rfl rfl (by rw [hops]; rfl) 18 rfl rfl
   ·
    intro D v W hc hj hf K' hK'
    go_step
    exact hK'.out
   · rfl
   apply Reg.RP rfl rfl (by rw [hops]; rfl) 19 rfl rfl
   ·
    intro D v W hc hj hf K' hK'
    go_step
    exact hK'.out
   · rfl
   apply Reg.RP rfl rfl (by rw [hops]; rfl) 20 rfl rfl
   ·
    intro D v W hc hj hf K' hK'
    obtain ⟨m, rfl⟩ := hj
    have c0 : World.cell? _ ⟨G, 2, none⟩ = _ := (oG.drewN m).c 2 rfl
    go_step
    exact hK'.out
   · rfl
   apply Reg.RP rfl rfl (by rw [hops]; rfl) 21 rfl rfl
   ·
    intro D v W hc hj hf K' hK'
    obtain ⟨m, rfl⟩ := hj
    have c0 : World.cell? _ ⟨Bs, 0, none⟩ = _ := (oN.drewN m).c 0 rfl
    go_step
    exact hK'.out
   · rfl
   apply Reg.RP rfl rfl (by rw [hops]; rfl) 22 rfl rfl
   ·
    intro D v W hc hj hf K' hK'
    go_step
    try rw [n4e]
    exact hK'.out
   · rfl
   apply Reg.RP rfl rfl (by rw [hops]; rfl) 23 rfl rfl
   ·
    intro D v W hc hj hf K' hK'
    go_step
    exact hK'.out
   · rfl
   apply Reg.RP rfl rfl (by rw [hops]; rfl) 24 rfl rfl
   ·
    intro D v W hc hj hf K' hK'
    go_step
    try rw [q2e]
    exact hK'.out
   · rfl
   apply Reg.RP rfl rfl (by rw [hops]; rfl) 25 rfl rfl
   ·
    intro D v W hc hj hf K' hK'
    go_step
    try rw [t2]
    exact hK'.out
   · rfl
   apply Reg.RP rfl rfl rfl 26 rfl rfl
   ·
    intro D v W hc hj hf K' hK'
    go_step
    exact hK'.out
   · rfl
   refine Reg.RC_end (fun D v w9 hd hj hf => ?_)
   obtain ⟨m, rfl⟩ := hj
   clear hd hf
   refine hQ _ _ ?_
   clear hQ hops Q' ops'
   have oG := oG.drewN m
   have oN := oN.drewN m
   have hJ := hC.dr m hJ
   generalize hw_ : w1.drewN m = w2 at *
   clear hw_
   gi_wp2_with fail
   rw [roundsIn_succ]
   gi_upto_region 4 with fail
   refine wpIn_wide.2 ?_
   refine Reg.wp_chain (fun D v W => ∃ m, W = w2.drewN m) (Reg.inl []) (Reg.gv []) Reg.None_ (fun _ => Reg.Any) (fun _ _ => False) (Reg.pl []) (Reg.pl [])
    (by kernel_rfl) (by kernel_rfl) (by kernel_rfl) (Reg.gv_some _ (by intro p hp; cases hp)) (fun _ => ⟨1, rfl⟩) (fun _ _ _ _ _ h => h) (fun _ _ _ _ _ _ _ _ _ _ _ _ _ => Reg.none_) (fun _ _ _ _ h => h.elim) (fun ops' Q' hops hQ => ?_)
   apply Reg.RP rfl rfl rfl 15 rfl rfl
   ·
    intro D v W hc hj hf K' hK'
    go_step
    exact hK'.out
   · rfl
   apply Reg.RP rfl rfl rfl 16 rfl rfl
   ·
    intro D v W hc hj hf K' hK'
    go_step
    exact hK'.out
   · rfl
   apply Reg.RP rfl rfl rfl 17 rfl rfl
   ·
    intro D v W hc hj hf K' hK'
    go_step
    exact hK'.out
   · rfl
   apply Reg.RP rfl rfl (by rw [hops]; rfl) 18 rfl rfl
   ·
    intro D v W hc hj hf K' hK'
    go_step
    exact hK'.out
   · rfl
   apply Reg.RP rfl rfl (by rw [hops]; rfl) 19 rfl rfl
   ·
    intro D v W hc hj hf K' hK'
    go_step
    exact hK'.out
   · rfl
   apply Reg.RP rfl rfl (by rw [hops]; rfl) 20 rfl rfl
   ·
    intro D v W hc hj hf K' hK'
    obtain ⟨m, rfl⟩ := hj
    have c0 : World.cell? _ ⟨G, 1, none⟩ = _ := (oG.drewN m).c 1 rfl
    go_step
    exact hK'.out
   · rfl
   apply Reg.RP rfl rfl (by rw [hops]; rfl) 21 rfl rfl
   ·
    intro D v W hc hj hf K' hK'
    obtain ⟨m, rfl⟩ := hj
    have c0 : World.cell? _ ⟨Bs, 0, none⟩ = _ := (oN.drewN m).c 0 rfl
    go_step
    exact hK'.out
   · rfl
   apply Reg.RP rfl rfl (by rw [hops]; rfl) 22 rfl rfl
   ·
    intro D v W hc hj hf K' hK'
    go_step
    try rw [n4e]
    exact hK'.out
   · rfl
   apply Reg.RP rfl rfl (by rw [hops]; rfl) 23 rfl rfl
   ·
    intro D v W hc hj hf K' hK'
    go_step
    exact hK'.out
   · rfl
   apply Reg.RP rfl rfl (by rw [hops]; rfl) 24 rfl rfl
   ·
    intro D v W hc hj hf K' hK'
    go_step
    try rw [q1e]
    exact hK'.out
   · rfl
   apply Reg.RP rfl rfl (by rw [hops]; rfl) 25 rfl rfl
   ·
    intro D v W hc hj hf K' hK'
    go_step
    try rw [t1]
    exact hK'.out
   · rfl
   apply Reg.RP rfl rfl rfl 26 rfl rfl
   ·
    intro D v W hc hj hf K' hK'
    go_step
    exact hK'.out
   · rfl
   refine Reg.RC_end (fun D v w9 hd hj hf => ?_)
   obtain ⟨m, rfl⟩ := hj
   clear hd hf
   refine hQ _ _ ?_
   clear hQ hops Q' ops'
   have oG := oG.drewN m
   have oN := oN.drewN m
   have hJ := hC.dr m hJ
   generalize hw_ : w2.drewN m = w3 at *
   clear hw_
   gi_wp2_with fail
   rw [roundsIn_succ]
   gi_upto_region 4 with fail
   refine wpIn_wide.2 ?_
   refine Reg.wp_chain (fun D v W => ∃ m, W = w3.drewN m) (Reg.inl []) (Reg.gv []) Reg.None_ (fun _ => Reg.Any) (fun _ _ => False) (Reg.pl []) (Reg.pl [])
    (by kernel_rfl) (by kernel_rfl) (by kernel_rfl) (Reg.gv_some _ (by intro p hp; cases hp)) (fun _ => ⟨1, rfl⟩) (fun _ _ _ _ _ h => h) (fun _ _ _ _ _ _ _ _ _ _ _ _ _ => Reg.none_) (fun _ _ _ _ h => h.elim) (fun ops' Q' hops hQ => ?_)
   apply Reg.RP rfl rfl rfl 15 rfl rfl
   ·
    intro D v W hc hj hf K' hK'
    go_step
    exact hK'.out
   · rfl
   apply Reg.RP rfl rfl rfl 16 rfl rfl
   ·
    intro D v W hc hj hf K' hK'
    go_step
    exact hK'.out
   · rfl
   apply Reg.RP rfl rfl rfl 17 rfl rfl
   ·
    intro D v W hc hj hf K' hK'
    go_step
    exact hK'.out
   · rfl
   refine Reg.RC_skip rfl (by rw [hops]; rfl) (Reg.RC_at (b := ⟨#[_,_,_,_,_,_,_,_,_,_,_,_,_,_,_,_,_,_,_,_,_,_,_,_,_,_,_,_,_,_,_,_,_,_,_,_,_,_,_,_,_,_,_,_,_,_,_], _⟩) rfl ?_)
   refine Reg.RC_skip rfl (by rw [hops]; rfl) (Reg.RC_at (b := ⟨#[_,_,_,_,_,_,_,_,_,_,_,_,_,_,_,_,_,_,_,_,_,_,_,_,_,_,_,_,_,_,_,_,_,_,_,_,_,_,_,_,_,_,_,_,_,_,_], _⟩) rfl ?_)
   refine Reg.RC_skip rfl (by rw [hops]; rfl) (Reg.RC_at (b := ⟨#[_,_,_,_,_,_,_,_,_,_,_,_,_,_,_,_,_,_,_,_,_,_,_,_,_,_,_,_,_,_,_,_,_,_,_,_,_,_,_,_,_,_,_,_,_,_,_], _⟩) rfl ?_)
   refine Reg.RC_skip rfl (by rw [hops]; rfl) (Reg.RC_at (b := ⟨#[_,_,_,_,_,_,_,_,_,_,_,_,_,_,_,_,_,_,_,_,_,_,_,_,_,_,_,_,_,_,_,_,_,_,_,_,_,_,_,_,_,_,_,_,_,_,_], _⟩) rfl ?_)
   refine Reg.RC_skip rfl (by rw [hops]; rfl) (Reg.RC_at (b := ⟨#[_,_,_,_,_,_,_,_,_,_,_,_,_,_,_,_,_,_,_,_,_,_,_,_,_,_,_,_,_,_,_,_,_,_,_,_,_,_,_,_,_,_,_,_,_,_,_], _⟩) rfl ?_)
   refine Reg.RC_skip rfl (by rw [hops]; rfl) (Reg.RC_at (b := ⟨#[_,_,_,_,_,_,_,_,_,_,_,_,_,_,_,_,_,_,_,_,_,_,_,_,_,_,_,_,_,_,_,_,_,_,_,_,_,_,_,_,_,_,_,_,_,_,_], _⟩) rfl ?_)
   refine Reg.RC_skip rfl (by rw [hops]; rfl) (Reg.RC_at (b := ⟨#[_,_,_,_,_,_,_,_,_,_,_,_,_,_,_,_,_,_,_,_,_,_,_,_,_,_,_,_,_,_,_,_,_,_,_,_,_,_,_,_,_,_,_,_,_,_,_], _⟩) rfl ?_)
   refine Reg.RC_skip rfl (by rw [hops]; rfl) (Reg.RC_at (b := ⟨#[_,_,_,_,_,_,_,_,_,_,_,_,_,_,_,_,_,_,_,_,_,_,_,_,_,_,_,_,_,_,_,_,_,_,_,_,_,_,_,_,_,_,_,_,_,_,_], _⟩) rfl ?_)
   apply Reg.RP rfl rfl rfl 26 rfl rfl
   ·
    intro D v W hc hj hf K' hK'
    go_step
    exact hK'.out
   · rfl
   refine Reg.RC_end (fun D v w9 hd hj hf => ?_)
   obtain ⟨m, rfl⟩ := hj
   clear hd hf
   refine hQ _ _ ?_
   clear hQ hops Q' ops'
   have oG := oG.drewN m
   have oN := oN.drewN m
   have hJ := hC.dr m hJ
   generalize hw_ : w3.drewN m = w4 at *
   clear hw_
   have c0 : World.cell? w4 ⟨G, 0, none⟩ = _ := oG.c 0 rfl
   have c1 : World.cell? w4 ⟨G, 1, none⟩ = _ := oG.c 1 rfl
   have c2 : World.cell? w4 ⟨G, 2, none⟩ = _ := oG.c 2 rfl
   have c3 : World.cell? w4 ⟨G, 3, none⟩ = _ := oG.c 3 rfl
   have fG := oG.fr
   have lG := oG.lt
   gi_wp2_with fail
   refine wpIn_loop_rounds 5 ?_
   rw [roundsIn_succ]
   gi_wp2_with fail
   rw [roundsIn_succ]
   gi_wp2_with fail
   rw [roundsIn_succ]
   gi_wp2_with fail
   rw [roundsIn_succ]
   gi_wp2
   go_roundw
   case rel =>
    refine ⟨i + 1, by omega, (hC.st _ _ (hC.st _ _ (hC.st _ _ (hC.st _ _ hJ)))), ?_, ownK⟩
    rw [HX2.out]
    unfold nxt4
    dsimp only
    rw [if_neg g3, if_neg g2, if_neg g1]
    dsimp only
    rw [show ((a + 1 : Nat) : Int) = P0 by omega]
    rw [show ((a + 2 : Nat) : Int) = P1 by omega]
    rw [show ((a + 3 : Nat) : Int) = P2 by omega]
    rw [show ((a + 4 : Nat) : Int) = P3 by omega]
    exact ownD
   case measure =>
    have R1 : rk ((((w4.setCell ⟨G, 0, none⟩ (.int .i64 P0)).setCell ⟨G, 1, none⟩ (.int .i64 P1)).setCell ⟨G, 2, none⟩ (.int .i64 P2)).setCell ⟨G, 3, none⟩ (.int .i64 P3)) G = _ := rk_of (t := 25) (a := P0) (b := P1) (c := P2) (d := P3) ownD
    have R2 := R0.out
    omega
  ·
   obtain rfl : i = (fours n).length := by omega
   have ltd : decide (((it4 n (fours n).length).2.2.2 : Int) < N) = false := decide_eq_false (by omega)
   gi_wp2
   go_end0
   exact ⟨⟨_, rfl⟩, _, rfl, by rw [List.take_length] at hJ; exact hJ⟩
end Go.Proofs.YtibdehlmflaodaaGreat
