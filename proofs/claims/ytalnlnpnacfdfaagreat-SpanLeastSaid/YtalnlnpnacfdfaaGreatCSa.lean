import Derived.Test.YtalnlnpnacfdfaaGreatCTx
import Derived.Test.YtalnlnpnacfdfaaGreatCTp
import Derived.Test.YtalnlnpnacfdfaaGreatCTz
namespace Go.Proofs.YtalnlnpnacfdfaaGreat
open Go.RowKit
theorem smade3 (lo hi : Int) (w : World) : Calls Tryz.prog 31 #[.int .i64 lo, .int .i64 hi] w (G3 w (md lo hi)) := by
  by_cases h1 : lo < -2305843009213693952
  · go_enter Tryz.func31, Tryz.ntmps31
    go_wp2
    go_returns
    exact G3_eq (by simp [md, h1]) (by go_grown)
  · by_cases h2 : 2305843009213693952 < hi
    all_goals
      go_enter Tryz.func31, Tryz.ntmps31
      go_wp2
      go_returns
      exact G3_eq (by simp [md, h1, h2]) (by go_grown)
set_option maxHeartbeats 6400000 in
set_option maxRecDepth 1000000 in
theorem sOf {v : Value} {p q : Int} (w : World) (hf : Frc w v p q) : Calls Tryz.prog 24 #[v] w (G3 w (ofI p q)) := by
  have ck := fun (w' : World) (h : Steps w w') => fcheck_ok w' (hf.steps h)
  obtain ⟨sp, sq, rfl, lp, lq, q0, hg, fp, fq⟩ := hf
  have NP : Num w (.agg #[.bool (decide (p < 0)), sp]) p := ⟨sp, rfl, lp⟩
  have NQ : Num w (.agg #[.bool false, sq]) q := ⟨sq, by rw [decide_eq_false (by omega)], by rw [absN_of (by omega)]; exact lq⟩
  have dm : ∀ w', Steps w w' → Calls Tryz.prog 48 #[.agg #[.bool (decide (p < 0)), sp], .agg #[.bool false, sq]] w' fun e w2 => ∃ a b, e = .returned (.tuple #[a, b, .int .i64 0]) ∧ Num w2 a (divF p q) ∧ Num w2 b (modF p q) ∧ Steps w' w2 := fun w' h => wdivmod w' (NP.steps h) (NQ.steps h) fp fq (by omega)
  have F := div_fits (x := p) (y := q) (by omega)
  have fN : fits (divF p q) := fits_le F.1 fp
  have fR : fits (modF p q) := fits_le F.2.1 fq
  have DM := divmod_pos (x := p) q0
  obtain ⟨N, hN⟩ : ∃ N, divF p q = N := ⟨_, rfl⟩
  obtain ⟨R0, hR0⟩ : ∃ R, modF p q = R := ⟨_, rfl⟩
  rw [hN] at dm fN DM
  rw [hR0] at dm fR DM
  have it := fun (w' : World) (v : Value) (h : Num w' v N) => wInt w' h fN
  have O1 : N < -2097152 ∨ 2097152 < N → Hid (ofI p q = (0, 0, 16)) := fun h => ofI_out q0 DM h
  obtain ⟨gp, hgp⟩ : ∃ b, decide (p < 0) = b := ⟨_, rfl⟩
  rw [hgp] at ck dm ⊢
  obtain ⟨ap, cp, rfl⟩ := lp.shape
  obtain ⟨aq, cq, rfl⟩ := lq.shape
  obtain ⟨np, hnp⟩ : ∃ k, (limbs (absN p)).length = k := ⟨_, rfl⟩
  obtain ⟨nq, hnq⟩ : ∃ k, (limbs q).length = k := ⟨_, rfl⟩
  rw [hnp, hnq] at ck dm ⊢
  rw [hnq] at NQ
  have HD := Hid.mk_ DM
  clear lp lq NP hgp hnp hnq hN hR0 DM F fp hg
  by_cases hi : -9223372036854775808 ≤ N ∧ N < 9223372036854775808
  · have E : errI N = 0 ∧ intI N = N := ⟨if_pos hi, if_pos hi⟩
    rw [E.1, E.2] at it
    clear E
    obtain ⟨i0, i1⟩ := hi
    rcases Int.lt_or_le N (-2097152) with h1 | h1
    · have O := O1 (.inl h1)
      clear O1 HD fN fR fq
      go_enter Tryz.func24, Tryz.ntmps24
      go_wp2_with fail
      refine (ck _ belowB).mono ?_
      rintro e w1 ⟨rfl, hb1⟩
      have st : Steps _ w1 := hb1
      have Bn : Below w.heap.size w w1 := belowA st
      have nf : Blk w1 (w.heap.size) 31 #[.bool gp, .slice ap np cp, .bool false, .slice aq nq cq] := Blk.stepsA st
      have nr : Blk w1 (w.heap.size + 1) 23 #[.int .i64 0, .int .i64 0] := Blk.stepsA st
      clear st
      have B := Bn
      clear Bn
      have of := nf
      clear nf
      have cf0 := of.q0
      have cf1 := of.q1
      have cf2 := of.q2
      have cf3 := of.q3
      have ff := of.fr
      have lf := of.lt
      have or := nr
      clear nr
      have cr0 := or.q0
      have cr1 := or.q1
      have fr := or.fr
      have lr := or.lt
      clear ck
      go_wp2_with fail
      refine (dm _ B).mono ?_
      rintro e w2 ⟨va, vb, rfl, na, nb, hb2⟩
      have st : Steps _ w2 := hb2
      have Bn : Below w.heap.size w w2 := belowA st
      have nf := of.stq st
      have nr := or.stq st
      clear B of or cf0 cf1 cf2 cf3 ff lf cr0 cr1 fr lr
      clear st
      have B := Bn
      clear Bn
      have of := nf
      clear nf
      have cf0 := of.q0
      have cf1 := of.q1
      have cf2 := of.q2
      have cf3 := of.q3
      have ff := of.fr
      have lf := of.lt
      have or := nr
      clear nr
      have cr0 := or.q0
      have cr1 := or.q1
      have fr := or.fr
      have lr := or.lt
      clear dm
      have NB := Hid.mk_ nb
      have NA := Hid.mk_ na
      obtain ⟨ba, aa, na', ca, rfl⟩ := na.shape
      obtain ⟨bb, ab, nb', cb, rfl⟩ := nb.shape
      clear na nb
      have w2s : w.heap.size + 1 < w2.heap.size := or.lt
      go_wp2_with fail
      refine (it _ _ (NA.out.steps belowB)).mono ?_
      rintro e w3 ⟨rfl, hb3⟩
      have st : Steps _ w3 := hb3
      have Bn : Below w.heap.size w w3 := belowA st
      have nf := of.stq st
      have nr := or.stq st
      have nn : Blk w3 (w2.heap.size) 29 #[.bool ba, .slice aa na' ca] := Blk.stepsA st
      have nt : Blk w3 (w2.heap.size + 1) 29 #[.bool bb, .slice ab nb' cb] := Blk.stepsA st
      clear B of or cf0 cf1 cf2 cf3 ff lf cr0 cr1 fr lr
      clear st
      have B := Bn
      clear Bn
      have of := nf
      clear nf
      have cf0 := of.q0
      have cf1 := of.q1
      have cf2 := of.q2
      have cf3 := of.q3
      have ff := of.fr
      have lf := of.lt
      have or := nr
      clear nr
      have cr0 := or.q0
      have cr1 := or.q1
      have fr := or.fr
      have lr := or.lt
      have on := nn
      clear nn
      have cn0 := on.q0
      have cn1 := on.q1
      have fn := on.fr
      have ln := on.lt
      have ot := nt
      clear nt
      have ct0 := ot.q0
      have ct1 := ot.q1
      have ft := ot.fr
      have lt := ot.lt
      clear it NA
      have NT := NB.out.steps (((Below.refl w2.heap.size w2).alloc (Nat.le_refl _) _).alloc (by simp) _ |>.trans (hb3.mono (by simp; omega)))
      clear NB
      go_wp2
      refine bodyPost_ret (by simp [results, Tryz.results24, go_sem, cf0, cf1, cf2, cf3, ff, lf, cr0, cr1, fr, lr, cn0, cn1, fn, ln, ct0, ct1, ft, lt]; rfl) rfl ?_
      exact G3_eq O.out belowB
    · rcases Int.lt_or_le 2097152 N with h2 | h2
      · have O := O1 (.inr h2)
        clear O1 HD fN fR fq
        go_enter Tryz.func24, Tryz.ntmps24
        go_wp2_with fail
        refine (ck _ belowB).mono ?_
        rintro e w1 ⟨rfl, hb1⟩
        have st : Steps _ w1 := hb1
        have Bn : Below w.heap.size w w1 := belowA st
        have nf : Blk w1 (w.heap.size) 31 #[.bool gp, .slice ap np cp, .bool false, .slice aq nq cq] := Blk.stepsA st
        have nr : Blk w1 (w.heap.size + 1) 23 #[.int .i64 0, .int .i64 0] := Blk.stepsA st
        clear st
        have B := Bn
        clear Bn
        have of := nf
        clear nf
        have cf0 := of.q0
        have cf1 := of.q1
        have cf2 := of.q2
        have cf3 := of.q3
        have ff := of.fr
        have lf := of.lt
        have or := nr
        clear nr
        have cr0 := or.q0
        have cr1 := or.q1
        have fr := or.fr
        have lr := or.lt
        clear ck
        go_wp2_with fail
        refine (dm _ B).mono ?_
        rintro e w2 ⟨va, vb, rfl, na, nb, hb2⟩
        have st : Steps _ w2 := hb2
        have Bn : Below w.heap.size w w2 := belowA st
        have nf := of.stq st
        have nr := or.stq st
        clear B of or cf0 cf1 cf2 cf3 ff lf cr0 cr1 fr lr
        clear st
        have B := Bn
        clear Bn
        have of := nf
        clear nf
        have cf0 := of.q0
        have cf1 := of.q1
        have cf2 := of.q2
        have cf3 := of.q3
        have ff := of.fr
        have lf := of.lt
        have or := nr
        clear nr
        have cr0 := or.q0
        have cr1 := or.q1
        have fr := or.fr
        have lr := or.lt
        clear dm
        have NB := Hid.mk_ nb
        have NA := Hid.mk_ na
        obtain ⟨ba, aa, na', ca, rfl⟩ := na.shape
        obtain ⟨bb, ab, nb', cb, rfl⟩ := nb.shape
        clear na nb
        have w2s : w.heap.size + 1 < w2.heap.size := or.lt
        go_wp2_with fail
        refine (it _ _ (NA.out.steps belowB)).mono ?_
        rintro e w3 ⟨rfl, hb3⟩
        have st : Steps _ w3 := hb3
        have Bn : Below w.heap.size w w3 := belowA st
        have nf := of.stq st
        have nr := or.stq st
        have nn : Blk w3 (w2.heap.size) 29 #[.bool ba, .slice aa na' ca] := Blk.stepsA st
        have nt : Blk w3 (w2.heap.size + 1) 29 #[.bool bb, .slice ab nb' cb] := Blk.stepsA st
        clear B of or cf0 cf1 cf2 cf3 ff lf cr0 cr1 fr lr
        clear st
        have B := Bn
        clear Bn
        have of := nf
        clear nf
        have cf0 := of.q0
        have cf1 := of.q1
        have cf2 := of.q2
        have cf3 := of.q3
        have ff := of.fr
        have lf := of.lt
        have or := nr
        clear nr
        have cr0 := or.q0
        have cr1 := or.q1
        have fr := or.fr
        have lr := or.lt
        have on := nn
        clear nn
        have cn0 := on.q0
        have cn1 := on.q1
        have fn := on.fr
        have ln := on.lt
        have ot := nt
        clear nt
        have ct0 := ot.q0
        have ct1 := ot.q1
        have ft := ot.fr
        have lt := ot.lt
        clear it NA
        have NT := NB.out.steps (((Below.refl w2.heap.size w2).alloc (Nat.le_refl _) _).alloc (by simp) _ |>.trans (hb3.mono (by simp; omega)))
        clear NB
        go_wp2
        refine bodyPost_ret (by simp [results, Tryz.results24, go_sem, cf0, cf1, cf2, cf3, ff, lf, cr0, cr1, fr, lr, cn0, cn1, fn, ln, ct0, ct1, ft, lt]; rfl) rfl ?_
        exact G3_eq O.out belowB
      clear O1 i0 i1 fN
      have hsl : wrap64 (N * 1099511627776) = N * 1099511627776 := by unfold wrap64; omega
      go_enter Tryz.func24, Tryz.ntmps24
      go_wp2_with fail
      refine (ck _ belowB).mono ?_
      rintro e w1 ⟨rfl, hb1⟩
      have st : Steps _ w1 := hb1
      have Bn : Below w.heap.size w w1 := belowA st
      have nf : Blk w1 (w.heap.size) 31 #[.bool gp, .slice ap np cp, .bool false, .slice aq nq cq] := Blk.stepsA st
      have nr : Blk w1 (w.heap.size + 1) 23 #[.int .i64 0, .int .i64 0] := Blk.stepsA st
      clear st
      have B := Bn
      clear Bn
      have of := nf
      clear nf
      have cf0 := of.q0
      have cf1 := of.q1
      have cf2 := of.q2
      have cf3 := of.q3
      have ff := of.fr
      have lf := of.lt
      have or := nr
      clear nr
      have cr0 := or.q0
      have cr1 := or.q1
      have fr := or.fr
      have lr := or.lt
      clear ck
      go_wp2_with fail
      refine (dm _ B).mono ?_
      rintro e w2 ⟨va, vb, rfl, na, nb, hb2⟩
      have st : Steps _ w2 := hb2
      have Bn : Below w.heap.size w w2 := belowA st
      have nf := of.stq st
      have nr := or.stq st
      clear B of or cf0 cf1 cf2 cf3 ff lf cr0 cr1 fr lr
      clear st
      have B := Bn
      clear Bn
      have of := nf
      clear nf
      have cf0 := of.q0
      have cf1 := of.q1
      have cf2 := of.q2
      have cf3 := of.q3
      have ff := of.fr
      have lf := of.lt
      have or := nr
      clear nr
      have cr0 := or.q0
      have cr1 := or.q1
      have fr := or.fr
      have lr := or.lt
      clear dm
      have NB := Hid.mk_ nb
      have NA := Hid.mk_ na
      obtain ⟨ba, aa, na', ca, rfl⟩ := na.shape
      obtain ⟨bb, ab, nb', cb, rfl⟩ := nb.shape
      clear na nb
      have w2s : w.heap.size + 1 < w2.heap.size := or.lt
      go_wp2_with fail
      refine (it _ _ (NA.out.steps belowB)).mono ?_
      rintro e w3 ⟨rfl, hb3⟩
      have st : Steps _ w3 := hb3
      have Bn : Below w.heap.size w w3 := belowA st
      have nf := of.stq st
      have nr := or.stq st
      have nn : Blk w3 (w2.heap.size) 29 #[.bool ba, .slice aa na' ca] := Blk.stepsA st
      have nt : Blk w3 (w2.heap.size + 1) 29 #[.bool bb, .slice ab nb' cb] := Blk.stepsA st
      clear B of or cf0 cf1 cf2 cf3 ff lf cr0 cr1 fr lr
      clear st
      have B := Bn
      clear Bn
      have of := nf
      clear nf
      have cf0 := of.q0
      have cf1 := of.q1
      have cf2 := of.q2
      have cf3 := of.q3
      have ff := of.fr
      have lf := of.lt
      have or := nr
      clear nr
      have cr0 := or.q0
      have cr1 := or.q1
      have fr := or.fr
      have lr := or.lt
      have on := nn
      clear nn
      have cn0 := on.q0
      have cn1 := on.q1
      have fn := on.fr
      have ln := on.lt
      have ot := nt
      clear nt
      have ct0 := ot.q0
      have ct1 := ot.q1
      have ft := ot.fr
      have lt := ot.lt
      clear it NA
      have NT := NB.out.steps (((Below.refl w2.heap.size w2).alloc (Nat.le_refl _) _).alloc (by simp) _ |>.trans (hb3.mono (by simp; omega)))
      clear NB
      go_wp2_with fail
      have NQ3 := NQ.steps B
      go_loopw [10, 11] (fun lo i wr => ∃ (j : Nat) (L r S : Int) (b : Bool) (a : Option Addr) (n c : Nat), j ≤ 40 ∧ i = .int .i64 ((j : Int) - 1) ∧ lo = .int .i64 S ∧ OfInv p q j L r S ∧ Blk wr (w2.heap.size + 1) 29 #[.bool b, .slice a n c] ∧ Num wr (.agg #[.bool b, .slice a n c]) r ∧ Blk wr w.heap.size 31 #[.bool gp, .slice ap np cp, .bool false, .slice aq nq cq] ∧ Blk wr (w.heap.size + 1) 23 #[.int .i64 0, .int .i64 0] ∧ Num wr (.agg #[.bool false, .slice aq nq cq]) q ∧ Below w.heap.size w wr) (fun _ i _ => (intOf i + 1).toNat)
      case atStart => exact ⟨40, N, R0, N * 1099511627776, bb, ab, nb', cb, Nat.le_refl _, by go_num, rfl, OfInv.start HD.out h1 h2, ot, NT, of, or, NQ3, B⟩
      case round =>
        clear NT of ot on or NQ3 B HD NQ cf0 cf1 cf2 cf3 ff lf cr0 cr1 fr lr cn0 cn1 fn ln ct0 ct1 ft lt hb3
        obtain ⟨j, L, r, S, b, a, n, c, hj, rfl, rfl, I, ot, NT, of, or, NQ, B⟩ := hrel
        obtain ⟨sr, er, lr'⟩ := id NT
        have hn : n = (limbs (absN r)).length := by
          simp only [Value.agg.injEq, Array.mk.injEq, List.cons.injEq, and_true] at er
          rw [← er.2] at lr'
          exact lr'.cells.2.1
        clear er lr' sr
        have hn0 : n = 0 ↔ r = 0 := by
          rw [hn, List.length_eq_zero_iff, limbs_nil (absN_nonneg r)]
          unfold absN; omega
        clear hn
        rcases Nat.eq_zero_or_pos j with rfl | hj0
        · have D := I.done
          rw [show (((0 : Nat) : Int) - 1) = -1 from rfl]
          have Sb := And.intro I.2.2.2.2.1 I.2.2.2.2.2
          simp at Sb
          have r0 := I.1
          rcases Nat.eq_zero_or_pos n with rfl | hn1
          · have O : ofI p q = md S S := by unfold ofI; rw [D.1, D.2, if_neg (by have := hn0.1 rfl; omega)]; rw [Int.add_zero]
            have HO := Hid.mk_ O
            clear O D I hn0 NT NQ
            have cf0 := of.q0
            have cf1 := of.q1
            have cf2 := of.q2
            have cf3 := of.q3
            have ff := of.fr
            have lf := of.lt
            have cr0 := or.q0
            have cr1 := or.q1
            have fr := or.fr
            have lr := or.lt
            have ct0 := ot.q0
            have ct1 := ot.q1
            have ft := ot.fr
            have lt := ot.lt
            go_wp2_with fail
            refine (smade3 S S _).mono ?_
            rintro e w4 ⟨rfl, hb4⟩
            have st : Steps _ w4 := hb4
            have Bn : Below w.heap.size w w4 := belowA st
            have nf := of.stq st
            have nr := or.stq st
            have nt : Blk w4 (w2.heap.size + 1) 29 #[.bool b, .slice a 0 c] := Blk.stepsA st
            clear B of or ot cf0 cf1 cf2 cf3 ff lf cr0 cr1 fr lr ct0 ct1 ft lt
            clear st
            have B := Bn
            clear Bn
            have of := nf
            clear nf
            have cf0 := of.q0
            have cf1 := of.q1
            have cf2 := of.q2
            have cf3 := of.q3
            have ff := of.fr
            have lf := of.lt
            have or := nr
            clear nr
            have cr0 := or.q0
            have cr1 := or.q1
            have fr := or.fr
            have lr := or.lt
            have ot := nt
            clear nt
            have ct0 := ot.q0
            have ct1 := ot.q1
            have ft := ot.fr
            have lt := ot.lt
            obtain ⟨M, hM⟩ : ∃ M, md S S = M := ⟨_, rfl⟩
            have HO' := HO.out.trans hM
            rw [hM]
            clear hM
            go_wp2
            refine bodyPost_ret (by simp [results, Tryz.results24, go_sem, cf0, cf1, cf2, cf3, ff, lf, cr0, cr1, fr, lr, ct0, ct1, ft, lt]; rfl) rfl ?_
            exact G3_eq HO' belowB
          · have O : ofI p q = md S (S + 1) := by unfold ofI; rw [D.1, D.2, if_pos (by have := hn0.2; omega)]
            have HO := Hid.mk_ O
            clear O D I hn0 NT NQ
            have cf0 := of.q0
            have cf1 := of.q1
            have cf2 := of.q2
            have cf3 := of.q3
            have ff := of.fr
            have lf := of.lt
            have cr0 := or.q0
            have cr1 := or.q1
            have fr := or.fr
            have lr := or.lt
            have ct0 := ot.q0
            have ct1 := ot.q1
            have ft := ot.fr
            have lt := ot.lt
            go_wp2_with fail
            refine (smade3 S (S + 1) _).mono ?_
            rintro e w4 ⟨rfl, hb4⟩
            have st : Steps _ w4 := hb4
            have Bn : Below w.heap.size w w4 := belowA st
            have nf := of.stq st
            have nr := or.stq st
            have nt : Blk w4 (w2.heap.size + 1) 29 #[.bool b, .slice a n c] := Blk.stepsA st
            clear B of or ot cf0 cf1 cf2 cf3 ff lf cr0 cr1 fr lr ct0 ct1 ft lt
            clear st
            have B := Bn
            clear Bn
            have of := nf
            clear nf
            have cf0 := of.q0
            have cf1 := of.q1
            have cf2 := of.q2
            have cf3 := of.q3
            have ff := of.fr
            have lf := of.lt
            have or := nr
            clear nr
            have cr0 := or.q0
            have cr1 := or.q1
            have fr := or.fr
            have lr := or.lt
            have ot := nt
            clear nt
            have ct0 := ot.q0
            have ct1 := ot.q1
            have ft := ot.fr
            have lt := ot.lt
            obtain ⟨M, hM⟩ : ∃ M, md S (S + 1) = M := ⟨_, rfl⟩
            have HO' := HO.out.trans hM
            rw [hM]
            clear hM
            go_wp2
            refine bodyPost_ret (by simp [results, Tryz.results24, go_sem, cf0, cf1, cf2, cf3, ff, lf, cr0, cr1, fr, lr, ct0, ct1, ft, lt]; rfl) rfl ?_
            exact G3_eq HO' belowB
        · obtain ⟨k, rfl⟩ : ∃ k, j = k + 1 := ⟨j - 1, by omega⟩
          clear hj0 hn0
          rw [show (((k + 1 : Nat) : Int) - 1) = (k : Int) by omega]
          have I' := Hid.mk_ (I.next hj)
          have r0 := I.1
          have r1 := I.2.1
          have Sb := And.intro I.2.2.2.2.1 I.2.2.2.2.2
          have fr' : fits r := fits_le (by unfold absN; omega) fq
          have fl : fits (q - r) := fits_le (by unfold absN; omega) fq
          have sb : Calls Tryz.prog 50 #[.agg #[.bool false, .slice aq nq cq], .agg #[.bool b, .slice a n c]] wr fun e w' => ∃ v, e = .returned (.tuple #[v, .int .i64 0]) ∧ Num w' v (q - r) ∧ Steps wr w' := by
            have := wSub wr NQ NT fq fr'
            rw [errN_fits fl, clipN_fits fl] at this
            exact this
          obtain ⟨P, hP⟩ : ∃ P, ((2 ^ k : Nat) : Int) = P := ⟨_, rfl⟩
          rw [hP] at I'
          have P0 : 1 ≤ P := by have := Nat.one_le_two_pow (n := k); omega
          have P1 : P ≤ 1099511627776 := by have := Nat.pow_le_pow_right (show 0 < 2 by omega) (show k ≤ 40 by omega); simp at this; omega
          have hP2 : (2 : Int) ^ k = P := by rw [← hP]; simp
          have Sb2 : S + 2 * P ≤ 2305844108725321728 := by have := Sb.2; rw [Nat.pow_succ] at this; omega
          replace Sb := Sb.1
          clear I hP
          rcases Int.lt_or_le r (q - r) with hc | hc
          · have J := I'.out.1 hc
            have HJ := Hid.mk_ J
            have hcc : cmpI r (q - r) = -1 := by have := cmpI_cases r (q - r); omega
            have f2 : fits (r + r) := fits_le (by unfold absN; omega) fq
            have cm : ∀ w' va vb, Num w' va r → Num w' vb (q - r) → Calls Tryz.prog 51 #[va, vb] w' fun e w2 => e = .returned (.tuple #[.int .i64 (-1), .int .i64 0]) ∧ Steps w' w2 := fun w' va vb h1 h2 => by
              have := wCmp w' h1 h2 fr' fl
              rw [hcc] at this
              exact this
            have ad : ∀ w' va, Num w' va r → Calls Tryz.prog 52 #[va, va] w' fun e w2 => ∃ v, e = .returned (.tuple #[v, .int .i64 0]) ∧ Num w2 v (r + r) ∧ Steps w' w2 := fun w' va h1 => by
              have := wAdd w' h1 h1 fr' fr'
              rw [errN_fits f2, clipN_fits f2] at this
              exact this
            clear J I' hc hcc f2 fr' fl hP2
            have cf0 := of.q0
            have cf1 := of.q1
            have cf2 := of.q2
            have cf3 := of.q3
            have ff := of.fr
            have lf := of.lt
            have cr0 := or.q0
            have cr1 := or.q1
            have fr := or.fr
            have lr := or.lt
            have ct0 := ot.q0
            have ct1 := ot.q1
            have ft := ot.fr
            have lt := ot.lt
            go_wp2_with fail
            refine (sb).mono ?_
            rintro e w4 ⟨vl, rfl, nl, hb4⟩
            have st : Steps _ w4 := hb4
            have Bn : Below w.heap.size w w4 := belowA st
            have nf := of.stq st
            have nr := or.stq st
            have nt : Blk w4 (w2.heap.size + 1) 29 #[.bool b, .slice a n c] := Blk.stepsA st
            clear B of or ot cf0 cf1 cf2 cf3 ff lf cr0 cr1 fr lr ct0 ct1 ft lt
            clear st
            have B := Bn
            clear Bn
            have of := nf
            clear nf
            have cf0 := of.q0
            have cf1 := of.q1
            have cf2 := of.q2
            have cf3 := of.q3
            have ff := of.fr
            have lf := of.lt
            have or := nr
            clear nr
            have cr0 := or.q0
            have cr1 := or.q1
            have fr := or.fr
            have lr := or.lt
            have ot := nt
            clear nt
            have ct0 := ot.q0
            have ct1 := ot.q1
            have ft := ot.fr
            have lt := ot.lt
            clear sb
            have NT4 := Hid.mk_ (NT.steps hb4)
            have NQ4 := Hid.mk_ (NQ.steps hb4)
            clear NT NQ
            obtain ⟨bl, al, n_l, cl, rfl⟩ := nl.shape
            have NL := Hid.mk_ nl
            clear nl
            have z4 : w2.heap.size + 1 < w4.heap.size := ot.lt
            go_wp2_with fail
            refine (cm _ _ _ (NT4.out.alloc_ _) (NL.out.alloc_ _)).mono ?_
            rintro e w5 ⟨rfl, hb5⟩
            have st : Steps _ w5 := hb5
            have Bn : Below w.heap.size w w5 := belowA st
            have nf := of.stq st
            have nr := or.stq st
            have nt := ot.stq st
            have nl : Blk w5 (w4.heap.size) 29 #[.bool bl, .slice al n_l cl] := Blk.stepsA st
            clear B of or ot cf0 cf1 cf2 cf3 ff lf cr0 cr1 fr lr ct0 ct1 ft lt
            clear st
            have B := Bn
            clear Bn
            have of := nf
            clear nf
            have cf0 := of.q0
            have cf1 := of.q1
            have cf2 := of.q2
            have cf3 := of.q3
            have ff := of.fr
            have lf := of.lt
            have or := nr
            clear nr
            have cr0 := or.q0
            have cr1 := or.q1
            have fr := or.fr
            have lr := or.lt
            have ot := nt
            clear nt
            have ct0 := ot.q0
            have ct1 := ot.q1
            have ft := ot.fr
            have lt := ot.lt
            have ol := nl
            clear nl
            have cl0 := ol.q0
            have cl1 := ol.q1
            have fl := ol.fr
            have ll := ol.lt
            clear cm
            have NT5 := Hid.mk_ (NT4.out.steps ((Below.refl w4.heap.size w4).alloc (Nat.le_refl _) _ |>.trans (hb5.mono (by simp))))
            have NQ5 := Hid.mk_ (NQ4.out.steps ((Below.refl w4.heap.size w4).alloc (Nat.le_refl _) _ |>.trans (hb5.mono (by simp))))
            have NL5 := Hid.mk_ (NL.out.steps ((Below.refl w4.heap.size w4).alloc (Nat.le_refl _) _ |>.trans (hb5.mono (by simp))))
            clear NT4 NQ4 NL
            go_wp2_with fail
            refine (ad _ _ NT5.out).mono ?_
            rintro e w6 ⟨v6, rfl, n6, hb6⟩
            have st : Steps _ w6 := hb6
            have Bn : Below w.heap.size w w6 := belowA st
            have nf := of.stq st
            have nr := or.stq st
            have nt := ot.stq st
            have nl := ol.stq st
            clear B of or ot ol cf0 cf1 cf2 cf3 ff lf cr0 cr1 fr lr ct0 ct1 ft lt cl0 cl1 fl ll
            clear st
            have B := Bn
            clear Bn
            have of := nf
            clear nf
            have cf0 := of.q0
            have cf1 := of.q1
            have cf2 := of.q2
            have cf3 := of.q3
            have ff := of.fr
            have lf := of.lt
            have or := nr
            clear nr
            have cr0 := or.q0
            have cr1 := or.q1
            have fr := or.fr
            have lr := or.lt
            have ot := nt
            clear nt
            have ct0 := ot.q0
            have ct1 := ot.q1
            have ft := ot.fr
            have lt := ot.lt
            have ol := nl
            clear nl
            have cl0 := ol.q0
            have cl1 := ol.q1
            have fl := ol.fr
            have ll := ol.lt
            clear ad
            have NQ6 := Hid.mk_ (NQ5.out.steps hb6)
            clear NQ5 NT5 NL5
            obtain ⟨b6, a6, n_6, c6, rfl⟩ := n6.shape
            have N6 := Hid.mk_ n6
            clear n6
            go_wp2
            go_roundw
            case rel => exact ⟨k, 2 * L, r + r, S, b6, a6, n_6, c6, by omega, by go_num, rfl, HJ.out, ot.both, N6.out.put2 ot, (of.far' (by omega)).far' (by omega), (or.far' (by omega)).far' (by omega), NQ6.out.put2 ot, belowB⟩
            case measure => simp [intOf]
          · have J := I'.out.2 hc
            have HJ := Hid.mk_ J
            obtain ⟨cc, hcc⟩ : ∃ c, cmpI r (q - r) = c := ⟨_, rfl⟩
            have c0 : 0 ≤ cc := by have := cmpI_cases r (q - r); omega
            have f2 : fits (r - (q - r)) := fits_le (by unfold absN; omega) fq
            have cm : ∀ w' va vb, Num w' va r → Num w' vb (q - r) → Calls Tryz.prog 51 #[va, vb] w' fun e w2 => e = .returned (.tuple #[.int .i64 cc, .int .i64 0]) ∧ Steps w' w2 := fun w' va vb h1 h2 => by
              have := wCmp w' h1 h2 fr' fl
              rw [hcc] at this
              exact this
            have ad : ∀ w' va vb, Num w' va r → Num w' vb (q - r) → Calls Tryz.prog 50 #[va, vb] w' fun e w2 => ∃ v, e = .returned (.tuple #[v, .int .i64 0]) ∧ Num w2 v (r - (q - r)) ∧ Steps w' w2 := fun w' va vb h1 h2 => by
              have := wSub w' h1 h2 fr' fl
              rw [errN_fits f2, clipN_fits f2] at this
              exact this
            have hsP : wrap64 P = P := by unfold wrap64; omega
            have hsS : wrap64 (S + P) = S + P := by unfold wrap64; omega
            clear J I' hc hcc f2 fr' fl
            have cf0 := of.q0
            have cf1 := of.q1
            have cf2 := of.q2
            have cf3 := of.q3
            have ff := of.fr
            have lf := of.lt
            have cr0 := or.q0
            have cr1 := or.q1
            have fr := or.fr
            have lr := or.lt
            have ct0 := ot.q0
            have ct1 := ot.q1
            have ft := ot.fr
            have lt := ot.lt
            go_wp2_with fail
            refine (sb).mono ?_
            rintro e w4 ⟨vl, rfl, nl, hb4⟩
            have st : Steps _ w4 := hb4
            have Bn : Below w.heap.size w w4 := belowA st
            have nf := of.stq st
            have nr := or.stq st
            have nt : Blk w4 (w2.heap.size + 1) 29 #[.bool b, .slice a n c] := Blk.stepsA st
            clear B of or ot cf0 cf1 cf2 cf3 ff lf cr0 cr1 fr lr ct0 ct1 ft lt
            clear st
            have B := Bn
            clear Bn
            have of := nf
            clear nf
            have cf0 := of.q0
            have cf1 := of.q1
            have cf2 := of.q2
            have cf3 := of.q3
            have ff := of.fr
            have lf := of.lt
            have or := nr
            clear nr
            have cr0 := or.q0
            have cr1 := or.q1
            have fr := or.fr
            have lr := or.lt
            have ot := nt
            clear nt
            have ct0 := ot.q0
            have ct1 := ot.q1
            have ft := ot.fr
            have lt := ot.lt
            clear sb
            have NT4 := Hid.mk_ (NT.steps hb4)
            have NQ4 := Hid.mk_ (NQ.steps hb4)
            clear NT NQ
            obtain ⟨bl, al, n_l, cl, rfl⟩ := nl.shape
            have NL := Hid.mk_ nl
            clear nl
            have z4 : w2.heap.size + 1 < w4.heap.size := ot.lt
            go_wp2_with fail
            refine (cm _ _ _ (NT4.out.alloc_ _) (NL.out.alloc_ _)).mono ?_
            rintro e w5 ⟨rfl, hb5⟩
            have st : Steps _ w5 := hb5
            have Bn : Below w.heap.size w w5 := belowA st
            have nf := of.stq st
            have nr := or.stq st
            have nt := ot.stq st
            have nl : Blk w5 (w4.heap.size) 29 #[.bool bl, .slice al n_l cl] := Blk.stepsA st
            clear B of or ot cf0 cf1 cf2 cf3 ff lf cr0 cr1 fr lr ct0 ct1 ft lt
            clear st
            have B := Bn
            clear Bn
            have of := nf
            clear nf
            have cf0 := of.q0
            have cf1 := of.q1
            have cf2 := of.q2
            have cf3 := of.q3
            have ff := of.fr
            have lf := of.lt
            have or := nr
            clear nr
            have cr0 := or.q0
            have cr1 := or.q1
            have fr := or.fr
            have lr := or.lt
            have ot := nt
            clear nt
            have ct0 := ot.q0
            have ct1 := ot.q1
            have ft := ot.fr
            have lt := ot.lt
            have ol := nl
            clear nl
            have cl0 := ol.q0
            have cl1 := ol.q1
            have fl := ol.fr
            have ll := ol.lt
            clear cm
            have NT5 := Hid.mk_ (NT4.out.steps ((Below.refl w4.heap.size w4).alloc (Nat.le_refl _) _ |>.trans (hb5.mono (by simp))))
            have NQ5 := Hid.mk_ (NQ4.out.steps ((Below.refl w4.heap.size w4).alloc (Nat.le_refl _) _ |>.trans (hb5.mono (by simp))))
            have NL5 := Hid.mk_ (NL.out.steps ((Below.refl w4.heap.size w4).alloc (Nat.le_refl _) _ |>.trans (hb5.mono (by simp))))
            clear NT4 NQ4 NL
            go_wp2_with fail
            refine (ad _ _ _ NT5.out NL5.out).mono ?_
            rintro e w6 ⟨v6, rfl, n6, hb6⟩
            have st : Steps _ w6 := hb6
            have Bn : Below w.heap.size w w6 := belowA st
            have nf := of.stq st
            have nr := or.stq st
            have nt := ot.stq st
            have nl := ol.stq st
            clear B of or ot ol cf0 cf1 cf2 cf3 ff lf cr0 cr1 fr lr ct0 ct1 ft lt cl0 cl1 fl ll
            clear st
            have B := Bn
            clear Bn
            have of := nf
            clear nf
            have cf0 := of.q0
            have cf1 := of.q1
            have cf2 := of.q2
            have cf3 := of.q3
            have ff := of.fr
            have lf := of.lt
            have or := nr
            clear nr
            have cr0 := or.q0
            have cr1 := or.q1
            have fr := or.fr
            have lr := or.lt
            have ot := nt
            clear nt
            have ct0 := ot.q0
            have ct1 := ot.q1
            have ft := ot.fr
            have lt := ot.lt
            have ol := nl
            clear nl
            have cl0 := ol.q0
            have cl1 := ol.q1
            have fl := ol.fr
            have ll := ol.lt
            clear ad
            have NQ6 := Hid.mk_ (NQ5.out.steps hb6)
            clear NQ5 NT5 NL5
            obtain ⟨b6, a6, n_6, c6, rfl⟩ := n6.shape
            have N6 := Hid.mk_ n6
            clear n6
            go_wp2
            go_roundw
            case rel => exact ⟨k, 2 * L + 1, r - (q - r), S + P, b6, a6, n_6, c6, by omega, by go_num, rfl, HJ.out, ot.both, N6.out.put2 ot, (of.far' (by omega)).far' (by omega), (or.far' (by omega)).far' (by omega), NQ6.out.put2 ot, belowB⟩
            case measure => simp [intOf]
  · have E : errI N = 16 ∧ intI N = 0 := ⟨if_neg hi, if_neg hi⟩
    rw [E.1, E.2] at it
    have O := O1 (by omega)
    clear O1 HD fN fR fq E hi
    go_enter Tryz.func24, Tryz.ntmps24
    go_wp2_with fail
    refine (ck _ belowB).mono ?_
    rintro e w1 ⟨rfl, hb1⟩
    have st : Steps _ w1 := hb1
    have Bn : Below w.heap.size w w1 := belowA st
    have nf : Blk w1 (w.heap.size) 31 #[.bool gp, .slice ap np cp, .bool false, .slice aq nq cq] := Blk.stepsA st
    have nr : Blk w1 (w.heap.size + 1) 23 #[.int .i64 0, .int .i64 0] := Blk.stepsA st
    clear st
    have B := Bn
    clear Bn
    have of := nf
    clear nf
    have cf0 := of.q0
    have cf1 := of.q1
    have cf2 := of.q2
    have cf3 := of.q3
    have ff := of.fr
    have lf := of.lt
    have or := nr
    clear nr
    have cr0 := or.q0
    have cr1 := or.q1
    have fr := or.fr
    have lr := or.lt
    clear ck
    go_wp2_with fail
    refine (dm _ B).mono ?_
    rintro e w2 ⟨va, vb, rfl, na, nb, hb2⟩
    have st : Steps _ w2 := hb2
    have Bn : Below w.heap.size w w2 := belowA st
    have nf := of.stq st
    have nr := or.stq st
    clear B of or cf0 cf1 cf2 cf3 ff lf cr0 cr1 fr lr
    clear st
    have B := Bn
    clear Bn
    have of := nf
    clear nf
    have cf0 := of.q0
    have cf1 := of.q1
    have cf2 := of.q2
    have cf3 := of.q3
    have ff := of.fr
    have lf := of.lt
    have or := nr
    clear nr
    have cr0 := or.q0
    have cr1 := or.q1
    have fr := or.fr
    have lr := or.lt
    clear dm
    have NB := Hid.mk_ nb
    have NA := Hid.mk_ na
    obtain ⟨ba, aa, na', ca, rfl⟩ := na.shape
    obtain ⟨bb, ab, nb', cb, rfl⟩ := nb.shape
    clear na nb
    have w2s : w.heap.size + 1 < w2.heap.size := or.lt
    go_wp2_with fail
    refine (it _ _ (NA.out.steps belowB)).mono ?_
    rintro e w3 ⟨rfl, hb3⟩
    have st : Steps _ w3 := hb3
    have Bn : Below w.heap.size w w3 := belowA st
    have nf := of.stq st
    have nr := or.stq st
    have nn : Blk w3 (w2.heap.size) 29 #[.bool ba, .slice aa na' ca] := Blk.stepsA st
    have nt : Blk w3 (w2.heap.size + 1) 29 #[.bool bb, .slice ab nb' cb] := Blk.stepsA st
    clear B of or cf0 cf1 cf2 cf3 ff lf cr0 cr1 fr lr
    clear st
    have B := Bn
    clear Bn
    have of := nf
    clear nf
    have cf0 := of.q0
    have cf1 := of.q1
    have cf2 := of.q2
    have cf3 := of.q3
    have ff := of.fr
    have lf := of.lt
    have or := nr
    clear nr
    have cr0 := or.q0
    have cr1 := or.q1
    have fr := or.fr
    have lr := or.lt
    have on := nn
    clear nn
    have cn0 := on.q0
    have cn1 := on.q1
    have fn := on.fr
    have ln := on.lt
    have ot := nt
    clear nt
    have ct0 := ot.q0
    have ct1 := ot.q1
    have ft := ot.fr
    have lt := ot.lt
    clear it NA
    have NT := NB.out.steps (((Below.refl w2.heap.size w2).alloc (Nat.le_refl _) _).alloc (by simp) _ |>.trans (hb3.mono (by simp; omega)))
    clear NB
    go_wp2
    refine bodyPost_ret (by simp [results, Tryz.results24, go_sem, cf0, cf1, cf2, cf3, ff, lf, cr0, cr1, fr, lr, cn0, cn1, fn, ln, ct0, ct1, ft, lt]; rfl) rfl ?_
    exact G3_eq O.out belowB
end Go.Proofs.YtalnlnpnacfdfaaGreat
