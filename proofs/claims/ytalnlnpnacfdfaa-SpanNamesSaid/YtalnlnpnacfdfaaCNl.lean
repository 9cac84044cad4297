import Derived.Test.YtalnlnpnacfdfaaCNk
import Derived.Test.YtalnlnpnacfdfaaCTz
namespace Go.Proofs.Ytalnlnpnacfdfaa
open Go.RowKit
theorem rmade3 (lo hi : Int) (w : World) : Calls Try.prog 50 #[.int .i64 lo, .int .i64 hi] w (G3 w (md lo hi)) := by
  by_cases h1 : lo < -2305843009213693952
  · go_enter Try.func50, Try.ntmps50
    go_wp2
    go_returns
    exact G3_eq (by simp [md, h1]) (by go_grown)
  · by_cases h2 : 2305843009213693952 < hi
    all_goals
      go_enter Try.func50, Try.ntmps50
      go_wp2
      go_returns
      exact G3_eq (by simp [md, h1, h2]) (by go_grown)
set_option maxHeartbeats 1600000 in
theorem rWhole (n : Int) (w : World) : Calls Try.prog 45 #[.int .i64 n] w (G3 w (whI n)) := by
  by_cases h1 : n < -2097152
  · go_enter Try.func45, Try.ntmps45
    go_wp2
    go_returns
    exact G3_eq (by simp [whI, h1]) (by go_grown)
  · by_cases h2 : 2097152 < n
    · go_enter Try.func45, Try.ntmps45
      go_wp2
      go_returns
      exact G3_eq (by simp [whI, h1, h2]) (by go_grown)
    · have hw : wrap64 (n * 1099511627776) = n * 1099511627776 := by unfold wrap64; omega
      go_enter Try.func45, Try.ntmps45
      go_wp2
      go_returns
      exact G3_eq (by simp [whI, h1, h2]) (by go_grown)
set_option maxHeartbeats 6400000 in
set_option maxRecDepth 1000000 in
theorem rOf {v : Value} {p q : Int} (w : World) (hf : Frc w v p q) (lim : (limbs (absN p)).length ≤ 300) : Calls Try.prog 43 #[v] w (G3 w (ofI p q)) := by
  have ck := fun (w' : World) (h : Steps w w') => rfcheck_ok w' (hf.steps h)
  obtain ⟨sp, sq, rfl, lp, lq, q0, hg, fp, fq⟩ := hf
  have NP : Num w (.agg #[.bool (decide (p < 0)), sp]) p := ⟨sp, rfl, lp⟩
  have NQ : Num w (.agg #[.bool false, sq]) q := ⟨sq, by rw [decide_eq_false (by omega)], by rw [absN_of (by omega)]; exact lq⟩
  have sh := fun (w' : World) (h : Steps w w') => rshift40 w' (NP.steps h) lim
  have f2 : fits (p * 1099511627776) := by
    have h1 := (limbs_length (absN_nonneg p) 300).1 lim
    have h2 : absN (p * 1099511627776) = absN p * 1099511627776 := by unfold absN; omega
    have h3 : (limbs (absN (p * 1099511627776))).length ≤ 302 := by
      refine (limbs_length (absN_nonneg _) 302).2 ?_
      rw [h2, show 302 = 300 + 2 from rfl, bp_add, bp_two]
      have := bp_pos 300
      omega
    exact Nat.le_trans h3 (by omega)
  have dm : ∀ w' v, Num w' v (p * 1099511627776) → Num w' (.agg #[.bool false, sq]) q → Calls Try.prog 76 #[v, .agg #[.bool false, sq]] w' fun e w2 => ∃ a b, e = .returned (.tuple #[a, b, .int .i64 0]) ∧ Num w2 a (divF (p * 1099511627776) q) ∧ Num w2 b (modF (p * 1099511627776) q) ∧ Steps w' w2 := fun w' v h1 h2 => rdivmod w' h1 h2 f2 fq (by omega)
  have F := div_fits (x := p * 1099511627776) (y := q) (by omega)
  have fN : fits (divF (p * 1099511627776) q) := fits_le F.1 f2
  have DM := divmod_pos (x := p * 1099511627776) q0
  have O : ∀ L r, divF (p * 1099511627776) q = L → modF (p * 1099511627776) q = r → ofI p q = md L (L + if 0 < r then 1 else 0) := fun L r h1 h2 => by unfold ofI; rw [h1, h2]
  obtain ⟨L, hL⟩ : ∃ N, divF (p * 1099511627776) q = N := ⟨_, rfl⟩
  obtain ⟨r, hr⟩ : ∃ R, modF (p * 1099511627776) q = R := ⟨_, rfl⟩
  have O' := Hid.mk_ (O L r hL hr)
  rw [hL] at dm fN DM
  rw [hr] at dm DM
  have it := fun (w' : World) (v : Value) (h : Num w' v L) => rint w' h fN
  have r0 := DM.2.1
  obtain ⟨gp, hgp⟩ : ∃ b, decide (p < 0) = b := ⟨_, rfl⟩
  rw [hgp] at ck sh ⊢
  obtain ⟨ap, cp, rfl⟩ := lp.shape
  obtain ⟨aq, cq, rfl⟩ := lq.shape
  obtain ⟨np, hnp⟩ : ∃ k, (limbs (absN p)).length = k := ⟨_, rfl⟩
  obtain ⟨nq, hnq⟩ : ∃ k, (limbs q).length = k := ⟨_, rfl⟩
  rw [hnp, hnq] at ck ⊢
  rw [hnp] at sh
  rw [hnq] at NQ dm
  clear lp lq NP hgp hnp hnq hL hr DM F fp hg O fN f2 lim
  by_cases hi : -9223372036854775808 ≤ L ∧ L < 9223372036854775808
  · have E : errI L = 0 ∧ intI L = L := ⟨if_pos hi, if_pos hi⟩
    rw [E.1, E.2] at it
    clear E
    obtain ⟨i0, i1⟩ := hi
    go_enter Try.func43, Try.ntmps43
    go_wp2_with fail
    refine (ck _ belowB).mono ?_
    rintro e w1 ⟨rfl, hb1⟩
    have st : Steps _ w1 := hb1
    have Bn : Below w.heap.size w w1 := belowA st
    have nf : Blk w1 (w.heap.size) 53 #[.bool gp, .slice ap np cp, .bool false, .slice aq nq cq] := Blk.stepsA st
    have nr : Blk w1 (w.heap.size + 1) 23 #[.int .i64 0, .int .i64 0] := Blk.stepsA st
    clear st
    have B := Bn
    clear Bn
    have of := nf
    clear nf
    have cf0 : World.cell? w1 ⟨w.heap.size, 0, none⟩ = some (.bool gp) := of.c 0 rfl
    have cf1 : World.cell? w1 ⟨w.heap.size, 1, none⟩ = some (.slice ap np cp) := of.c 1 rfl
    have cf2 : World.cell? w1 ⟨w.heap.size, 2, none⟩ = some (.bool false) := of.c 2 rfl
    have cf3 : World.cell? w1 ⟨w.heap.size, 3, none⟩ = some (.slice aq nq cq) := of.c 3 rfl
    have ff := of.fr
    have lf := of.lt
    have or := nr
    clear nr
    have cr0 : World.cell? w1 ⟨w.heap.size + 1, 0, none⟩ = some (.int .i64 0) := or.c 0 rfl
    have cr1 : World.cell? w1 ⟨w.heap.size + 1, 1, none⟩ = some (.int .i64 0) := or.c 1 rfl
    have fr := or.fr
    have lr := or.lt
    clear ck
    go_wp2_with fail
    refine (sh _ B).mono ?_
    rintro e w2 ⟨vs, rfl, ns, hb2⟩
    have st : Steps _ w2 := hb2
    have Bn : Below w.heap.size w w2 := belowA st
    have nf : Blk w2 (w.heap.size) 53 #[.bool gp, .slice ap np cp, .bool false, .slice aq nq cq] := Blk.stepsA st
    have nr : Blk w2 (w.heap.size + 1) 23 #[.int .i64 0, .int .i64 0] := Blk.stepsA st
    clear B of or cf0 cf1 cf2 cf3 ff lf cr0 cr1 fr lr
    clear st
    have B := Bn
    clear Bn
    have of := nf
    clear nf
    have cf0 : World.cell? w2 ⟨w.heap.size, 0, none⟩ = some (.bool gp) := of.c 0 rfl
    have cf1 : World.cell? w2 ⟨w.heap.size, 1, none⟩ = some (.slice ap np cp) := of.c 1 rfl
    have cf2 : World.cell? w2 ⟨w.heap.size, 2, none⟩ = some (.bool false) := of.c 2 rfl
    have cf3 : World.cell? w2 ⟨w.heap.size, 3, none⟩ = some (.slice aq nq cq) := of.c 3 rfl
    have ff := of.fr
    have lf := of.lt
    have or := nr
    clear nr
    have cr0 : World.cell? w2 ⟨w.heap.size + 1, 0, none⟩ = some (.int .i64 0) := or.c 0 rfl
    have cr1 : World.cell? w2 ⟨w.heap.size + 1, 1, none⟩ = some (.int .i64 0) := or.c 1 rfl
    have fr := or.fr
    have lr := or.lt
    clear sh
    have NS := Hid.mk_ ns
    obtain ⟨bs, as_, ns', cs, rfl⟩ := ns.shape
    clear ns
    have w2s : w.heap.size + 1 < w2.heap.size := or.lt
    have NQ2 := Hid.mk_ (NQ.steps B)
    go_wp2_with fail
    refine (dm _ _ (NS.out.alloc_ _) (NQ2.out.alloc_ _)).mono ?_
    rintro e w3 ⟨va, vb, rfl, na, nb, hb3⟩
    have st : Steps _ w3 := hb3
    have Bn : Below w.heap.size w w3 := belowA st
    have nf : Blk w3 (w.heap.size) 53 #[.bool gp, .slice ap np cp, .bool false, .slice aq nq cq] := Blk.stepsA st
    have nr : Blk w3 (w.heap.size + 1) 23 #[.int .i64 0, .int .i64 0] := Blk.stepsA st
    have ns : Blk w3 (w2.heap.size) 51 #[.bool bs, .slice as_ ns' cs] := Blk.stepsA st
    clear B of or cf0 cf1 cf2 cf3 ff lf cr0 cr1 fr lr
    clear st
    have B := Bn
    clear Bn
    have of := nf
    clear nf
    have cf0 : World.cell? w3 ⟨w.heap.size, 0, none⟩ = some (.bool gp) := of.c 0 rfl
    have cf1 : World.cell? w3 ⟨w.heap.size, 1, none⟩ = some (.slice ap np cp) := of.c 1 rfl
    have cf2 : World.cell? w3 ⟨w.heap.size, 2, none⟩ = some (.bool false) := of.c 2 rfl
    have cf3 : World.cell? w3 ⟨w.heap.size, 3, none⟩ = some (.slice aq nq cq) := of.c 3 rfl
    have ff := of.fr
    have lf := of.lt
    have or := nr
    clear nr
    have cr0 : World.cell? w3 ⟨w.heap.size + 1, 0, none⟩ = some (.int .i64 0) := or.c 0 rfl
    have cr1 : World.cell? w3 ⟨w.heap.size + 1, 1, none⟩ = some (.int .i64 0) := or.c 1 rfl
    have fr := or.fr
    have lr := or.lt
    have os := ns
    clear ns
    have cs0 : World.cell? w3 ⟨w2.heap.size, 0, none⟩ = some (.bool bs) := os.c 0 rfl
    have cs1 : World.cell? w3 ⟨w2.heap.size, 1, none⟩ = some (.slice as_ ns' cs) := os.c 1 rfl
    have fs := os.fr
    have ls := os.lt
    clear dm NS NQ2
    have NB := Hid.mk_ nb
    have NA := Hid.mk_ na
    obtain ⟨ba, aa, na', ca, rfl⟩ := na.shape
    obtain ⟨bb, ab, nb', cb, rfl⟩ := nb.shape
    clear na nb
    have w3s : w2.heap.size < w3.heap.size := os.lt
    go_wp2_with fail
    refine (it _ _ (NA.out.steps belowB)).mono ?_
    rintro e w4 ⟨rfl, hb4⟩
    have st : Steps _ w4 := hb4
    have Bn : Below w.heap.size w w4 := belowA st
    have nf : Blk w4 (w.heap.size) 53 #[.bool gp, .slice ap np cp, .bool false, .slice aq nq cq] := Blk.stepsA st
    have nr : Blk w4 (w.heap.size + 1) 23 #[.int .i64 0, .int .i64 0] := Blk.stepsA st
    have ns : Blk w4 (w2.heap.size) 51 #[.bool bs, .slice as_ ns' cs] := Blk.stepsA st
    have nn : Blk w4 (w3.heap.size) 51 #[.bool ba, .slice aa na' ca] := Blk.stepsA st
    have nt : Blk w4 (w3.heap.size + 1) 51 #[.bool bb, .slice ab nb' cb] := Blk.stepsA st
    clear B of or os cf0 cf1 cf2 cf3 ff lf cr0 cr1 fr lr cs0 cs1 fs ls
    clear st
    have B := Bn
    clear Bn
    have of := nf
    clear nf
    have cf0 : World.cell? w4 ⟨w.heap.size, 0, none⟩ = some (.bool gp) := of.c 0 rfl
    have cf1 : World.cell? w4 ⟨w.heap.size, 1, none⟩ = some (.slice ap np cp) := of.c 1 rfl
    have cf2 : World.cell? w4 ⟨w.heap.size, 2, none⟩ = some (.bool false) := of.c 2 rfl
    have cf3 : World.cell? w4 ⟨w.heap.size, 3, none⟩ = some (.slice aq nq cq) := of.c 3 rfl
    have ff := of.fr
    have lf := of.lt
    have or := nr
    clear nr
    have cr0 : World.cell? w4 ⟨w.heap.size + 1, 0, none⟩ = some (.int .i64 0) := or.c 0 rfl
    have cr1 : World.cell? w4 ⟨w.heap.size + 1, 1, none⟩ = some (.int .i64 0) := or.c 1 rfl
    have fr := or.fr
    have lr := or.lt
    have os := ns
    clear ns
    have cs0 : World.cell? w4 ⟨w2.heap.size, 0, none⟩ = some (.bool bs) := os.c 0 rfl
    have cs1 : World.cell? w4 ⟨w2.heap.size, 1, none⟩ = some (.slice as_ ns' cs) := os.c 1 rfl
    have fs := os.fr
    have ls := os.lt
    have on := nn
    clear nn
    have cn0 : World.cell? w4 ⟨w3.heap.size, 0, none⟩ = some (.bool ba) := on.c 0 rfl
    have cn1 : World.cell? w4 ⟨w3.heap.size, 1, none⟩ = some (.slice aa na' ca) := on.c 1 rfl
    have fn := on.fr
    have ln := on.lt
    have ot := nt
    clear nt
    have ct0 : World.cell? w4 ⟨w3.heap.size + 1, 0, none⟩ = some (.bool bb) := ot.c 0 rfl
    have ct1 : World.cell? w4 ⟨w3.heap.size + 1, 1, none⟩ = some (.slice ab nb' cb) := ot.c 1 rfl
    have ft := ot.fr
    have lt := ot.lt
    clear it NA
    obtain ⟨sr, er, lr'⟩ := NB.out
    have hn : nb' = (limbs (absN r)).length := by
      simp only [Value.agg.injEq, Array.mk.injEq, List.cons.injEq, and_true] at er
      rw [← er.2] at lr'
      exact lr'.cells.2.1
    clear er lr' sr NB
    have hn0 : nb' = 0 ↔ r = 0 := by
      rw [hn, List.length_eq_zero_iff, limbs_nil (absN_nonneg r)]
      unfold absN; omega
    clear hn
    rcases Int.lt_or_le L (-2305843009213693952) with h1 | h1
    · have HO : Hid (ofI p q = (0, 0, 16)) := by show _ = _; rw [O'.out]; unfold md; apply if_pos; split <;> omega
      clear O' hn0 i0 i1
      go_wp2
      refine bodyPost_ret (by simp [results, Try.results43, go_sem, cf0, cf1, cf2, cf3, ff, lf, cr0, cr1, fr, lr, cs0, cs1, fs, ls, cn0, cn1, fn, ln, ct0, ct1, ft, lt]; rfl) rfl ?_
      exact G3_eq HO.out belowB
    · rcases Int.lt_or_le 2305843009213693952 L with h2 | h2
      · have HO : Hid (ofI p q = (0, 0, 16)) := by show _ = _; rw [O'.out]; unfold md; apply if_pos; split <;> omega
        clear O' hn0 i0 i1
        go_wp2
        refine bodyPost_ret (by simp [results, Try.results43, go_sem, cf0, cf1, cf2, cf3, ff, lf, cr0, cr1, fr, lr, cs0, cs1, fs, ls, cn0, cn1, fn, ln, ct0, ct1, ft, lt]; rfl) rfl ?_
        exact G3_eq HO.out belowB
      · rcases Nat.eq_zero_or_pos nb' with h3 | h3
        · have HO : Hid (ofI p q = md L L) := by show _ = _; rw [O'.out, if_neg (by have := hn0.1 h3; omega), Int.add_zero]
          subst h3
          clear O' hn0 i0 i1
          by_cases h4 : L = 2305843009213693952
          · subst h4
            go_wp2_with fail
            refine (rmade3 2305843009213693952 2305843009213693952 _).mono ?_
            rintro e w5 ⟨rfl, hb5⟩
            have st : Steps _ w5 := hb5
            have Bn : Below w.heap.size w w5 := belowA st
            have nf : Blk w5 (w.heap.size) 53 #[.bool gp, .slice ap np cp, .bool false, .slice aq nq cq] := Blk.stepsA st
            have nr : Blk w5 (w.heap.size + 1) 23 #[.int .i64 0, .int .i64 0] := Blk.stepsA st
            have ns : Blk w5 (w2.heap.size) 51 #[.bool bs, .slice as_ ns' cs] := Blk.stepsA st
            have nn : Blk w5 (w3.heap.size) 51 #[.bool ba, .slice aa na' ca] := Blk.stepsA st
            have nt : Blk w5 (w3.heap.size + 1) 51 #[.bool bb, .slice ab 0 cb] := Blk.stepsA st
            clear B of or os on ot cf0 cf1 cf2 cf3 ff lf cr0 cr1 fr lr cs0 cs1 fs ls cn0 cn1 fn ln ct0 ct1 ft lt
            clear st
            have B := Bn
            clear Bn
            have of := nf
            clear nf
            have cf0 : World.cell? w5 ⟨w.heap.size, 0, none⟩ = some (.bool gp) := of.c 0 rfl
            have cf1 : World.cell? w5 ⟨w.heap.size, 1, none⟩ = some (.slice ap np cp) := of.c 1 rfl
            have cf2 : World.cell? w5 ⟨w.heap.size, 2, none⟩ = some (.bool false) := of.c 2 rfl
            have cf3 : World.cell? w5 ⟨w.heap.size, 3, none⟩ = some (.slice aq nq cq) := of.c 3 rfl
            have ff := of.fr
            have lf := of.lt
            have or := nr
            clear nr
            have cr0 : World.cell? w5 ⟨w.heap.size + 1, 0, none⟩ = some (.int .i64 0) := or.c 0 rfl
            have cr1 : World.cell? w5 ⟨w.heap.size + 1, 1, none⟩ = some (.int .i64 0) := or.c 1 rfl
            have fr := or.fr
            have lr := or.lt
            have os := ns
            clear ns
            have cs0 : World.cell? w5 ⟨w2.heap.size, 0, none⟩ = some (.bool bs) := os.c 0 rfl
            have cs1 : World.cell? w5 ⟨w2.heap.size, 1, none⟩ = some (.slice as_ ns' cs) := os.c 1 rfl
            have fs := os.fr
            have ls := os.lt
            have on := nn
            clear nn
            have cn0 : World.cell? w5 ⟨w3.heap.size, 0, none⟩ = some (.bool ba) := on.c 0 rfl
            have cn1 : World.cell? w5 ⟨w3.heap.size, 1, none⟩ = some (.slice aa na' ca) := on.c 1 rfl
            have fn := on.fr
            have ln := on.lt
            have ot := nt
            clear nt
            have ct0 : World.cell? w5 ⟨w3.heap.size + 1, 0, none⟩ = some (.bool bb) := ot.c 0 rfl
            have ct1 : World.cell? w5 ⟨w3.heap.size + 1, 1, none⟩ = some (.slice ab 0 cb) := ot.c 1 rfl
            have ft := ot.fr
            have lt := ot.lt
            obtain ⟨M, hM⟩ : ∃ M, md 2305843009213693952 2305843009213693952 = M := ⟨_, rfl⟩
            have HO' := HO.out.trans hM
            rw [hM]
            clear hM
            go_wp2
            refine bodyPost_ret (by simp [results, Try.results43, go_sem, cf0, cf1, cf2, cf3, ff, lf, cr0, cr1, fr, lr, cs0, cs1, fs, ls, cn0, cn1, fn, ln, ct0, ct1, ft, lt]; rfl) rfl ?_
            exact G3_eq HO' belowB
          · have h5 : (L == 2305843009213693952) = false := by simp [h4]
            go_wp2_with fail
            refine (rmade3 L L _).mono ?_
            rintro e w5 ⟨rfl, hb5⟩
            have st : Steps _ w5 := hb5
            have Bn : Below w.heap.size w w5 := belowA st
            have nf : Blk w5 (w.heap.size) 53 #[.bool gp, .slice ap np cp, .bool false, .slice aq nq cq] := Blk.stepsA st
            have nr : Blk w5 (w.heap.size + 1) 23 #[.int .i64 0, .int .i64 0] := Blk.stepsA st
            have ns : Blk w5 (w2.heap.size) 51 #[.bool bs, .slice as_ ns' cs] := Blk.stepsA st
            have nn : Blk w5 (w3.heap.size) 51 #[.bool ba, .slice aa na' ca] := Blk.stepsA st
            have nt : Blk w5 (w3.heap.size + 1) 51 #[.bool bb, .slice ab 0 cb] := Blk.stepsA st
            clear B of or os on ot cf0 cf1 cf2 cf3 ff lf cr0 cr1 fr lr cs0 cs1 fs ls cn0 cn1 fn ln ct0 ct1 ft lt
            clear st
            have B := Bn
            clear Bn
            have of := nf
            clear nf
            have cf0 : World.cell? w5 ⟨w.heap.size, 0, none⟩ = some (.bool gp) := of.c 0 rfl
            have cf1 : World.cell? w5 ⟨w.heap.size, 1, none⟩ = some (.slice ap np cp) := of.c 1 rfl
            have cf2 : World.cell? w5 ⟨w.heap.size, 2, none⟩ = some (.bool false) := of.c 2 rfl
            have cf3 : World.cell? w5 ⟨w.heap.size, 3, none⟩ = some (.slice aq nq cq) := of.c 3 rfl
            have ff := of.fr
            have lf := of.lt
            have or := nr
            clear nr
            have cr0 : World.cell? w5 ⟨w.heap.size + 1, 0, none⟩ = some (.int .i64 0) := or.c 0 rfl
            have cr1 : World.cell? w5 ⟨w.heap.size + 1, 1, none⟩ = some (.int .i64 0) := or.c 1 rfl
            have fr := or.fr
            have lr := or.lt
            have os := ns
            clear ns
            have cs0 : World.cell? w5 ⟨w2.heap.size, 0, none⟩ = some (.bool bs) := os.c 0 rfl
            have cs1 : World.cell? w5 ⟨w2.heap.size, 1, none⟩ = some (.slice as_ ns' cs) := os.c 1 rfl
            have fs := os.fr
            have ls := os.lt
            have on := nn
            clear nn
            have cn0 : World.cell? w5 ⟨w3.heap.size, 0, none⟩ = some (.bool ba) := on.c 0 rfl
            have cn1 : World.cell? w5 ⟨w3.heap.size, 1, none⟩ = some (.slice aa na' ca) := on.c 1 rfl
            have fn := on.fr
            have ln := on.lt
            have ot := nt
            clear nt
            have ct0 : World.cell? w5 ⟨w3.heap.size + 1, 0, none⟩ = some (.bool bb) := ot.c 0 rfl
            have ct1 : World.cell? w5 ⟨w3.heap.size + 1, 1, none⟩ = some (.slice ab 0 cb) := ot.c 1 rfl
            have ft := ot.fr
            have lt := ot.lt
            obtain ⟨M, hM⟩ : ∃ M, md L L = M := ⟨_, rfl⟩
            have HO' := HO.out.trans hM
            rw [hM]
            clear hM
            go_wp2
            refine bodyPost_ret (by simp [results, Try.results43, go_sem, cf0, cf1, cf2, cf3, ff, lf, cr0, cr1, fr, lr, cs0, cs1, fs, ls, cn0, cn1, fn, ln, ct0, ct1, ft, lt]; rfl) rfl ?_
            exact G3_eq HO' belowB
        · by_cases h4 : L = 2305843009213693952
          · subst h4
            have HO : Hid (ofI p q = (0, 0, 16)) := by show _ = _; rw [O'.out, if_pos (by have := hn0.2; omega)]; rfl
            clear O' hn0 i0 i1
            go_wp2
            refine bodyPost_ret (by simp [results, Try.results43, go_sem, cf0, cf1, cf2, cf3, ff, lf, cr0, cr1, fr, lr, cs0, cs1, fs, ls, cn0, cn1, fn, ln, ct0, ct1, ft, lt]; rfl) rfl ?_
            exact G3_eq HO.out belowB
          · have HO : Hid (ofI p q = md L (L + 1)) := by show _ = _; rw [O'.out, if_pos (by have := hn0.2; omega)]
            have h5 : (L == 2305843009213693952) = false := by simp [h4]
            clear O' hn0 i0 i1
            go_wp2_with fail
            refine (rmade3 L (L + 1) _).mono ?_
            rintro e w5 ⟨rfl, hb5⟩
            have st : Steps _ w5 := hb5
            have Bn : Below w.heap.size w w5 := belowA st
            have nf : Blk w5 (w.heap.size) 53 #[.bool gp, .slice ap np cp, .bool false, .slice aq nq cq] := Blk.stepsA st
            have nr : Blk w5 (w.heap.size + 1) 23 #[.int .i64 0, .int .i64 0] := Blk.stepsA st
            have ns : Blk w5 (w2.heap.size) 51 #[.bool bs, .slice as_ ns' cs] := Blk.stepsA st
            have nn : Blk w5 (w3.heap.size) 51 #[.bool ba, .slice aa na' ca] := Blk.stepsA st
            have nt : Blk w5 (w3.heap.size + 1) 51 #[.bool bb, .slice ab nb' cb] := Blk.stepsA st
            clear B of or os on ot cf0 cf1 cf2 cf3 ff lf cr0 cr1 fr lr cs0 cs1 fs ls cn0 cn1 fn ln ct0 ct1 ft lt
            clear st
            have B := Bn
            clear Bn
            have of := nf
            clear nf
            have cf0 : World.cell? w5 ⟨w.heap.size, 0, none⟩ = some (.bool gp) := of.c 0 rfl
            have cf1 : World.cell? w5 ⟨w.heap.size, 1, none⟩ = some (.slice ap np cp) := of.c 1 rfl
            have cf2 : World.cell? w5 ⟨w.heap.size, 2, none⟩ = some (.bool false) := of.c 2 rfl
            have cf3 : World.cell? w5 ⟨w.heap.size, 3, none⟩ = some (.slice aq nq cq) := of.c 3 rfl
            have ff := of.fr
            have lf := of.lt
            have or := nr
            clear nr
            have cr0 : World.cell? w5 ⟨w.heap.size + 1, 0, none⟩ = some (.int .i64 0) := or.c 0 rfl
            have cr1 : World.cell? w5 ⟨w.heap.size + 1, 1, none⟩ = some (.int .i64 0) := or.c 1 rfl
            have fr := or.fr
            have lr := or.lt
            have os := ns
            clear ns
            have cs0 : World.cell? w5 ⟨w2.heap.size, 0, none⟩ = some (.bool bs) := os.c 0 rfl
            have cs1 : World.cell? w5 ⟨w2.heap.size, 1, none⟩ = some (.slice as_ ns' cs) := os.c 1 rfl
            have fs := os.fr
            have ls := os.lt
            have on := nn
            clear nn
            have cn0 : World.cell? w5 ⟨w3.heap.size, 0, none⟩ = some (.bool ba) := on.c 0 rfl
            have cn1 : World.cell? w5 ⟨w3.heap.size, 1, none⟩ = some (.slice aa na' ca) := on.c 1 rfl
            have fn := on.fr
            have ln := on.lt
            have ot := nt
            clear nt
            have ct0 : World.cell? w5 ⟨w3.heap.size + 1, 0, none⟩ = some (.bool bb) := ot.c 0 rfl
            have ct1 : World.cell? w5 ⟨w3.heap.size + 1, 1, none⟩ = some (.slice ab nb' cb) := ot.c 1 rfl
            have ft := ot.fr
            have lt := ot.lt
            obtain ⟨M, hM⟩ : ∃ M, md L (L + 1) = M := ⟨_, rfl⟩
            have HO' := HO.out.trans hM
            rw [hM]
            clear hM
            go_wp2
            refine bodyPost_ret (by simp [results, Try.results43, go_sem, cf0, cf1, cf2, cf3, ff, lf, cr0, cr1, fr, lr, cs0, cs1, fs, ls, cn0, cn1, fn, ln, ct0, ct1, ft, lt]; rfl) rfl ?_
            exact G3_eq HO' belowB
  · have E : errI L = 16 ∧ intI L = 0 := ⟨if_neg hi, if_neg hi⟩
    rw [E.1, E.2] at it
    have HO : Hid (ofI p q = (0, 0, 16)) := by show _ = _; rw [O'.out]; unfold md; apply if_pos; split <;> omega
    clear O' E hi
    go_enter Try.func43, Try.ntmps43
    go_wp2_with fail
    refine (ck _ belowB).mono ?_
    rintro e w1 ⟨rfl, hb1⟩
    have st : Steps _ w1 := hb1
    have Bn : Below w.heap.size w w1 := belowA st
    have nf : Blk w1 (w.heap.size) 53 #[.bool gp, .slice ap np cp, .bool false, .slice aq nq cq] := Blk.stepsA st
    have nr : Blk w1 (w.heap.size + 1) 23 #[.int .i64 0, .int .i64 0] := Blk.stepsA st
    clear st
    have B := Bn
    clear Bn
    have of := nf
    clear nf
    have cf0 : World.cell? w1 ⟨w.heap.size, 0, none⟩ = some (.bool gp) := of.c 0 rfl
    have cf1 : World.cell? w1 ⟨w.heap.size, 1, none⟩ = some (.slice ap np cp) := of.c 1 rfl
    have cf2 : World.cell? w1 ⟨w.heap.size, 2, none⟩ = some (.bool false) := of.c 2 rfl
    have cf3 : World.cell? w1 ⟨w.heap.size, 3, none⟩ = some (.slice aq nq cq) := of.c 3 rfl
    have ff := of.fr
    have lf := of.lt
    have or := nr
    clear nr
    have cr0 : World.cell? w1 ⟨w.heap.size + 1, 0, none⟩ = some (.int .i64 0) := or.c 0 rfl
    have cr1 : World.cell? w1 ⟨w.heap.size + 1, 1, none⟩ = some (.int .i64 0) := or.c 1 rfl
    have fr := or.fr
    have lr := or.lt
    clear ck
    go_wp2_with fail
    refine (sh _ B).mono ?_
    rintro e w2 ⟨vs, rfl, ns, hb2⟩
    have st : Steps _ w2 := hb2
    have Bn : Below w.heap.size w w2 := belowA st
    have nf : Blk w2 (w.heap.size) 53 #[.bool gp, .slice ap np cp, .bool false, .slice aq nq cq] := Blk.stepsA st
    have nr : Blk w2 (w.heap.size + 1) 23 #[.int .i64 0, .int .i64 0] := Blk.stepsA st
    clear B of or cf0 cf1 cf2 cf3 ff lf cr0 cr1 fr lr
    clear st
    have B := Bn
    clear Bn
    have of := nf
    clear nf
    have cf0 : World.cell? w2 ⟨w.heap.size, 0, none⟩ = some (.bool gp) := of.c 0 rfl
    have cf1 : World.cell? w2 ⟨w.heap.size, 1, none⟩ = some (.slice ap np cp) := of.c 1 rfl
    have cf2 : World.cell? w2 ⟨w.heap.size, 2, none⟩ = some (.bool false) := of.c 2 rfl
    have cf3 : World.cell? w2 ⟨w.heap.size, 3, none⟩ = some (.slice aq nq cq) := of.c 3 rfl
    have ff := of.fr
    have lf := of.lt
    have or := nr
    clear nr
    have cr0 : World.cell? w2 ⟨w.heap.size + 1, 0, none⟩ = some (.int .i64 0) := or.c 0 rfl
    have cr1 : World.cell? w2 ⟨w.heap.size + 1, 1, none⟩ = some (.int .i64 0) := or.c 1 rfl
    have fr := or.fr
    have lr := or.lt
    clear sh
    have NS := Hid.mk_ ns
    obtain ⟨bs, as_, ns', cs, rfl⟩ := ns.shape
    clear ns
    have w2s : w.heap.size + 1 < w2.heap.size := or.lt
    have NQ2 := Hid.mk_ (NQ.steps B)
    go_wp2_with fail
    refine (dm _ _ (NS.out.alloc_ _) (NQ2.out.alloc_ _)).mono ?_
    rintro e w3 ⟨va, vb, rfl, na, nb, hb3⟩
    have st : Steps _ w3 := hb3
    have Bn : Below w.heap.size w w3 := belowA st
    have nf : Blk w3 (w.heap.size) 53 #[.bool gp, .slice ap np cp, .bool false, .slice aq nq cq] := Blk.stepsA st
    have nr : Blk w3 (w.heap.size + 1) 23 #[.int .i64 0, .int .i64 0] := Blk.stepsA st
    have ns : Blk w3 (w2.heap.size) 51 #[.bool bs, .slice as_ ns' cs] := Blk.stepsA st
    clear B of or cf0 cf1 cf2 cf3 ff lf cr0 cr1 fr lr
    clear st
    have B := Bn
    clear Bn
    have of := nf
    clear nf
    have cf0 : World.cell? w3 ⟨w.heap.size, 0, none⟩ = some (.bool gp) := of.c 0 rfl
    have cf1 : World.cell? w3 ⟨w.heap.size, 1, none⟩ = some (.slice ap np cp) := of.c 1 rfl
    have cf2 : World.cell? w3 ⟨w.heap.size, 2, none⟩ = some (.bool false) := of.c 2 rfl
    have cf3 : World.cell? w3 ⟨w.heap.size, 3, none⟩ = some (.slice aq nq cq) := of.c 3 rfl
    have ff := of.fr
    have lf := of.lt
    have or := nr
    clear nr
    have cr0 : World.cell? w3 ⟨w.heap.size + 1, 0, none⟩ = some (.int .i64 0) := or.c 0 rfl
    have cr1 : World.cell? w3 ⟨w.heap.size + 1, 1, none⟩ = some (.int .i64 0) := or.c 1 rfl
    have fr := or.fr
    have lr := or.lt
    have os := ns
    clear ns
    have cs0 : World.cell? w3 ⟨w2.heap.size, 0, none⟩ = some (.bool bs) := os.c 0 rfl
    have cs1 : World.cell? w3 ⟨w2.heap.size, 1, none⟩ = some (.slice as_ ns' cs) := os.c 1 rfl
    have fs := os.fr
    have ls := os.lt
    clear dm NS NQ2
    have NB := Hid.mk_ nb
    have NA := Hid.mk_ na
    obtain ⟨ba, aa, na', ca, rfl⟩ := na.shape
    obtain ⟨bb, ab, nb', cb, rfl⟩ := nb.shape
    clear na nb
    have w3s : w2.heap.size < w3.heap.size := os.lt
    go_wp2_with fail
    refine (it _ _ (NA.out.steps belowB)).mono ?_
    rintro e w4 ⟨rfl, hb4⟩
    have st : Steps _ w4 := hb4
    have Bn : Below w.heap.size w w4 := belowA st
    have nf : Blk w4 (w.heap.size) 53 #[.bool gp, .slice ap np cp, .bool false, .slice aq nq cq] := Blk.stepsA st
    have nr : Blk w4 (w.heap.size + 1) 23 #[.int .i64 0, .int .i64 0] := Blk.stepsA st
    have ns : Blk w4 (w2.heap.size) 51 #[.bool bs, .slice as_ ns' cs] := Blk.stepsA st
    have nn : Blk w4 (w3.heap.size) 51 #[.bool ba, .slice aa na' ca] := Blk.stepsA st
    have nt : Blk w4 (w3.heap.size + 1) 51 #[.bool bb, .slice ab nb' cb] := Blk.stepsA st
    clear B of or os cf0 cf1 cf2 cf3 ff lf cr0 cr1 fr lr cs0 cs1 fs ls
    clear st
    have B := Bn
    clear Bn
    have of := nf
    clear nf
    have cf0 : World.cell? w4 ⟨w.heap.size, 0, none⟩ = some (.bool gp) := of.c 0 rfl
    have cf1 : World.cell? w4 ⟨w.heap.size, 1, none⟩ = some (.slice ap np cp) := of.c 1 rfl
    have cf2 : World.cell? w4 ⟨w.heap.size, 2, none⟩ = some (.bool false) := of.c 2 rfl
    have cf3 : World.cell? w4 ⟨w.heap.size, 3, none⟩ = some (.slice aq nq cq) := of.c 3 rfl
    have ff := of.fr
    have lf := of.lt
    have or := nr
    clear nr
    have cr0 : World.cell? w4 ⟨w.heap.size + 1, 0, none⟩ = some (.int .i64 0) := or.c 0 rfl
    have cr1 : World.cell? w4 ⟨w.heap.size + 1, 1, none⟩ = some (.int .i64 0) := or.c 1 rfl
    have fr := or.fr
    have lr := or.lt
    have os := ns
    clear ns
    have cs0 : World.cell? w4 ⟨w2.heap.size, 0, none⟩ = some (.bool bs) := os.c 0 rfl
    have cs1 : World.cell? w4 ⟨w2.heap.size, 1, none⟩ = some (.slice as_ ns' cs) := os.c 1 rfl
    have fs := os.fr
    have ls := os.lt
    have on := nn
    clear nn
    have cn0 : World.cell? w4 ⟨w3.heap.size, 0, none⟩ = some (.bool ba) := on.c 0 rfl
    have cn1 : World.cell? w4 ⟨w3.heap.size, 1, none⟩ = some (.slice aa na' ca) := on.c 1 rfl
    have fn := on.fr
    have ln := on.lt
    have ot := nt
    clear nt
    have ct0 : World.cell? w4 ⟨w3.heap.size + 1, 0, none⟩ = some (.bool bb) := ot.c 0 rfl
    have ct1 : World.cell? w4 ⟨w3.heap.size + 1, 1, none⟩ = some (.slice ab nb' cb) := ot.c 1 rfl
    have ft := ot.fr
    have lt := ot.lt
    clear it NA
    clear NB
    go_wp2
    refine bodyPost_ret (by simp [results, Try.results43, go_sem, cf0, cf1, cf2, cf3, ff, lf, cr0, cr1, fr, lr, cs0, cs1, fs, ls, cn0, cn1, fn, ln, ct0, ct1, ft, lt]; rfl) rfl ?_
    exact G3_eq HO.out belowB
end Go.Proofs.Ytalnlnpnacfdfaa
