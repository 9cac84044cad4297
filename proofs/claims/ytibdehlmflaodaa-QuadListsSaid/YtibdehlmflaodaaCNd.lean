import Derived.Test.YtibdehlmflaodaaCNa
namespace Go.Proofs.Ytibdehlmflaodaa
open Go.RowKit
theorem cmpI_cases (x y : Int) : (cmpI x y = 0 ∧ x = y) ∨ (cmpI x y = -1 ∧ x < y) ∨ (cmpI x y = 1 ∧ y < x) := by
  unfold cmpI
  split
  · left; omega
  · split
    · right; left; omega
    · right; right; omega
theorem absN_cases (z : Int) : (z < 0 ∧ absN z = -z) ∨ (0 ≤ z ∧ absN z = z) := by unfold absN; omega
set_option maxHeartbeats 3200000 in
set_option maxRecDepth 1000000 in
theorem rsum {va vb : Value} {x y : Int} (w : World) (ha : Num w va x) (hb : Num w vb y) (fx : fits x) (fy : fits y) :
    Calls Try.prog 137 #[va, vb] w fun e w' => ∃ v, e = .returned (.tuple #[v, .int .i64 (errN (x + y))]) ∧ Num w' v (clipN (x + y)) ∧ Steps w w' := by
  obtain ⟨aa, ca, rfl, pa⟩ := ha.parts
  obtain ⟨ab, cb, rfl, pb⟩ := hb.parts
  unfold fits at fx fy
  have nx : (limbs (absN x)).length ≤ few := by unfold few; omega
  have ny : (limbs (absN y)).length ≤ few := by unfold few; omega
  have vx := lval_limbs (absN_nonneg x)
  have vy := lval_limbs (absN_nonneg y)
  obtain ⟨n, hn⟩ : ∃ n, (limbs (absN x)).length = n := ⟨_, rfl⟩
  obtain ⟨m, hm⟩ : ∃ m, (limbs (absN y)).length = m := ⟨_, rfl⟩
  have HNM : Hid ((limbs (absN x)).length = n ∧ (limbs (absN y)).length = m) := ⟨hn, hm⟩
  have HL : Hid (lval (limbs (absN x)) = absN x ∧ lval (limbs (absN y)) = absN y) := ⟨vx, vy⟩
  rw [hn] at pa ⊢
  rw [hm] at pb ⊢
  have X := absN_cases x
  have Y := absN_cases y
  obtain ⟨gx, hna⟩ : ∃ b, decide (x < 0) = b := ⟨_, rfl⟩
  obtain ⟨gy, hnb⟩ : ∃ b, decide (y < 0) = b := ⟨_, rfl⟩
  rw [hna, hnb]
  have HS : Hid (decide (x < 0) = gx ∧ decide (y < 0) = gy) := ⟨hna, hnb⟩
  have HX := Hid.mk_ (And.intro X Y)
  have HF := Hid.mk_ (And.intro fx fy)
  clear ha hb hn hm hna hnb X Y vx vy nx ny fx fy
  by_cases hs : gx = gy
  · subst hs
    have hz : ∀ l, lval l = lval (limbs (absN x)) + lval (limbs (absN y)) → zv gx (lval l) = x + y := fun l h => by
      rw [h, HL.out.1, HL.out.2]
      have h1 := HS.out.1
      have h2 := HS.out.2
      have h3 := HX.out
      unfold zv
      cases gx
      · simp at h1 h2; simp only [Bool.false_eq_true, if_false]; omega
      · simp at h1 h2; simp only [if_true]; omega
    have Hz := Hid.mk_ hz
    clear hz
    go_enter Try.func137, Try.ntmps137
    go_wp2_with fail
    go_region_held3 (fun w' => w'.cell? ⟨w.heap.size, 0, none⟩ = some (.bool gx) ∧ w'.cell? ⟨w.heap.size, 1, none⟩ = some (.slice aa n ca) ∧ w'.cell? ⟨w.heap.size + 1, 0, none⟩ = some (.bool gx) ∧ w'.cell? ⟨w.heap.size + 1, 1, none⟩ = some (.slice ab m cb))
      ((refine ⟨Blk.c (t := 26) (cs := #[.bool gx, .slice aa n ca]) ?_ 0 rfl, Blk.c (t := 26) (cs := #[.bool gx, .slice aa n ca]) ?_ 1 rfl, Blk.c (t := 26) (cs := #[.bool gx, .slice ab m cb]) ?_ 0 rfl, Blk.c (t := 26) (cs := #[.bool gx, .slice ab m cb]) ?_ 1 rfl⟩ <;> (repeat' first | with_reducible assumption | (with_reducible refine Blk.new' ?_; first | with_reducible rfl | (simp only [World.size_alloc, World.size_setCell, World.size_drew]; done)) | with_reducible refine Blk.alloc ?_ _ | with_reducible refine Blk.drew ?_ | with_reducible refine Blk.drewN ?_ _ | with_reducible apply Blk.both | with_reducible refine Blk.far' ?_ ?_ | (show _ ≠ _; omega))))
      (first
        | ((go_at_call 140; refine (rplus _ (pa.steps belowB) (pb.steps belowB) (by have := HF.out; unfold few; omega) (by have := HF.out; unfold few; omega)).mono ?_; rintro e wv ⟨v1, l1, rfl, hv1, vl1, ll1, hbv⟩; have HV1 := Hid.mk_ vl1; clear vl1; go_must (have st : Steps _ wv := hbv; have Bn : Below w.heap.size w wv := belowA st; have na : Blk wv (w.heap.size) 26 #[.bool gx, .slice aa n ca] := Blk.stepsA st; have nb : Blk wv (w.heap.size + 1) 26 #[.bool gx, .slice ab m cb] := Blk.stepsA st; have nr : Blk wv (w.heap.size + 1 + 1) 26 #[.bool false, .slice none 0 0] := Blk.stepsA st; clear st; have B := Bn; clear Bn; have oa := na; clear na; have ca0 : World.cell? wv ⟨w.heap.size, 0, none⟩ = some (.bool gx) := oa.c 0 rfl; have ca1 : World.cell? wv ⟨w.heap.size, 1, none⟩ = some (.slice aa n ca) := oa.c 1 rfl; have fa := oa.fr; have la := oa.lt; have ob := nb; clear nb; have cb0 : World.cell? wv ⟨w.heap.size + 1, 0, none⟩ = some (.bool gx) := ob.c 0 rfl; have cb1 : World.cell? wv ⟨w.heap.size + 1, 1, none⟩ = some (.slice ab m cb) := ob.c 1 rfl; have fb := ob.fr; have lb := ob.lt; have or := nr; clear nr; have cr0 : World.cell? wv ⟨w.heap.size + 1 + 1, 0, none⟩ = some (.bool false) := or.c 0 rfl; have cr1 : World.cell? wv ⟨w.heap.size + 1 + 1, 1, none⟩ = some (.slice none 0 0) := or.c 1 rfl; have fr := or.fr; have lr := or.lt)))
        | ((go_at_call 108; refine (rmadeN gx _ hv1 (by have := HF.out; unfold few; omega)).mono ?_; rintro e wv ⟨v2, rfl, hv2, hbv⟩; go_must (have st : Steps _ wv := hbv; have Bn : Below w.heap.size w wv := belowA st; have na : Blk wv (w.heap.size) 26 #[.bool gx, .slice aa n ca] := Blk.stepsA st; have nb : Blk wv (w.heap.size + 1) 26 #[.bool gx, .slice ab m cb] := Blk.stepsA st; have nr : Blk wv (w.heap.size + 1 + 1) 26 #[.bool false, .slice none 0 0] := Blk.stepsA st; clear B oa ob or ca0 ca1 fa la cb0 cb1 fb lb cr0 cr1 fr lr; clear st; have B := Bn; clear Bn; have oa := na; clear na; have ca0 : World.cell? wv ⟨w.heap.size, 0, none⟩ = some (.bool gx) := oa.c 0 rfl; have ca1 : World.cell? wv ⟨w.heap.size, 1, none⟩ = some (.slice aa n ca) := oa.c 1 rfl; have fa := oa.fr; have la := oa.lt; have ob := nb; clear nb; have cb0 : World.cell? wv ⟨w.heap.size + 1, 0, none⟩ = some (.bool gx) := ob.c 0 rfl; have cb1 : World.cell? wv ⟨w.heap.size + 1, 1, none⟩ = some (.slice ab m cb) := ob.c 1 rfl; have fb := ob.fr; have lb := ob.lt; have or := nr; clear nr; have cr0 : World.cell? wv ⟨w.heap.size + 1 + 1, 0, none⟩ = some (.bool false) := or.c 0 rfl; have cr1 : World.cell? wv ⟨w.heap.size + 1 + 1, 1, none⟩ = some (.slice none 0 0) := or.c 1 rfl; have fr := or.fr; have lr := or.lt; obtain ⟨bb, ao2, n2, c2, rfl⟩ := hv2.shape))))
    have HV2 := Hid.mk_ hv2
    clear hv2
    go_wp2
    refine bodyPost_ret (by simp [results, Try.results137, go_sem, ca0, ca1, fa, la, cb0, cb1, fb, lb, cr0, cr1, fr, lr]; rfl) rfl ?_
    have e := Hz.out l1 HV1.out
    exact ⟨_, retW rfl (by rw [e]), by rw [← e]; exact HV2.out.put2 or, belowB⟩
  · have hsg : gx = !gy := by cases gx <;> cases gy <;> simp_all
    obtain ⟨c, hc⟩ : ∃ c, cmpI (absN x) (absN y) = c := ⟨_, rfl⟩
    have cc := cmpI_cases (absN x) (absN y)
    rw [hc] at cc
    have CC := Hid.mk_ cc
    have h0 := absN_nonneg x
    have h0' := absN_nonneg y
    rcases Int.lt_or_le c 0 with hcz | hcz
    · have hle : absN x ≤ absN y := by omega
      have hz : zv gy (lval (limbs (absN y - absN x))) = x + y := by
        rw [lval_limbs (by omega)]
        have h1 := HS.out.1
        have h2 := HS.out.2
        have h3 := HX.out
        unfold zv
        cases gx
        · cases gy
          · simp at hsg
          · simp at h1 h2; simp only [Bool.false_eq_true, if_false, if_true]; omega
        · cases gy
          · simp at h1 h2; simp only [Bool.false_eq_true, if_false, if_true]; omega
          · simp at hsg
      have hle2 : (limbs (absN x)).length ≤ (limbs (absN y)).length := by
        rcases Nat.lt_or_ge (limbs (absN y)).length (limbs (absN x)).length with g | g
        · have := limbs_len_lt (absN_nonneg y) (absN_nonneg x) g; omega
        · exact g
      have hlm : (limbs (absN y - absN x)).length ≤ few := by
        have h5 : (limbs (absN y - absN x)).length ≤ (limbs (absN y)).length := by
          rcases Nat.lt_or_ge (limbs (absN y)).length (limbs (absN y - absN x)).length with g | g
          · have := limbs_len_lt (absN_nonneg y) (show 0 ≤ absN y - absN x by omega) g; omega
          · exact g
        have := HF.out; unfold few; omega
      have Hz := Hid.mk_ hz
      have HC := Hid.mk_ hc
      have mi : ∀ w', Lim w' (.slice aa n ca) (limbs (absN x)) → Lim w' (.slice ab m cb) (limbs (absN y)) → Calls Try.prog 141 #[.slice ab m cb, .slice aa n ca] w' fun e w2 => ∃ v, e = .returned v ∧ Lim w2 v (limbs (absN y - absN x)) ∧ Steps w' w2 := fun w' h1 h2 => by
        have := rminus w' h2 h1 (by have := HF.out; unfold few; omega) hle2 (by rw [HL.out.1, HL.out.2]; exact hle)
        rw [HL.out.1, HL.out.2] at this
        exact this
      have cmpc : ∀ w', Lim w' (.slice aa n ca) (limbs (absN x)) → Lim w' (.slice ab m cb) (limbs (absN y)) → Calls Try.prog 80 #[.slice aa n ca, .slice ab m cb] w' fun e w2 => e = .returned (.int .i64 c) ∧ Steps w' w2 := fun w' h1 h2 => by
        have := rcompare w' h1 h2 (absN_nonneg x) (absN_nonneg y) (by have := HF.out; unfold few; omega) (by have := HF.out; unfold few; omega)
        rw [HC.out] at this
        exact this
      have hgg : (gx == gy) = false := by simp [hs]
      clear hz hc cc hle hle2 h0 h0' hsg hs
      go_enter Try.func137, Try.ntmps137
      go_wp2_with fail
      refine (cmpc _ (pa.steps belowB) (pb.steps belowB)).mono ?_
      rintro e w1 ⟨rfl, hb1⟩
      have st : Steps _ w1 := hb1
      have Bn : Below w.heap.size w w1 := belowA st
      have na : Blk w1 (w.heap.size) 26 #[.bool gx, .slice aa n ca] := Blk.stepsA st
      have nb : Blk w1 (w.heap.size + 1) 26 #[.bool gy, .slice ab m cb] := Blk.stepsA st
      have nr : Blk w1 (w.heap.size + 1 + 1) 26 #[.bool false, .slice none 0 0] := Blk.stepsA st
      clear st
      have B := Bn
      clear Bn
      have oa := na
      clear na
      have ca0 := oa.q0
      have ca1 := oa.q1
      have fa := oa.fr
      have la := oa.lt
      have ob := nb
      clear nb
      have cb0 := ob.q0
      have cb1 := ob.q1
      have fb := ob.fr
      have lb := ob.lt
      have or := nr
      clear nr
      have cr0 := or.q0
      have cr1 := or.q1
      have fr := or.fr
      have lr := or.lt
      clear cmpc
      go_wp2_with fail
      go_region_held3 (fun w' => w'.cell? ⟨w.heap.size, 0, none⟩ = some (.bool gx) ∧ w'.cell? ⟨w.heap.size, 1, none⟩ = some (.slice aa n ca) ∧ w'.cell? ⟨w.heap.size + 1, 0, none⟩ = some (.bool gy) ∧ w'.cell? ⟨w.heap.size + 1, 1, none⟩ = some (.slice ab m cb))
        ((refine ⟨Blk.c (t := 26) (cs := #[.bool gx, .slice aa n ca]) ?_ 0 rfl, Blk.c (t := 26) (cs := #[.bool gx, .slice aa n ca]) ?_ 1 rfl, Blk.c (t := 26) (cs := #[.bool gy, .slice ab m cb]) ?_ 0 rfl, Blk.c (t := 26) (cs := #[.bool gy, .slice ab m cb]) ?_ 1 rfl⟩ <;> (repeat' first | with_reducible assumption | (with_reducible refine Blk.new' ?_; first | with_reducible rfl | (simp only [World.size_alloc, World.size_setCell, World.size_drew]; done)) | with_reducible refine Blk.alloc ?_ _ | with_reducible refine Blk.drew ?_ | with_reducible refine Blk.drewN ?_ _ | with_reducible apply Blk.both | with_reducible refine Blk.far' ?_ ?_ | (show _ ≠ _; omega))))
        (first
          | ((go_at_call 141; refine (mi _ (pa.steps belowB) (pb.steps belowB)).mono ?_; rintro e wv ⟨v1, rfl, hv1, hbv⟩; go_must (have st : Steps _ wv := hbv; have Bn : Below w.heap.size w wv := belowA st; have na : Blk wv (w.heap.size) 26 #[.bool gx, .slice aa n ca] := Blk.stepsA st; have nb : Blk wv (w.heap.size + 1) 26 #[.bool gy, .slice ab m cb] := Blk.stepsA st; have nr : Blk wv (w.heap.size + 1 + 1) 26 #[.bool false, .slice none 0 0] := Blk.stepsA st; clear B oa ob or ca0 ca1 fa la cb0 cb1 fb lb cr0 cr1 fr lr; clear st; have B := Bn; clear Bn; have oa := na; clear na; have ca0 : World.cell? wv ⟨w.heap.size, 0, none⟩ = some (.bool gx) := oa.c 0 rfl; have ca1 : World.cell? wv ⟨w.heap.size, 1, none⟩ = some (.slice aa n ca) := oa.c 1 rfl; have fa := oa.fr; have la := oa.lt; have ob := nb; clear nb; have cb0 : World.cell? wv ⟨w.heap.size + 1, 0, none⟩ = some (.bool gy) := ob.c 0 rfl; have cb1 : World.cell? wv ⟨w.heap.size + 1, 1, none⟩ = some (.slice ab m cb) := ob.c 1 rfl; have fb := ob.fr; have lb := ob.lt; have or := nr; clear nr; have cr0 : World.cell? wv ⟨w.heap.size + 1 + 1, 0, none⟩ = some (.bool false) := or.c 0 rfl; have cr1 : World.cell? wv ⟨w.heap.size + 1 + 1, 1, none⟩ = some (.slice none 0 0) := or.c 1 rfl; have fr := or.fr; have lr := or.lt)))
          | ((go_at_call 108; refine (rmadeN gy _ hv1 hlm).mono ?_; rintro e wv ⟨v2, rfl, hv2, hbv⟩; go_must (have st : Steps _ wv := hbv; have Bn : Below w.heap.size w wv := belowA st; have na : Blk wv (w.heap.size) 26 #[.bool gx, .slice aa n ca] := Blk.stepsA st; have nb : Blk wv (w.heap.size + 1) 26 #[.bool gy, .slice ab m cb] := Blk.stepsA st; have nr : Blk wv (w.heap.size + 1 + 1) 26 #[.bool false, .slice none 0 0] := Blk.stepsA st; clear B oa ob or ca0 ca1 fa la cb0 cb1 fb lb cr0 cr1 fr lr; clear st; have B := Bn; clear Bn; have oa := na; clear na; have ca0 : World.cell? wv ⟨w.heap.size, 0, none⟩ = some (.bool gx) := oa.c 0 rfl; have ca1 : World.cell? wv ⟨w.heap.size, 1, none⟩ = some (.slice aa n ca) := oa.c 1 rfl; have fa := oa.fr; have la := oa.lt; have ob := nb; clear nb; have cb0 : World.cell? wv ⟨w.heap.size + 1, 0, none⟩ = some (.bool gy) := ob.c 0 rfl; have cb1 : World.cell? wv ⟨w.heap.size + 1, 1, none⟩ = some (.slice ab m cb) := ob.c 1 rfl; have fb := ob.fr; have lb := ob.lt; have or := nr; clear nr; have cr0 : World.cell? wv ⟨w.heap.size + 1 + 1, 0, none⟩ = some (.bool false) := or.c 0 rfl; have cr1 : World.cell? wv ⟨w.heap.size + 1 + 1, 1, none⟩ = some (.slice none 0 0) := or.c 1 rfl; have fr := or.fr; have lr := or.lt; obtain ⟨bb, ao2, n2, c2, rfl⟩ := hv2.shape))))
      have HV2 := Hid.mk_ hv2
      clear hv2
      go_wp2
      refine bodyPost_ret (by simp [results, Try.results137, go_sem, ca0, ca1, fa, la, cb0, cb1, fb, lb, cr0, cr1, fr, lr]; rfl) rfl ?_
      exact ⟨_, retW rfl (by rw [Hz.out]), by have := HV2.out; rw [Hz.out] at this; exact this.put2 or, belowB⟩
    · have hle : absN y ≤ absN x := by omega
      have hz : zv gx (lval (limbs (absN x - absN y))) = x + y := by
        rw [lval_limbs (by omega)]
        have h1 := HS.out.1
        have h2 := HS.out.2
        have h3 := HX.out
        unfold zv
        cases gx
        · cases gy
          · simp at hsg
          · simp at h1 h2; simp only [Bool.false_eq_true, if_false, if_true]; omega
        · cases gy
          · simp at h1 h2; simp only [Bool.false_eq_true, if_false, if_true]; omega
          · simp at hsg
      have hle2 : (limbs (absN y)).length ≤ (limbs (absN x)).length := by
        rcases Nat.lt_or_ge (limbs (absN x)).length (limbs (absN y)).length with g | g
        · have := limbs_len_lt (absN_nonneg x) (absN_nonneg y) g; omega
        · exact g
      have hlm : (limbs (absN x - absN y)).length ≤ few := by
        have h5 : (limbs (absN x - absN y)).length ≤ (limbs (absN x)).length := by
          rcases Nat.lt_or_ge (limbs (absN x)).length (limbs (absN x - absN y)).length with g | g
          · have := limbs_len_lt (absN_nonneg x) (show 0 ≤ absN x - absN y by omega) g; omega
          · exact g
        have := HF.out; unfold few; omega
      have Hz := Hid.mk_ hz
      have HC := Hid.mk_ hc
      have mi : ∀ w', Lim w' (.slice aa n ca) (limbs (absN x)) → Lim w' (.slice ab m cb) (limbs (absN y)) → Calls Try.prog 141 #[.slice aa n ca, .slice ab m cb] w' fun e w2 => ∃ v, e = .returned v ∧ Lim w2 v (limbs (absN x - absN y)) ∧ Steps w' w2 := fun w' h1 h2 => by
        have := rminus w' h1 h2 (by have := HF.out; unfold few; omega) hle2 (by rw [HL.out.1, HL.out.2]; exact hle)
        rw [HL.out.1, HL.out.2] at this
        exact this
      have cmpc : ∀ w', Lim w' (.slice aa n ca) (limbs (absN x)) → Lim w' (.slice ab m cb) (limbs (absN y)) → Calls Try.prog 80 #[.slice aa n ca, .slice ab m cb] w' fun e w2 => e = .returned (.int .i64 c) ∧ Steps w' w2 := fun w' h1 h2 => by
        have := rcompare w' h1 h2 (absN_nonneg x) (absN_nonneg y) (by have := HF.out; unfold few; omega) (by have := HF.out; unfold few; omega)
        rw [HC.out] at this
        exact this
      have hgg : (gx == gy) = false := by simp [hs]
      clear hz hc cc hle hle2 h0 h0' hsg hs
      go_enter Try.func137, Try.ntmps137
      go_wp2_with fail
      refine (cmpc _ (pa.steps belowB) (pb.steps belowB)).mono ?_
      rintro e w1 ⟨rfl, hb1⟩
      have st : Steps _ w1 := hb1
      have Bn : Below w.heap.size w w1 := belowA st
      have na : Blk w1 (w.heap.size) 26 #[.bool gx, .slice aa n ca] := Blk.stepsA st
      have nb : Blk w1 (w.heap.size + 1) 26 #[.bool gy, .slice ab m cb] := Blk.stepsA st
      have nr : Blk w1 (w.heap.size + 1 + 1) 26 #[.bool false, .slice none 0 0] := Blk.stepsA st
      clear st
      have B := Bn
      clear Bn
      have oa := na
      clear na
      have ca0 := oa.q0
      have ca1 := oa.q1
      have fa := oa.fr
      have la := oa.lt
      have ob := nb
      clear nb
      have cb0 := ob.q0
      have cb1 := ob.q1
      have fb := ob.fr
      have lb := ob.lt
      have or := nr
      clear nr
      have cr0 := or.q0
      have cr1 := or.q1
      have fr := or.fr
      have lr := or.lt
      clear cmpc
      go_wp2_with fail
      go_region_held3 (fun w' => w'.cell? ⟨w.heap.size, 0, none⟩ = some (.bool gx) ∧ w'.cell? ⟨w.heap.size, 1, none⟩ = some (.slice aa n ca) ∧ w'.cell? ⟨w.heap.size + 1, 0, none⟩ = some (.bool gy) ∧ w'.cell? ⟨w.heap.size + 1, 1, none⟩ = some (.slice ab m cb))
        ((refine ⟨Blk.c (t := 26) (cs := #[.bool gx, .slice aa n ca]) ?_ 0 rfl, Blk.c (t := 26) (cs := #[.bool gx, .slice aa n ca]) ?_ 1 rfl, Blk.c (t := 26) (cs := #[.bool gy, .slice ab m cb]) ?_ 0 rfl, Blk.c (t := 26) (cs := #[.bool gy, .slice ab m cb]) ?_ 1 rfl⟩ <;> (repeat' first | with_reducible assumption | (with_reducible refine Blk.new' ?_; first | with_reducible rfl | (simp only [World.size_alloc, World.size_setCell, World.size_drew]; done)) | with_reducible refine Blk.alloc ?_ _ | with_reducible refine Blk.drew ?_ | with_reducible refine Blk.drewN ?_ _ | with_reducible apply Blk.both | with_reducible refine Blk.far' ?_ ?_ | (show _ ≠ _; omega))))
        (first
          | ((go_at_call 141; refine (mi _ (pa.steps belowB) (pb.steps belowB)).mono ?_; rintro e wv ⟨v1, rfl, hv1, hbv⟩; go_must (have st : Steps _ wv := hbv; have Bn : Below w.heap.size w wv := belowA st; have na : Blk wv (w.heap.size) 26 #[.bool gx, .slice aa n ca] := Blk.stepsA st; have nb : Blk wv (w.heap.size + 1) 26 #[.bool gy, .slice ab m cb] := Blk.stepsA st; have nr : Blk wv (w.heap.size + 1 + 1) 26 #[.bool false, .slice none 0 0] := Blk.stepsA st; clear B oa ob or ca0 ca1 fa la cb0 cb1 fb lb cr0 cr1 fr lr; clear st; have B := Bn; clear Bn; have oa := na; clear na; have ca0 : World.cell? wv ⟨w.heap.size, 0, none⟩ = some (.bool gx) := oa.c 0 rfl; have ca1 : World.cell? wv ⟨w.heap.size, 1, none⟩ = some (.slice aa n ca) := oa.c 1 rfl; have fa := oa.fr; have la := oa.lt; have ob := nb; clear nb; have cb0 : World.cell? wv ⟨w.heap.size + 1, 0, none⟩ = some (.bool gy) := ob.c 0 rfl; have cb1 : World.cell? wv ⟨w.heap.size + 1, 1, none⟩ = some (.slice ab m cb) := ob.c 1 rfl; have fb := ob.fr; have lb := ob.lt; have or := nr; clear nr; have cr0 : World.cell? wv ⟨w.heap.size + 1 + 1, 0, none⟩ = some (.bool false) := or.c 0 rfl; have cr1 : World.cell? wv ⟨w.heap.size + 1 + 1, 1, none⟩ = some (.slice none 0 0) := or.c 1 rfl; have fr := or.fr; have lr := or.lt)))
          | ((go_at_call 108; refine (rmadeN gx _ hv1 hlm).mono ?_; rintro e wv ⟨v2, rfl, hv2, hbv⟩; go_must (have st : Steps _ wv := hbv; have Bn : Below w.heap.size w wv := belowA st; have na : Blk wv (w.heap.size) 26 #[.bool gx, .slice aa n ca] := Blk.stepsA st; have nb : Blk wv (w.heap.size + 1) 26 #[.bool gy, .slice ab m cb] := Blk.stepsA st; have nr : Blk wv (w.heap.size + 1 + 1) 26 #[.bool false, .slice none 0 0] := Blk.stepsA st; clear B oa ob or ca0 ca1 fa la cb0 cb1 fb lb cr0 cr1 fr lr; clear st; have B := Bn; clear Bn; have oa := na; clear na; have ca0 : World.cell? wv ⟨w.heap.size, 0, none⟩ = some (.bool gx) := oa.c 0 rfl; have ca1 : World.cell? wv ⟨w.heap.size, 1, none⟩ = some (.slice aa n ca) := oa.c 1 rfl; have fa := oa.fr; have la := oa.lt; have ob := nb; clear nb; have cb0 : World.cell? wv ⟨w.heap.size + 1, 0, none⟩ = some (.bool gy) := ob.c 0 rfl; have cb1 : World.cell? wv ⟨w.heap.size + 1, 1, none⟩ = some (.slice ab m cb) := ob.c 1 rfl; have fb := ob.fr; have lb := ob.lt; have or := nr; clear nr; have cr0 : World.cell? wv ⟨w.heap.size + 1 + 1, 0, none⟩ = some (.bool false) := or.c 0 rfl; have cr1 : World.cell? wv ⟨w.heap.size + 1 + 1, 1, none⟩ = some (.slice none 0 0) := or.c 1 rfl; have fr := or.fr; have lr := or.lt; obtain ⟨bb, ao2, n2, c2, rfl⟩ := hv2.shape))))
      have HV2 := Hid.mk_ hv2
      clear hv2
      go_wp2
      refine bodyPost_ret (by simp [results, Try.results137, go_sem, ca0, ca1, fa, la, cb0, cb1, fb, lb, cr0, cr1, fr, lr]; rfl) rfl ?_
      exact ⟨_, retW rfl (by rw [Hz.out]), by have := HV2.out; rw [Hz.out] at this; exact this.put2 or, belowB⟩
end Go.Proofs.Ytibdehlmflaodaa
