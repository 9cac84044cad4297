import Derived.Test.YtibdehlmflaodaaCTl
import Derived.Test.YtibdehlmflaodaaCNd
namespace Go.Proofs.Ytibdehlmflaodaa
open Go.RowKit
set_option maxHeartbeats 1600000 in
set_option maxRecDepth 1000000 in
theorem wfrom (z : Int) (w : World) (z0 : -9223372036854775808 ≤ z) (z1 : z ≤ 9223372036854775807) :
    Calls Try.prog 89 #[.int .i64 z] w fun e w' => ∃ v, e = .returned v ∧ Num w' v z ∧ Steps w w' := by
  have hz : fits z := fits_small (by unfold absN; omega)
  rcases Int.lt_or_le z 0 with h1 | h1
  · have hd : decide (z < 0) = true := by simp [h1]
    have HZ : Hid (zv true (lval [(-z) % 4294967296, (-z) / 4294967296]) = z) := by show zv _ _ = z; simp only [zv, lval, if_true, Bool.false_eq_true, if_false]; omega
    have HE := Hid.mk_ (And.intro (errN_fits hz) (clipN_fits hz))
    clear hz
    obtain ⟨m, hm⟩ : ∃ m, -z = m := ⟨_, rfl⟩
    have hw : IntKind.u64.wrap (-IntKind.u64.wrap z) = m := by simp only [IntKind.wrap_u64]; omega
    rw [hm] at HZ
    have m0 : 0 ≤ m ∧ m ≤ 9223372036854775808 := by omega
    clear hm
    have cm : Calls Try.prog 76 #[.bool true, .slice (some ⟨w.heap.size + 1, 0, none⟩) 2 2] ((w.alloc (.cells #[.bool false, .slice none 0 0] 26)).alloc (.cells #[.int .u32 (m % 4294967296), .int .u32 (m / 4294967296)] 136)) (fun e w' => ∃ v, e = .returned (.tuple #[v, .int .i64 0]) ∧ Num w' v z ∧ Steps ((w.alloc (.cells #[.bool false, .slice none 0 0] 26)).alloc (.cells #[.int .u32 (m % 4294967296), .int .u32 (m / 4294967296)] 136)) w') := by
      have L : Lim ((w.alloc (.cells #[.bool false, .slice none 0 0] 26)).alloc (.cells #[.int .u32 (m % 4294967296), .int .u32 (m / 4294967296)] 136)) (.slice (some ⟨w.heap.size + 1, 0, none⟩) 2 2) [m % 4294967296, m / 4294967296] := Lim.of_blk' (l := [m % 4294967296, m / 4294967296]) (Blk.new1 w _ _ _) (by simp only [lok_cons]; refine ⟨⟨by omega, by omega⟩, ⟨by omega, by omega⟩, lok_nil⟩)
      have C := wmadeN true _ L (by unfold few; simp)
      rw [HZ.out, HE.out.1, HE.out.2] at C
      exact C
    go_enter Try.func89, Try.ntmps89
    go_wp2_with fail
    refine (cm).mono ?_
    rintro e w1 ⟨v1, rfl, hv1, hb1⟩
    have st : Steps _ w1 := hb1
    have Bn : Below w.heap.size w w1 := belowA st
    have nr : Blk w1 (w.heap.size) 26 #[.bool false, .slice none 0 0] := Blk.stepsA st
    clear st
    have B := Bn
    clear Bn
    have or := nr
    clear nr
    have cr0 := or.q0
    have cr1 := or.q1
    have fr := or.fr
    have lr := or.lt
    obtain ⟨bb, ao, n, c, rfl⟩ := hv1.shape
    have HV := Hid.mk_ hv1
    clear hv1
    go_wp2
    refine bodyPost_ret (by simp [results, Try.results89, go_sem, cr0, cr1, fr, lr]; rfl) rfl ?_
    exact ⟨_, rfl, (HV.out.put2 or).steps ((Below.refl _ _).alloc (Nat.le_refl _) _), belowB⟩
  · have hd : decide (z < 0) = false := by simp; omega
    have HZ : Hid (zv false (lval [z % 4294967296, z / 4294967296]) = z) := by show zv _ _ = z; simp only [zv, lval, if_true, Bool.false_eq_true, if_false]; omega
    have HE := Hid.mk_ (And.intro (errN_fits hz) (clipN_fits hz))
    clear hz
    have cm : Calls Try.prog 76 #[.bool false, .slice (some ⟨w.heap.size + 1, 0, none⟩) 2 2] ((w.alloc (.cells #[.bool false, .slice none 0 0] 26)).alloc (.cells #[.int .u32 (z % 4294967296), .int .u32 (z / 4294967296)] 136)) (fun e w' => ∃ v, e = .returned (.tuple #[v, .int .i64 0]) ∧ Num w' v z ∧ Steps ((w.alloc (.cells #[.bool false, .slice none 0 0] 26)).alloc (.cells #[.int .u32 (z % 4294967296), .int .u32 (z / 4294967296)] 136)) w') := by
      have L : Lim ((w.alloc (.cells #[.bool false, .slice none 0 0] 26)).alloc (.cells #[.int .u32 (z % 4294967296), .int .u32 (z / 4294967296)] 136)) (.slice (some ⟨w.heap.size + 1, 0, none⟩) 2 2) [z % 4294967296, z / 4294967296] := Lim.of_blk' (l := [z % 4294967296, z / 4294967296]) (Blk.new1 w _ _ _) (by simp only [lok_cons]; refine ⟨⟨by omega, by omega⟩, ⟨by omega, by omega⟩, lok_nil⟩)
      have C := wmadeN false _ L (by unfold few; simp)
      rw [HZ.out, HE.out.1, HE.out.2] at C
      exact C
    go_enter Try.func89, Try.ntmps89
    go_wp2_with fail
    refine (cm).mono ?_
    rintro e w1 ⟨v1, rfl, hv1, hb1⟩
    have st : Steps _ w1 := hb1
    have Bn : Below w.heap.size w w1 := belowA st
    have nr : Blk w1 (w.heap.size) 26 #[.bool false, .slice none 0 0] := Blk.stepsA st
    clear st
    have B := Bn
    clear Bn
    have or := nr
    clear nr
    have cr0 := or.q0
    have cr1 := or.q1
    have fr := or.fr
    have lr := or.lt
    obtain ⟨bb, ao, n, c, rfl⟩ := hv1.shape
    have HV := Hid.mk_ hv1
    clear hv1
    go_wp2
    refine bodyPost_ret (by simp [results, Try.results89, go_sem, cr0, cr1, fr, lr]; rfl) rfl ?_
    exact ⟨_, rfl, (HV.out.put2 or).steps ((Below.refl _ _).alloc (Nat.le_refl _) _), belowB⟩
end Go.Proofs.Ytibdehlmflaodaa
namespace Go.Proofs.Ytibdehlmflaodaa
open Go.RowKit
theorem zv_same {gx gy : Bool} {x y : Int} (h1 : decide (x < 0) = gx) (h2 : y = 0 ∨ decide (y < 0) = gy) (h : gx = gy) : zv gx (absN x + absN y) = x + y := by
  have X := absN_cases x
  have Y := absN_cases y
  subst h
  unfold zv
  cases gx
  · simp at h1 h2; simp only [Bool.false_eq_true, if_false]; omega
  · simp at h1 h2; simp only [if_true]; omega
theorem zv_diff1 {gx gy : Bool} {x y : Int} (h1 : decide (x < 0) = gx) (h2 : y = 0 ∨ decide (y < 0) = gy) (h : gx = !gy) (hle : absN y ≤ absN x) : zv gx (absN x - absN y) = x + y := by
  have X := absN_cases x
  have Y := absN_cases y
  unfold zv
  cases gy
  · subst h; simp at h1 h2; simp only [Bool.not_false, if_true]; omega
  · subst h; simp at h1 h2; simp only [Bool.not_true, Bool.false_eq_true, if_false]; omega
theorem zv_diff2 {gx gy : Bool} {x y : Int} (h1 : decide (x < 0) = gx) (h2 : y = 0 ∨ decide (y < 0) = gy) (h : gx = !gy) (hle : absN x < absN y) : zv gy (absN y - absN x) = x + y := by
  have X := absN_cases x
  have Y := absN_cases y
  unfold zv
  cases gy
  · subst h; simp at h1 h2; simp only [Bool.false_eq_true, if_false]; omega
  · subst h; simp at h1 h2; simp only [if_true]; omega
set_option maxHeartbeats 3200000 in
set_option maxRecDepth 1000000 in
theorem wadd_any {va sb : Value} {x y : Int} {gy : Bool} (w : World) (ha : Num w va x) (hb : Lim w sb (limbs (absN y))) (hnb : y = 0 ∨ decide (y < 0) = gy) (fx : fits x) (fy : fits y) :
    Calls Try.prog 75 #[va, .agg #[.bool gy, sb]] w fun e w' => ∃ v, e = .returned (.tuple #[v, .int .i64 (errN (x + y))]) ∧ Num w' v (clipN (x + y)) ∧ Steps w w' := by
  obtain ⟨aa, ca, rfl, pa⟩ := ha.parts
  obtain ⟨ab, cb, rfl⟩ := hb.shape
  have pb := hb
  unfold fits at fx fy
  have nx : (limbs (absN x)).length ≤ few := by unfold few; omega
  have ny : (limbs (absN y)).length ≤ few := by unfold few; omega
  have vx := lval_limbs (absN_nonneg x)
  have vy := lval_limbs (absN_nonneg y)
  obtain ⟨n, hn⟩ : ∃ n, (limbs (absN x)).length = n := ⟨_, rfl⟩
  obtain ⟨m, hm⟩ : ∃ m, (limbs (absN y)).length = m := ⟨_, rfl⟩
  have HNM : Hid ((limbs (absN x)).length = n ∧ (limbs (absN y)).length = m) := ⟨hn, hm⟩
  have HL : Hid (lval (limbs (absN x)) = absN x ∧ lval (limbs (absN y)) = absN y) := ⟨vx, vy⟩
  rw [hn] at pa ⊢
  rw [hm] at pb ⊢
  have X := absN_cases x
  have Y := absN_cases y
  obtain ⟨gx, hna⟩ : ∃ b, decide (x < 0) = b := ⟨_, rfl⟩
  rw [hna]
  have HS : Hid (decide (x < 0) = gx ∧ (y = 0 ∨ decide (y < 0) = gy)) := ⟨hna, hnb⟩
  have HX := Hid.mk_ (And.intro X Y)
  have HF := Hid.mk_ (And.intro fx fy)
  clear ha hb hn hm hna hnb X Y vx vy nx ny fx fy
  by_cases hs : gx = gy
  · subst hs
    have hz : ∀ l, lval l = lval (limbs (absN x)) + lval (limbs (absN y)) → zv gx (lval l) = x + y := fun l h => by
      rw [h, HL.out.1, HL.out.2]
      exact zv_same HS.out.1 HS.out.2 rfl
    have Hz := Hid.mk_ hz
    clear hz
    obtain ⟨c, hc⟩ : ∃ c, cmpI (absN x) (absN y) = c := ⟨_, rfl⟩
    have HC := Hid.mk_ hc
    clear hc
    have cmpc : ∀ w', Lim w' (.slice aa n ca) (limbs (absN x)) → Lim w' (.slice ab m cb) (limbs (absN y)) → Calls Try.prog 103 #[.slice aa n ca, .slice ab m cb] w' fun e w2 => e = .returned (.int .i64 c) ∧ Steps w' w2 := fun w' h1 h2 => by
      have := wcompare w' h1 h2 (absN_nonneg x) (absN_nonneg y) (by have := HF.out; unfold few; omega) (by have := HF.out; unfold few; omega)
      rw [HC.out] at this
      exact this
    go_enter Try.func75, Try.ntmps75
    go_wp2_with fail
    refine (cmpc _ (pa.steps belowB) (pb.steps belowB)).mono ?_
    rintro e w1 ⟨rfl, hb1⟩
    have st : Steps _ w1 := hb1
    have Bn : Below w.heap.size w w1 := belowA st
    have na : Blk w1 (w.heap.size) 26 #[.bool gx, .slice aa n ca] := Blk.stepsA st
    have nb : Blk w1 (w.heap.size + 1) 26 #[.bool gx, .slice ab m cb] := Blk.stepsA st
    have nr : Blk w1 (w.heap.size + 1 + 1) 26 #[.bool false, .slice none 0 0] := Blk.stepsA st
    clear st
    have B := Bn
    clear Bn
    have oa := na
    clear na
    have ca0 := oa.q0
    have ca1 := oa.q1
    have fa := oa.fr
    have la := oa.lt
    have ob := nb
    clear nb
    have cb0 := ob.q0
    have cb1 := ob.q1
    have fb := ob.fr
    have lb := ob.lt
    have or := nr
    clear nr
    have cr0 := or.q0
    have cr1 := or.q1
    have fr := or.fr
    have lr := or.lt
    clear cmpc
    go_wp2_with fail
    go_region_held3 (fun w' => w'.cell? ⟨w.heap.size, 0, none⟩ = some (.bool gx) ∧ w'.cell? ⟨w.heap.size, 1, none⟩ = some (.slice aa n ca) ∧ w'.cell? ⟨w.heap.size + 1, 0, none⟩ = some (.bool gx) ∧ w'.cell? ⟨w.heap.size + 1, 1, none⟩ = some (.slice ab m cb))
      ((refine ⟨Blk.c (t := 26) (cs := #[.bool gx, .slice aa n ca]) ?_ 0 rfl, Blk.c (t := 26) (cs := #[.bool gx, .slice aa n ca]) ?_ 1 rfl, Blk.c (t := 26) (cs := #[.bool gx, .slice ab m cb]) ?_ 0 rfl, Blk.c (t := 26) (cs := #[.bool gx, .slice ab m cb]) ?_ 1 rfl⟩ <;> (repeat' first | with_reducible assumption | (with_reducible refine Blk.new' ?_; first | with_reducible rfl | (simp only [World.size_alloc, World.size_setCell, World.size_drew]; done)) | with_reducible refine Blk.alloc ?_ _ | with_reducible refine Blk.drew ?_ | with_reducible refine Blk.drewN ?_ _ | with_reducible apply Blk.both | with_reducible refine Blk.far' ?_ ?_ | (show _ ≠ _; omega))))
      (first
        | ((go_at_call 104; refine (wplus _ (pa.steps belowB) (pb.steps belowB) (by have := HF.out; unfold few; omega) (by have := HF.out; unfold few; omega)).mono ?_; rintro e wv ⟨v1, l1, rfl, hv1, vl1, ll1, hbv⟩; have HV1 := Hid.mk_ vl1; clear vl1; go_must (have st : Steps _ wv := hbv; have Bn : Below w.heap.size w wv := belowA st; have na : Blk wv (w.heap.size) 26 #[.bool gx, .slice aa n ca] := Blk.stepsA st; have nb : Blk wv (w.heap.size + 1) 26 #[.bool gx, .slice ab m cb] := Blk.stepsA st; have nr : Blk wv (w.heap.size + 1 + 1) 26 #[.bool false, .slice none 0 0] := Blk.stepsA st; clear B oa ob or ca0 ca1 fa la cb0 cb1 fb lb cr0 cr1 fr lr; clear st; have B := Bn; clear Bn; have oa := na; clear na; have ca0 : World.cell? wv ⟨w.heap.size, 0, none⟩ = some (.bool gx) := oa.c 0 rfl; have ca1 : World.cell? wv ⟨w.heap.size, 1, none⟩ = some (.slice aa n ca) := oa.c 1 rfl; have fa := oa.fr; have la := oa.lt; have ob := nb; clear nb; have cb0 : World.cell? wv ⟨w.heap.size + 1, 0, none⟩ = some (.bool gx) := ob.c 0 rfl; have cb1 : World.cell? wv ⟨w.heap.size + 1, 1, none⟩ = some (.slice ab m cb) := ob.c 1 rfl; have fb := ob.fr; have lb := ob.lt; have or := nr; clear nr; have cr0 : World.cell? wv ⟨w.heap.size + 1 + 1, 0, none⟩ = some (.bool false) := or.c 0 rfl; have cr1 : World.cell? wv ⟨w.heap.size + 1 + 1, 1, none⟩ = some (.slice none 0 0) := or.c 1 rfl; have fr := or.fr; have lr := or.lt)))
        | ((go_at_call 76; refine (wmadeN gx _ hv1 (by have := HF.out; unfold few; omega)).mono ?_; rintro e wv ⟨v2, rfl, hv2, hbv⟩; go_must (have st : Steps _ wv := hbv; have Bn : Below w.heap.size w wv := belowA st; have na : Blk wv (w.heap.size) 26 #[.bool gx, .slice aa n ca] := Blk.stepsA st; have nb : Blk wv (w.heap.size + 1) 26 #[.bool gx, .slice ab m cb] := Blk.stepsA st; have nr : Blk wv (w.heap.size + 1 + 1) 26 #[.bool false, .slice none 0 0] := Blk.stepsA st; clear B oa ob or ca0 ca1 fa la cb0 cb1 fb lb cr0 cr1 fr lr; clear st; have B := Bn; clear Bn; have oa := na; clear na; have ca0 : World.cell? wv ⟨w.heap.size, 0, none⟩ = some (.bool gx) := oa.c 0 rfl; have ca1 : World.cell? wv ⟨w.heap.size, 1, none⟩ = some (.slice aa n ca) := oa.c 1 rfl; have fa := oa.fr; have la := oa.lt; have ob := nb; clear nb; have cb0 : World.cell? wv ⟨w.heap.size + 1, 0, none⟩ = some (.bool gx) := ob.c 0 rfl; have cb1 : World.cell? wv ⟨w.heap.size + 1, 1, none⟩ = some (.slice ab m cb) := ob.c 1 rfl; have fb := ob.fr; have lb := ob.lt; have or := nr; clear nr; have cr0 : World.cell? wv ⟨w.heap.size + 1 + 1, 0, none⟩ = some (.bool false) := or.c 0 rfl; have cr1 : World.cell? wv ⟨w.heap.size + 1 + 1, 1, none⟩ = some (.slice none 0 0) := or.c 1 rfl; have fr := or.fr; have lr := or.lt; obtain ⟨bb, ao2, n2, c2, rfl⟩ := hv2.shape))))
    have HV2 := Hid.mk_ hv2
    clear hv2
    go_wp2
    refine bodyPost_ret (by simp [results, Try.results75, go_sem, ca0, ca1, fa, la, cb0, cb1, fb, lb, cr0, cr1, fr, lr]; rfl) rfl ?_
    have e := Hz.out l1 HV1.out
    exact ⟨_, retW rfl (by rw [e]), by rw [← e]; exact HV2.out.put2 or, belowB⟩
  · have hsg : gx = !gy := by cases gx <;> cases gy <;> simp_all
    obtain ⟨c, hc⟩ : ∃ c, cmpI (absN x) (absN y) = c := ⟨_, rfl⟩
    have cc := cmpI_cases (absN x) (absN y)
    rw [hc] at cc
    have CC := Hid.mk_ cc
    have h0 := absN_nonneg x
    have h0' := absN_nonneg y
    rcases Int.lt_or_le c 0 with hcz | hcz
    · have hle : absN x ≤ absN y := by omega
      have hz : ∀ l, lval l = absN y - absN x → zv gy (lval l) = x + y := fun l hl => by
        rw [hl]
        exact zv_diff2 HS.out.1 HS.out.2 hsg (by omega)
      have hle2 : (limbs (absN x)).length ≤ (limbs (absN y)).length := by
        rcases Nat.lt_or_ge (limbs (absN y)).length (limbs (absN x)).length with g | g
        · have := limbs_len_lt (absN_nonneg y) (absN_nonneg x) g; omega
        · exact g
      have Hz := Hid.mk_ hz
      have HC := Hid.mk_ hc
      have mi : ∀ w', Lim w' (.slice aa n ca) (limbs (absN x)) → Lim w' (.slice ab m cb) (limbs (absN y)) → Calls Try.prog 105 #[.slice ab m cb, .slice aa n ca] w' fun e w2 => ∃ v l, e = .returned v ∧ Lim w2 v l ∧ Hid (lval l = absN y - absN x) ∧ l.length ≤ few ∧ Steps w' w2 := fun w' h1 h2 => by
        refine (wminus w' h2 h1 (by have := HF.out; unfold few; omega) hle2 (by rw [HL.out.1, HL.out.2]; exact hle)).mono ?_
        rintro e w2 ⟨v, l, e1, e2, e3, e4, e5⟩
        rw [HL.out.1, HL.out.2] at e3
        exact ⟨v, l, e1, e2, e3, by have := HF.out; unfold few; omega, e5⟩
      have cmpc : ∀ w', Lim w' (.slice aa n ca) (limbs (absN x)) → Lim w' (.slice ab m cb) (limbs (absN y)) → Calls Try.prog 103 #[.slice aa n ca, .slice ab m cb] w' fun e w2 => e = .returned (.int .i64 c) ∧ Steps w' w2 := fun w' h1 h2 => by
        have := wcompare w' h1 h2 (absN_nonneg x) (absN_nonneg y) (by have := HF.out; unfold few; omega) (by have := HF.out; unfold few; omega)
        rw [HC.out] at this
        exact this
      have hgg : (gx == gy) = false := by simp [hs]
      clear hz hc cc hle hle2 h0 h0' hsg hs
      go_enter Try.func75, Try.ntmps75
      go_wp2_with fail
      refine (cmpc _ (pa.steps belowB) (pb.steps belowB)).mono ?_
      rintro e w1 ⟨rfl, hb1⟩
      have st : Steps _ w1 := hb1
      have Bn : Below w.heap.size w w1 := belowA st
      have na : Blk w1 (w.heap.size) 26 #[.bool gx, .slice aa n ca] := Blk.stepsA st
      have nb : Blk w1 (w.heap.size + 1) 26 #[.bool gy, .slice ab m cb] := Blk.stepsA st
      have nr : Blk w1 (w.heap.size + 1 + 1) 26 #[.bool false, .slice none 0 0] := Blk.stepsA st
      clear st
      have B := Bn
      clear Bn
      have oa := na
      clear na
      have ca0 := oa.q0
      have ca1 := oa.q1
      have fa := oa.fr
      have la := oa.lt
      have ob := nb
      clear nb
      have cb0 := ob.q0
      have cb1 := ob.q1
      have fb := ob.fr
      have lb := ob.lt
      have or := nr
      clear nr
      have cr0 := or.q0
      have cr1 := or.q1
      have fr := or.fr
      have lr := or.lt
      clear cmpc
      go_wp2_with fail
      go_region_held3 (fun w' => w'.cell? ⟨w.heap.size, 0, none⟩ = some (.bool gx) ∧ w'.cell? ⟨w.heap.size, 1, none⟩ = some (.slice aa n ca) ∧ w'.cell? ⟨w.heap.size + 1, 0, none⟩ = some (.bool gy) ∧ w'.cell? ⟨w.heap.size + 1, 1, none⟩ = some (.slice ab m cb))
        ((refine ⟨Blk.c (t := 26) (cs := #[.bool gx, .slice aa n ca]) ?_ 0 rfl, Blk.c (t := 26) (cs := #[.bool gx, .slice aa n ca]) ?_ 1 rfl, Blk.c (t := 26) (cs := #[.bool gy, .slice ab m cb]) ?_ 0 rfl, Blk.c (t := 26) (cs := #[.bool gy, .slice ab m cb]) ?_ 1 rfl⟩ <;> (repeat' first | with_reducible assumption | (with_reducible refine Blk.new' ?_; first | with_reducible rfl | (simp only [World.size_alloc, World.size_setCell, World.size_drew]; done)) | with_reducible refine Blk.alloc ?_ _ | with_reducible refine Blk.drew ?_ | with_reducible refine Blk.drewN ?_ _ | with_reducible apply Blk.both | with_reducible refine Blk.far' ?_ ?_ | (show _ ≠ _; omega))))
        (first
          | ((go_at_call 105; refine (mi _ (pa.steps belowB) (pb.steps belowB)).mono ?_; rintro e wv ⟨v1, l1, rfl, hv1, vl1, hlm, hbv⟩; go_must (have st : Steps _ wv := hbv; have Bn : Below w.heap.size w wv := belowA st; have na : Blk wv (w.heap.size) 26 #[.bool gx, .slice aa n ca] := Blk.stepsA st; have nb : Blk wv (w.heap.size + 1) 26 #[.bool gy, .slice ab m cb] := Blk.stepsA st; have nr : Blk wv (w.heap.size + 1 + 1) 26 #[.bool false, .slice none 0 0] := Blk.stepsA st; clear B oa ob or ca0 ca1 fa la cb0 cb1 fb lb cr0 cr1 fr lr; clear st; have B := Bn; clear Bn; have oa := na; clear na; have ca0 : World.cell? wv ⟨w.heap.size, 0, none⟩ = some (.bool gx) := oa.c 0 rfl; have ca1 : World.cell? wv ⟨w.heap.size, 1, none⟩ = some (.slice aa n ca) := oa.c 1 rfl; have fa := oa.fr; have la := oa.lt; have ob := nb; clear nb; have cb0 : World.cell? wv ⟨w.heap.size + 1, 0, none⟩ = some (.bool gy) := ob.c 0 rfl; have cb1 : World.cell? wv ⟨w.heap.size + 1, 1, none⟩ = some (.slice ab m cb) := ob.c 1 rfl; have fb := ob.fr; have lb := ob.lt; have or := nr; clear nr; have cr0 : World.cell? wv ⟨w.heap.size + 1 + 1, 0, none⟩ = some (.bool false) := or.c 0 rfl; have cr1 : World.cell? wv ⟨w.heap.size + 1 + 1, 1, none⟩ = some (.slice none 0 0) := or.c 1 rfl; have fr := or.fr; have lr := or.lt)))
          | ((go_at_call 76; refine (wmadeN gy _ hv1 hlm).mono ?_; rintro e wv ⟨v2, rfl, hv2, hbv⟩; go_must (have st : Steps _ wv := hbv; have Bn : Below w.heap.size w wv := belowA st; have na : Blk wv (w.heap.size) 26 #[.bool gx, .slice aa n ca] := Blk.stepsA st; have nb : Blk wv (w.heap.size + 1) 26 #[.bool gy, .slice ab m cb] := Blk.stepsA st; have nr : Blk wv (w.heap.size + 1 + 1) 26 #[.bool false, .slice none 0 0] := Blk.stepsA st; clear B oa ob or ca0 ca1 fa la cb0 cb1 fb lb cr0 cr1 fr lr; clear st; have B := Bn; clear Bn; have oa := na; clear na; have ca0 : World.cell? wv ⟨w.heap.size, 0, none⟩ = some (.bool gx) := oa.c 0 rfl; have ca1 : World.cell? wv ⟨w.heap.size, 1, none⟩ = some (.slice aa n ca) := oa.c 1 rfl; have fa := oa.fr; have la := oa.lt; have ob := nb; clear nb; have cb0 : World.cell? wv ⟨w.heap.size + 1, 0, none⟩ = some (.bool gy) := ob.c 0 rfl; have cb1 : World.cell? wv ⟨w.heap.size + 1, 1, none⟩ = some (.slice ab m cb) := ob.c 1 rfl; have fb := ob.fr; have lb := ob.lt; have or := nr; clear nr; have cr0 : World.cell? wv ⟨w.heap.size + 1 + 1, 0, none⟩ = some (.bool false) := or.c 0 rfl; have cr1 : World.cell? wv ⟨w.heap.size + 1 + 1, 1, none⟩ = some (.slice none 0 0) := or.c 1 rfl; have fr := or.fr; have lr := or.lt; obtain ⟨bb, ao2, n2, c2, rfl⟩ := hv2.shape))))
      have HV2 := Hid.mk_ hv2
      clear hv2
      go_wp2
      refine bodyPost_ret (by simp [results, Try.results75, go_sem, ca0, ca1, fa, la, cb0, cb1, fb, lb, cr0, cr1, fr, lr]; rfl) rfl ?_
      have ez := Hz.out l1 vl1.out
      exact ⟨_, retW rfl (by rw [ez]), by have := HV2.out; rw [ez] at this; exact this.put2 or, belowB⟩
    · have hle : absN y ≤ absN x := by omega
      have hz : ∀ l, lval l = absN x - absN y → zv gx (lval l) = x + y := fun l hl => by
        rw [hl]
        exact zv_diff1 HS.out.1 HS.out.2 hsg (by omega)
      have hle2 : (limbs (absN y)).length ≤ (limbs (absN x)).length := by
        rcases Nat.lt_or_ge (limbs (absN x)).length (limbs (absN y)).length with g | g
        · have := limbs_len_lt (absN_nonneg x) (absN_nonneg y) g; omega
        · exact g
      have Hz := Hid.mk_ hz
      have HC := Hid.mk_ hc
      have mi : ∀ w', Lim w' (.slice aa n ca) (limbs (absN x)) → Lim w' (.slice ab m cb) (limbs (absN y)) → Calls Try.prog 105 #[.slice aa n ca, .slice ab m cb] w' fun e w2 => ∃ v l, e = .returned v ∧ Lim w2 v l ∧ Hid (lval l = absN x - absN y) ∧ l.length ≤ few ∧ Steps w' w2 := fun w' h1 h2 => by
        refine (wminus w' h1 h2 (by have := HF.out; unfold few; omega) hle2 (by rw [HL.out.1, HL.out.2]; exact hle)).mono ?_
        rintro e w2 ⟨v, l, e1, e2, e3, e4, e5⟩
        rw [HL.out.1, HL.out.2] at e3
        exact ⟨v, l, e1, e2, e3, by have := HF.out; unfold few; omega, e5⟩
      have cmpc : ∀ w', Lim w' (.slice aa n ca) (limbs (absN x)) → Lim w' (.slice ab m cb) (limbs (absN y)) → Calls Try.prog 103 #[.slice aa n ca, .slice ab m cb] w' fun e w2 => e = .returned (.int .i64 c) ∧ Steps w' w2 := fun w' h1 h2 => by
        have := wcompare w' h1 h2 (absN_nonneg x) (absN_nonneg y) (by have := HF.out; unfold few; omega) (by have := HF.out; unfold few; omega)
        rw [HC.out] at this
        exact this
      have hgg : (gx == gy) = false := by simp [hs]
      clear hz hc cc hle hle2 h0 h0' hsg hs
      go_enter Try.func75, Try.ntmps75
      go_wp2_with fail
      refine (cmpc _ (pa.steps belowB) (pb.steps belowB)).mono ?_
      rintro e w1 ⟨rfl, hb1⟩
      have st : Steps _ w1 := hb1
      have Bn : Below w.heap.size w w1 := belowA st
      have na : Blk w1 (w.heap.size) 26 #[.bool gx, .slice aa n ca] := Blk.stepsA st
      have nb : Blk w1 (w.heap.size + 1) 26 #[.bool gy, .slice ab m cb] := Blk.stepsA st
      have nr : Blk w1 (w.heap.size + 1 + 1) 26 #[.bool false, .slice none 0 0] := Blk.stepsA st
      clear st
      have B := Bn
      clear Bn
      have oa := na
      clear na
      have ca0 := oa.q0
      have ca1 := oa.q1
      have fa := oa.fr
      have la := oa.lt
      have ob := nb
      clear nb
      have cb0 := ob.q0
      have cb1 := ob.q1
      have fb := ob.fr
      have lb := ob.lt
      have or := nr
      clear nr
      have cr0 := or.q0
      have cr1 := or.q1
      have fr := or.fr
      have lr := or.lt
      clear cmpc
      go_wp2_with fail
      go_region_held3 (fun w' => w'.cell? ⟨w.heap.size, 0, none⟩ = some (.bool gx) ∧ w'.cell? ⟨w.heap.size, 1, none⟩ = some (.slice aa n ca) ∧ w'.cell? ⟨w.heap.size + 1, 0, none⟩ = some (.bool gy) ∧ w'.cell? ⟨w.heap.size + 1, 1, none⟩ = some (.slice ab m cb))
        ((refine ⟨Blk.c (t := 26) (cs := #[.bool gx, .slice aa n ca]) ?_ 0 rfl, Blk.c (t := 26) (cs := #[.bool gx, .slice aa n ca]) ?_ 1 rfl, Blk.c (t := 26) (cs := #[.bool gy, .slice ab m cb]) ?_ 0 rfl, Blk.c (t := 26) (cs := #[.bool gy, .slice ab m cb]) ?_ 1 rfl⟩ <;> (repeat' first | with_reducible assumption | (with_reducible refine Blk.new' ?_; first | with_reducible rfl | (simp only [World.size_alloc, World.size_setCell, World.size_drew]; done)) | with_reducible refine Blk.alloc ?_ _ | with_reducible refine Blk.drew ?_ | with_reducible refine Blk.drewN ?_ _ | with_reducible apply Blk.both | with_reducible refine Blk.far' ?_ ?_ | (show _ ≠ _; omega))))
        (first
          | ((go_at_call 105; refine (mi _ (pa.steps belowB) (pb.steps belowB)).mono ?_; rintro e wv ⟨v1, l1, rfl, hv1, vl1, hlm, hbv⟩; go_must (have st : Steps _ wv := hbv; have Bn : Below w.heap.size w wv := belowA st; have na : Blk wv (w.heap.size) 26 #[.bool gx, .slice aa n ca] := Blk.stepsA st; have nb : Blk wv (w.heap.size + 1) 26 #[.bool gy, .slice ab m cb] := Blk.stepsA st; have nr : Blk wv (w.heap.size + 1 + 1) 26 #[.bool false, .slice none 0 0] := Blk.stepsA st; clear B oa ob or ca0 ca1 fa la cb0 cb1 fb lb cr0 cr1 fr lr; clear st; have B := Bn; clear Bn; have oa := na; clear na; have ca0 : World.cell? wv ⟨w.heap.size, 0, none⟩ = some (.bool gx) := oa.c 0 rfl; have ca1 : World.cell? wv ⟨w.heap.size, 1, none⟩ = some (.slice aa n ca) := oa.c 1 rfl; have fa := oa.fr; have la := oa.lt; have ob := nb; clear nb; have cb0 : World.cell? wv ⟨w.heap.size + 1, 0, none⟩ = some (.bool gy) := ob.c 0 rfl; have cb1 : World.cell? wv ⟨w.heap.size + 1, 1, none⟩ = some (.slice ab m cb) := ob.c 1 rfl; have fb := ob.fr; have lb := ob.lt; have or := nr; clear nr; have cr0 : World.cell? wv ⟨w.heap.size + 1 + 1, 0, none⟩ = some (.bool false) := or.c 0 rfl; have cr1 : World.cell? wv ⟨w.heap.size + 1 + 1, 1, none⟩ = some (.slice none 0 0) := or.c 1 rfl; have fr := or.fr; have lr := or.lt)))
          | ((go_at_call 76; refine (wmadeN gx _ hv1 hlm).mono ?_; rintro e wv ⟨v2, rfl, hv2, hbv⟩; go_must (have st : Steps _ wv := hbv; have Bn : Below w.heap.size w wv := belowA st; have na : Blk wv (w.heap.size) 26 #[.bool gx, .slice aa n ca] := Blk.stepsA st; have nb : Blk wv (w.heap.size + 1) 26 #[.bool gy, .slice ab m cb] := Blk.stepsA st; have nr : Blk wv (w.heap.size + 1 + 1) 26 #[.bool false, .slice none 0 0] := Blk.stepsA st; clear B oa ob or ca0 ca1 fa la cb0 cb1 fb lb cr0 cr1 fr lr; clear st; have B := Bn; clear Bn; have oa := na; clear na; have ca0 : World.cell? wv ⟨w.heap.size, 0, none⟩ = some (.bool gx) := oa.c 0 rfl; have ca1 : World.cell? wv ⟨w.heap.size, 1, none⟩ = some (.slice aa n ca) := oa.c 1 rfl; have fa := oa.fr; have la := oa.lt; have ob := nb; clear nb; have cb0 : World.cell? wv ⟨w.heap.size + 1, 0, none⟩ = some (.bool gy) := ob.c 0 rfl; have cb1 : World.cell? wv ⟨w.heap.size + 1, 1, none⟩ = some (.slice ab m cb) := ob.c 1 rfl; have fb := ob.fr; have lb := ob.lt; have or := nr; clear nr; have cr0 : World.cell? wv ⟨w.heap.size + 1 + 1, 0, none⟩ = some (.bool false) := or.c 0 rfl; have cr1 : World.cell? wv ⟨w.heap.size + 1 + 1, 1, none⟩ = some (.slice none 0 0) := or.c 1 rfl; have fr := or.fr; have lr := or.lt; obtain ⟨bb, ao2, n2, c2, rfl⟩ := hv2.shape))))
      have HV2 := Hid.mk_ hv2
      clear hv2
      go_wp2
      refine bodyPost_ret (by simp [results, Try.results75, go_sem, ca0, ca1, fa, la, cb0, cb1, fb, lb, cr0, cr1, fr, lr]; rfl) rfl ?_
      have ez := Hz.out l1 vl1.out
      exact ⟨_, retW rfl (by rw [ez]), by have := HV2.out; rw [ez] at this; exact this.put2 or, belowB⟩
theorem wadd {va vb : Value} {x y : Int} (w : World) (ha : Num w va x) (hb : Num w vb y) (fx : fits x) (fy : fits y) :
    Calls Try.prog 75 #[va, vb] w fun e w' => ∃ v, e = .returned (.tuple #[v, .int .i64 (errN (x + y))]) ∧ Num w' v (clipN (x + y)) ∧ Steps w w' := by
  obtain ⟨sb, rfl, pb⟩ := hb
  exact wadd_any w ha pb (.inr rfl) fx fy
end Go.Proofs.Ytibdehlmflaodaa
