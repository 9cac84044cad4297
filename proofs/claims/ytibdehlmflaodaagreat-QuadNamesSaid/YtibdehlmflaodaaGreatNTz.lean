import Derived.Test.YtibdehlmflaodaaGreatNTw
import Derived.Test.YtibdehlmflaodaaGreatNNg
import Derived.Deep.RegionWith
import Derived.Deep.QuietTactic
import Derived.BigQuiet
import Derived.Test.YtibdehlmflaodaaGreatNReg
set_option linter.unusedVariables false
set_option linter.unusedSimpArgs false
set_option maxHeartbeats 6400000
set_option maxRecDepth 1000000
namespace Go.Proofs.YtibdehlmflaodaaGreat
open Go.RowKit
theorem fcheck (gx gy : Bool) {sa sb : Value} {la lb : List Int} (w : World) (ha : Lim w sa la) (hb : Lim w sb lb) :
  Calls Tryz.prog 22 #[.agg #[.bool gx, sa, .bool gy, sb]] w fun e w' => e = .returned (.int .i64 (errC (validF gx la gy lb))) ∧ Steps w w' := by
 have gb : ¬ (valid gx la ∧ valid gy lb) → ∀ w', Steps w w' → Calls Tryz.prog 42 #[.agg #[.bool gx, sa], .agg #[.bool gy, sb]] w' fun e w2 => e = .returned (.tuple #[.agg #[.bool false, .slice none 0 0], .int .i64 8]) ∧ Steps w' w2 := fun hv w' h => gcd_bad gx gy w' (ha.steps h) (hb.steps h) hv
 have gc : valid gx la → valid gy lb → ∀ w', Steps w w' → Calls Tryz.prog 42 #[.agg #[.bool gx, sa], .agg #[.bool gy, sb]] w' fun e w2 => ∃ v, e = .returned (.tuple #[v, .int .i64 0]) ∧ Num w2 v (gcdI (zv gx (lval la)) (zv gy (lval lb))) ∧ fits (gcdI (zv gx (lval la)) (zv gy (lval lb))) ∧ Steps w' w2 := fun va vb w' h =>
  wgcd w' (valid_num (ha.steps h) va) (valid_num (hb.steps h) vb) (valid_fits ha.ok va) (valid_fits hb.ok vb)
 have zr : valid gy lb → ∀ w', Steps w w' → Calls Tryz.prog 43 #[.agg #[.bool gy, sb]] w' fun e w2 => e = .returned (.bool (decide (zv gy (lval lb) = 0))) ∧ Steps w' w2 := fun vb w' h => fzero w' (valid_num (hb.steps h) vb)
 have hz0 : valid gy lb → (zv gy (lval lb) = 0 ↔ lb = []) := fun vb => by
  have h1 := lval_nonneg hb.ok
  have h2 := limbs_lval hb.ok
  rw [vb.2.1] at h2
  have h3 := limbs_nil h1
  rw [h2] at h3
  rw [h3]
  unfold zv
  split <;> omega
 obtain ⟨aa, ca, rfl⟩ := ha.shape
 obtain ⟨ab, cb, rfl⟩ := hb.shape
 obtain ⟨n, hn⟩ : ∃ n, la.length = n := ⟨_, rfl⟩
 obtain ⟨m, hm⟩ : ∃ m, lb.length = m := ⟨_, rfl⟩
 rw [hn] at gb gc ⊢
 rw [hm] at gb gc zr ⊢
 have hm0 : m = 0 ↔ lb = [] := by rw [← hm]; exact List.length_eq_zero_iff
 clear ha hb hn hm
 by_cases hv : valid gx la ∧ valid gy lb
 ·
  obtain ⟨h1, h2⟩ := hv
  have gc' := gc h1 h2
  have zr' := zr h2
  have hz := hz0 h2
  clear gc gb zr hz0
  cases gy with
  | true =>
   have H : Hid (errC (validF gx la true lb) = 8) := if_neg (fun h => by have := h.2.2.1; cases this)
   clear h1 h2 hm0 zr' hz
   go_enter Tryz.func22, Tryz.ntmps22
   go_wp2_with fail
   refine (gc' _ belowB).mono ?_
   rintro e w1 ⟨vg, rfl, hng, fitG, hb1⟩
   have st : Steps _ w1 := hb1
   have Bn : Below w.heap.size w w1 := belowA st
   have of : Blk w1 (w.heap.size) 30 #[.bool gx, .slice aa n ca, .bool true, .slice ab m cb] := Blk.stepsA st
   clear st
   have B := Bn
   clear Bn
   obtain ⟨cf0, cf1, cf2, cf3, ff, lf⟩ := of.s3
   clear gc'
   obtain ⟨bg, ag, ng, cg, rfl⟩ := hng.shape
   have NG := Hid.mk_ hng
   clear hng
   have hf3 : w.heap.size < w1.heap.size := of.lt
   go_wp2_with fail
   go_quiet (fail)
   go_wp2
   go_returns
   exact ⟨retI H.out.symm, belowB⟩
  | false =>
   by_cases h0 : lb = []
   ·
    have H : Hid (errC (validF gx la false lb) = 8) := if_neg (fun h => h.2.2.2.1 h0)
    simp only [decide_eq_true (hz.2 h0)] at zr'
    clear h1 h2 hm0 hz h0
    go_enter Tryz.func22, Tryz.ntmps22
    go_wp2_with fail
    refine (gc' _ belowB).mono ?_
    rintro e w1 ⟨vg, rfl, hng, fitG, hb1⟩
    have st : Steps _ w1 := hb1
    have Bn : Below w.heap.size w w1 := belowA st
    have of : Blk w1 (w.heap.size) 30 #[.bool gx, .slice aa n ca, .bool false, .slice ab m cb] := Blk.stepsA st
    clear st
    have B := Bn
    clear Bn
    obtain ⟨cf0, cf1, cf2, cf3, ff, lf⟩ := of.s3
    clear gc'
    obtain ⟨bg, ag, ng, cg, rfl⟩ := hng.shape
    have NG := Hid.mk_ hng
    clear hng
    have hf3 : w.heap.size < w1.heap.size := of.lt
    go_wp2_with fail
    go_region_with (go_at_call 43; refine (zr' _ belowB).mono ?_; rintro e wv ⟨rfl, hbv⟩; go_must (have st : Steps _ wv := hbv; have Bn : Below w.heap.size w wv := belowA st; have nf : Blk wv (w.heap.size) 30 #[.bool gx, .slice aa n ca, .bool false, .slice ab m cb] := Blk.stepsA st; have ng : Blk wv (w1.heap.size) 28 #[.bool bg, .slice ag ng cg] := Blk.stepsA st; clear B of cf0 cf1 cf2 cf3 ff lf; clear st; have B := Bn; clear Bn; have of := nf; clear nf; have cf0 : World.cell? wv ⟨w.heap.size, 0, none⟩ = some (.bool gx) := of.c 0 rfl; have cf1 : World.cell? wv ⟨w.heap.size, 1, none⟩ = some (.slice aa n ca) := of.c 1 rfl; have cf2 : World.cell? wv ⟨w.heap.size, 2, none⟩ = some (.bool false) := of.c 2 rfl; have cf3 : World.cell? wv ⟨w.heap.size, 3, none⟩ = some (.slice ab m cb) := of.c 3 rfl; have ff := of.fr; have lf := of.lt; have og := ng; clear ng; have cg0 : World.cell? wv ⟨w1.heap.size, 0, none⟩ = some (.bool bg) := og.c 0 rfl; have cg1 : World.cell? wv ⟨w1.heap.size, 1, none⟩ = some (.slice ag ng cg) := og.c 1 rfl; have fg := og.fr; have lg := og.lt))
    all_goals (go_wp2; go_returns; exact ⟨retI H.out.symm, belowB⟩)
   ·
    have HV : errC (validF gx la false lb) = if gcdI (zv gx (lval la)) (zv false (lval lb)) = 1 then 0 else 8 := by
     by_cases hg : gcdI (zv gx (lval la)) (zv false (lval lb)) = 1
     · rw [if_pos hg]; exact if_pos ⟨h1, h2, rfl, h0, hg⟩
     · rw [if_neg hg]; exact if_neg (fun h => hg h.2.2.2.2)
    simp only [decide_eq_false (fun e => h0 (hz.1 e))] at zr'
    obtain ⟨G, hG⟩ : ∃ G, gcdI (zv gx (lval la)) (zv false (lval lb)) = G := ⟨_, rfl⟩
    rw [hG] at gc' HV
    clear h1 h2 hm0 hG h0 hz
    have sm : ∀ w' va vb, Num w' va G → Num w' vb 1 → fits G → Calls Tryz.prog 44 #[va, vb] w' fun e w2 => e = .returned (.bool (decide (G = 1))) ∧ Steps w' w2 := fun w' va vb h1 h2 h3 => fsame w' h1 h2 h3 (fits_small (by unfold absN; omega))
    by_cases hg : G = 1
    ·
     rw [if_pos hg] at HV
     have H := Hid.mk_ HV
     simp only [decide_eq_true hg] at sm
     clear HV hg
     go_enter Tryz.func22, Tryz.ntmps22
     go_wp2_with fail
     refine (gc' _ belowB).mono ?_
     rintro e w1 ⟨vg, rfl, hng, fitG, hb1⟩
     have st : Steps _ w1 := hb1
     have Bn : Below w.heap.size w w1 := belowA st
     have of : Blk w1 (w.heap.size) 30 #[.bool gx, .slice aa n ca, .bool false, .slice ab m cb] := Blk.stepsA st
     clear st
     have B := Bn
     clear Bn
     obtain ⟨cf0, cf1, cf2, cf3, ff, lf⟩ := of.s3
     clear gc'
     obtain ⟨bg, ag, ng, cg, rfl⟩ := hng.shape
     have NG := Hid.mk_ hng
     clear hng
     have hf3 : w.heap.size < w1.heap.size := of.lt
     go_wp2_with fail
     go_region_held3 (fun w' => w'.cell? ⟨w.heap.size, 0, none⟩ = some (.bool gx) ∧ w'.cell? ⟨w.heap.size, 1, none⟩ = some (.slice aa n ca) ∧ w'.cell? ⟨w.heap.size, 2, none⟩ = some (.bool false) ∧ w'.cell? ⟨w.heap.size, 3, none⟩ = some (.slice ab m cb) ∧ w'.cell? ⟨w1.heap.size, 0, none⟩ = some (.bool bg) ∧ w'.cell? ⟨w1.heap.size, 1, none⟩ = some (.slice ag ng cg))
      ((refine ⟨Blk.c (t := 30) (cs := #[.bool gx, .slice aa n ca, .bool false, .slice ab m cb]) ?_ 0 rfl, Blk.c (t := 30) (cs := #[.bool gx, .slice aa n ca, .bool false, .slice ab m cb]) ?_ 1 rfl, Blk.c (t := 30) (cs := #[.bool gx, .slice aa n ca, .bool false, .slice ab m cb]) ?_ 2 rfl, Blk.c (t := 30) (cs := #[.bool gx, .slice aa n ca, .bool false, .slice ab m cb]) ?_ 3 rfl, Blk.c (t := 28) (cs := #[.bool bg, .slice ag ng cg]) ?_ 0 rfl, Blk.c (t := 28) (cs := #[.bool bg, .slice ag ng cg]) ?_ 1 rfl⟩ <;> (repeat' first | with_reducible assumption | (with_reducible refine Blk.new' ?_; first | with_reducible rfl | (simp only [World.size_alloc, World.size_setCell, World.size_drew]; done)) | with_reducible refine Blk.alloc ?_ _ | with_reducible refine Blk.drew ?_ | with_reducible refine Blk.drewN ?_ _ | with_reducible apply Blk.both | with_reducible refine Blk.far' ?_ ?_ | (show _ ≠ _; omega))))
      (first
       | ((go_at_call 43; refine (zr' _ belowB).mono ?_; rintro e wv ⟨rfl, hbv⟩; go_must (have NG1 := Hid.mk_ (NG.out.steps (((Below.refl _ _).alloc (Nat.le_refl _) _).drew.trans (hbv.mono (by simp)))); have st : Steps _ wv := hbv; have Bn : Below w.heap.size w wv := belowA st; have nf : Blk wv (w.heap.size) 30 #[.bool gx, .slice aa n ca, .bool false, .slice ab m cb] := Blk.stepsA st; have ng : Blk wv (w1.heap.size) 28 #[.bool bg, .slice ag ng cg] := Blk.stepsA st; clear B of cf0 cf1 cf2 cf3 ff lf; clear st; have B := Bn; clear Bn; have of := nf; clear nf; have cf0 : World.cell? wv ⟨w.heap.size, 0, none⟩ = some (.bool gx) := of.c 0 rfl; have cf1 : World.cell? wv ⟨w.heap.size, 1, none⟩ = some (.slice aa n ca) := of.c 1 rfl; have cf2 : World.cell? wv ⟨w.heap.size, 2, none⟩ = some (.bool false) := of.c 2 rfl; have cf3 : World.cell? wv ⟨w.heap.size, 3, none⟩ = some (.slice ab m cb) := of.c 3 rfl; have ff := of.fr; have lf := of.lt; have og := ng; clear ng; have cg0 : World.cell? wv ⟨w1.heap.size, 0, none⟩ = some (.bool bg) := og.c 0 rfl; have cg1 : World.cell? wv ⟨w1.heap.size, 1, none⟩ = some (.slice ag ng cg) := og.c 1 rfl; have fg := og.fr; have lg := og.lt; have Z1 := Hid.mk_ (And.intro hbv trivial))))
       | ((go_at_call 45; refine (fone _).mono ?_; rintro e wv ⟨vo, rfl, hno, hbv⟩; go_must (have NG2 := Hid.mk_ (NG1.out.steps hbv); have st : Steps _ wv := hbv; have Bn : Below w.heap.size w wv := belowA st; have nf : Blk wv (w.heap.size) 30 #[.bool gx, .slice aa n ca, .bool false, .slice ab m cb] := Blk.stepsA st; have ng : Blk wv (w1.heap.size) 28 #[.bool bg, .slice ag ng cg] := Blk.stepsA st; clear B of og cf0 cf1 cf2 cf3 ff lf cg0 cg1 fg lg; clear st; have B := Bn; clear Bn; have of := nf; clear nf; have cf0 : World.cell? wv ⟨w.heap.size, 0, none⟩ = some (.bool gx) := of.c 0 rfl; have cf1 : World.cell? wv ⟨w.heap.size, 1, none⟩ = some (.slice aa n ca) := of.c 1 rfl; have cf2 : World.cell? wv ⟨w.heap.size, 2, none⟩ = some (.bool false) := of.c 2 rfl; have cf3 : World.cell? wv ⟨w.heap.size, 3, none⟩ = some (.slice ab m cb) := of.c 3 rfl; have ff := of.fr; have lf := of.lt; have og := ng; clear ng; have cg0 : World.cell? wv ⟨w1.heap.size, 0, none⟩ = some (.bool bg) := og.c 0 rfl; have cg1 : World.cell? wv ⟨w1.heap.size, 1, none⟩ = some (.slice ag ng cg) := og.c 1 rfl; have fg := og.fr; have lg := og.lt; obtain ⟨bo', ao', no', co', rfl⟩ := hno.shape; have NO := Hid.mk_ hno; clear hno)))
       | ((go_at_call 44; refine (sm _ _ _ NG2.out NO.out fitG).mono ?_; rintro e wv ⟨rfl, hbv⟩; go_must (have st : Steps _ wv := hbv; have Bn : Below w.heap.size w wv := belowA st; have nf : Blk wv (w.heap.size) 30 #[.bool gx, .slice aa n ca, .bool false, .slice ab m cb] := Blk.stepsA st; have ng : Blk wv (w1.heap.size) 28 #[.bool bg, .slice ag ng cg] := Blk.stepsA st; clear B of og cf0 cf1 cf2 cf3 ff lf cg0 cg1 fg lg; clear st; have B := Bn; clear Bn; have of := nf; clear nf; have cf0 : World.cell? wv ⟨w.heap.size, 0, none⟩ = some (.bool gx) := of.c 0 rfl; have cf1 : World.cell? wv ⟨w.heap.size, 1, none⟩ = some (.slice aa n ca) := of.c 1 rfl; have cf2 : World.cell? wv ⟨w.heap.size, 2, none⟩ = some (.bool false) := of.c 2 rfl; have cf3 : World.cell? wv ⟨w.heap.size, 3, none⟩ = some (.slice ab m cb) := of.c 3 rfl; have ff := of.fr; have lf := of.lt; have og := ng; clear ng; have cg0 : World.cell? wv ⟨w1.heap.size, 0, none⟩ = some (.bool bg) := og.c 0 rfl; have cg1 : World.cell? wv ⟨w1.heap.size, 1, none⟩ = some (.slice ag ng cg) := og.c 1 rfl; have fg := og.fr; have lg := og.lt))))
     go_wp2
     go_returns
     exact ⟨retI H.out.symm, belowB⟩
    ·
     rw [if_neg hg] at HV
     have H := Hid.mk_ HV
     simp only [decide_eq_false hg] at sm
     clear HV hg
     go_enter Tryz.func22, Tryz.ntmps22
     go_wp2_with fail
     refine (gc' _ belowB).mono ?_
     rintro e w1 ⟨vg, rfl, hng, fitG, hb1⟩
     have st : Steps _ w1 := hb1
     have Bn : Below w.heap.size w w1 := belowA st
     have of : Blk w1 (w.heap.size) 30 #[.bool gx, .slice aa n ca, .bool false, .slice ab m cb] := Blk.stepsA st
     clear st
     have B := Bn
     clear Bn
     obtain ⟨cf0, cf1, cf2, cf3, ff, lf⟩ := of.s3
     clear gc'
     obtain ⟨bg, ag, ng, cg, rfl⟩ := hng.shape
     have NG := Hid.mk_ hng
     clear hng
     have hf3 : w.heap.size < w1.heap.size := of.lt
     go_wp2_with fail
     go_region_held3 (fun w' => w'.cell? ⟨w.heap.size, 0, none⟩ = some (.bool gx) ∧ w'.cell? ⟨w.heap.size, 1, none⟩ = some (.slice aa n ca) ∧ w'.cell? ⟨w.heap.size, 2, none⟩ = some (.bool false) ∧ w'.cell? ⟨w.heap.size, 3, none⟩ = some (.slice ab m cb) ∧ w'.cell? ⟨w1.heap.size, 0, none⟩ = some (.bool bg) ∧ w'.cell? ⟨w1.heap.size, 1, none⟩ = some (.slice ag ng cg))
      ((refine ⟨Blk.c (t := 30) (cs := #[.bool gx, .slice aa n ca, .bool false, .slice ab m cb]) ?_ 0 rfl, Blk.c (t := 30) (cs := #[.bool gx, .slice aa n ca, .bool false, .slice ab m cb]) ?_ 1 rfl, Blk.c (t := 30) (cs := #[.bool gx, .slice aa n ca, .bool false, .slice ab m cb]) ?_ 2 rfl, Blk.c (t := 30) (cs := #[.bool gx, .slice aa n ca, .bool false, .slice ab m cb]) ?_ 3 rfl, Blk.c (t := 28) (cs := #[.bool bg, .slice ag ng cg]) ?_ 0 rfl, Blk.c (t := 28) (cs := #[.bool bg, .slice ag ng cg]) ?_ 1 rfl⟩ <;> (repeat' first | with_reducible assumption | (with_reducible refine Blk.new' ?_; first | with_reducible rfl | (simp only [World.size_alloc, World.size_setCell, World.size_drew]; done)) | with_reducible refine Blk.alloc ?_ _ | with_reducible refine Blk.drew ?_ | with_reducible refine Blk.drewN ?_ _ | with_reducible apply Blk.both | with_reducible refine Blk.far' ?_ ?_ | (show _ ≠ _; omega))))
      (first
       | ((go_at_call 43; refine (zr' _ belowB).mono ?_; rintro e wv ⟨rfl, hbv⟩; go_must (have NG1 := Hid.mk_ (NG.out.steps (((Below.refl _ _).alloc (Nat.le_refl _) _).drew.trans (hbv.mono (by simp)))); have st : Steps _ wv := hbv; have Bn : Below w.heap.size w wv := belowA st; have nf : Blk wv (w.heap.size) 30 #[.bool gx, .slice aa n ca, .bool false, .slice ab m cb] := Blk.stepsA st; have ng : Blk wv (w1.heap.size) 28 #[.bool bg, .slice ag ng cg] := Blk.stepsA st; clear B of cf0 cf1 cf2 cf3 ff lf; clear st; have B := Bn; clear Bn; have of := nf; clear nf; have cf0 : World.cell? wv ⟨w.heap.size, 0, none⟩ = some (.bool gx) := of.c 0 rfl; have cf1 : World.cell? wv ⟨w.heap.size, 1, none⟩ = some (.slice aa n ca) := of.c 1 rfl; have cf2 : World.cell? wv ⟨w.heap.size, 2, none⟩ = some (.bool false) := of.c 2 rfl; have cf3 : World.cell? wv ⟨w.heap.size, 3, none⟩ = some (.slice ab m cb) := of.c 3 rfl; have ff := of.fr; have lf := of.lt; have og := ng; clear ng; have cg0 : World.cell? wv ⟨w1.heap.size, 0, none⟩ = some (.bool bg) := og.c 0 rfl; have cg1 : World.cell? wv ⟨w1.heap.size, 1, none⟩ = some (.slice ag ng cg) := og.c 1 rfl; have fg := og.fr; have lg := og.lt; have Z1 := Hid.mk_ (And.intro hbv trivial))))
       | ((go_at_call 45; refine (fone _).mono ?_; rintro e wv ⟨vo, rfl, hno, hbv⟩; go_must (have NG2 := Hid.mk_ (NG1.out.steps hbv); have st : Steps _ wv := hbv; have Bn : Below w.heap.size w wv := belowA st; have nf : Blk wv (w.heap.size) 30 #[.bool gx, .slice aa n ca, .bool false, .slice ab m cb] := Blk.stepsA st; have ng : Blk wv (w1.heap.size) 28 #[.bool bg, .slice ag ng cg] := Blk.stepsA st; clear B of og cf0 cf1 cf2 cf3 ff lf cg0 cg1 fg lg; clear st; have B := Bn; clear Bn; have of := nf; clear nf; have cf0 : World.cell? wv ⟨w.heap.size, 0, none⟩ = some (.bool gx) := of.c 0 rfl; have cf1 : World.cell? wv ⟨w.heap.size, 1, none⟩ = some (.slice aa n ca) := of.c 1 rfl; have cf2 : World.cell? wv ⟨w.heap.size, 2, none⟩ = some (.bool false) := of.c 2 rfl; have cf3 : World.cell? wv ⟨w.heap.size, 3, none⟩ = some (.slice ab m cb) := of.c 3 rfl; have ff := of.fr; have lf := of.lt; have og := ng; clear ng; have cg0 : World.cell? wv ⟨w1.heap.size, 0, none⟩ = some (.bool bg) := og.c 0 rfl; have cg1 : World.cell? wv ⟨w1.heap.size, 1, none⟩ = some (.slice ag ng cg) := og.c 1 rfl; have fg := og.fr; have lg := og.lt; obtain ⟨bo', ao', no', co', rfl⟩ := hno.shape; have NO := Hid.mk_ hno; clear hno)))
       | ((go_at_call 44; refine (sm _ _ _ NG2.out NO.out fitG).mono ?_; rintro e wv ⟨rfl, hbv⟩; go_must (have st : Steps _ wv := hbv; have Bn : Below w.heap.size w wv := belowA st; have nf : Blk wv (w.heap.size) 30 #[.bool gx, .slice aa n ca, .bool false, .slice ab m cb] := Blk.stepsA st; have ng : Blk wv (w1.heap.size) 28 #[.bool bg, .slice ag ng cg] := Blk.stepsA st; clear B of og cf0 cf1 cf2 cf3 ff lf cg0 cg1 fg lg; clear st; have B := Bn; clear Bn; have of := nf; clear nf; have cf0 : World.cell? wv ⟨w.heap.size, 0, none⟩ = some (.bool gx) := of.c 0 rfl; have cf1 : World.cell? wv ⟨w.heap.size, 1, none⟩ = some (.slice aa n ca) := of.c 1 rfl; have cf2 : World.cell? wv ⟨w.heap.size, 2, none⟩ = some (.bool false) := of.c 2 rfl; have cf3 : World.cell? wv ⟨w.heap.size, 3, none⟩ = some (.slice ab m cb) := of.c 3 rfl; have ff := of.fr; have lf := of.lt; have og := ng; clear ng; have cg0 : World.cell? wv ⟨w1.heap.size, 0, none⟩ = some (.bool bg) := og.c 0 rfl; have cg1 : World.cell? wv ⟨w1.heap.size, 1, none⟩ = some (.slice ag ng cg) := og.c 1 rfl; have fg := og.fr; have lg := og.lt))))
     go_wp2
     go_returns
     exact ⟨retI H.out.symm, belowB⟩
 ·
  have H : Hid (errC (validF gx la gy lb) = 8) := if_neg (fun h => hv ⟨h.1, h.2.1⟩)
  have gb' := gb hv
  clear gb gc zr hz0 hv hm0
  go_enter Tryz.func22, Tryz.ntmps22
  go_wp2_with fail
  refine (gb' _ belowB).mono ?_
  rintro e w1 ⟨rfl, hb1⟩
  have st : Steps _ w1 := hb1
  have Bn : Below w.heap.size w w1 := belowA st
  have of : Blk w1 (w.heap.size) 30 #[.bool gx, .slice aa n ca, .bool gy, .slice ab m cb] := Blk.stepsA st
  clear st
  have B := Bn
  clear Bn
  obtain ⟨cf0, cf1, cf2, cf3, ff, lf⟩ := of.s3
  clear gb'
  go_wp2_with fail
  go_quiet (fail)
  go_wp2
  go_returns
  exact ⟨retI H.out.symm, belowB⟩
def Frc (w : World) (v : Value) (p q : Int) : Prop := ∃ sp sq, v = .agg #[.bool (decide (p < 0)), sp, .bool false, sq] ∧ Lim w sp (limbs (absN p)) ∧ Lim w sq (limbs q) ∧ 0 < q ∧ gcdI p q = 1 ∧ fits p ∧ fits q
theorem Frc.steps {w w' : World} {v : Value} {p q : Int} (h : Frc w v p q) (hs : Steps w w') : Frc w' v p q := by
 obtain ⟨sp, sq, e, l1, l2, h⟩ := h
 exact ⟨sp, sq, e, l1.steps hs, l2.steps hs, h⟩
theorem zv_self (p : Int) : zv (decide (p < 0)) (absN p) = p := by
 unfold zv absN
 by_cases h : p < 0
 · rw [decide_eq_true h]; simp; omega
 · rw [decide_eq_false h]; simp; omega
theorem validF_of {p q : Int} (q0 : 0 < q) (hg : gcdI p q = 1) (fp : fits p) (fq : fits q) : validF (decide (p < 0)) (limbs (absN p)) false (limbs q) := by
 have v2 := valid_of fq
 rw [decide_eq_false (by omega), absN_of (by omega)] at v2
 refine ⟨valid_of fp, v2, rfl, fun e => by have := (limbs_nil (by omega)).1 e; omega, ?_⟩
 rw [lval_limbs (absN_nonneg p), lval_limbs (by omega), zv_self]
 exact hg
theorem fcheck_ok {v : Value} {p q : Int} (w : World) (h : Frc w v p q) : Calls Tryz.prog 22 #[v] w fun e w' => e = .returned (.int .i64 0) ∧ Steps w w' := by
 obtain ⟨sp, sq, rfl, l1, l2, q0, hg, fp, fq⟩ := h
 have := fcheck (decide (p < 0)) false w l1 l2
 rw [errC_eq, if_pos (validF_of q0 hg fp fq)] at this
 exact this
def ofI (p q : Int) : Int × Int × Int := md (divF (p * 1099511627776) q) (divF (p * 1099511627776) q + if 0 < modF (p * 1099511627776) q then 1 else 0)
def whI (n : Int) : Int × Int × Int := if n < -2097152 ∨ 2097152 < n then (0, 0, 16) else (n * 1099511627776, n * 1099511627776, 0)
theorem divmod_is {x y L r : Int} (h0 : 0 ≤ r) (h1 : r < y) (h : L * y + r = x) : divF x y = L ∧ modF x y = r :=
 divF_of (by rw [Int.mul_comm]; exact h.symm) (.inl ⟨h0, h1⟩)
def OfInv (p q : Int) (j : Nat) (L r S : Int) : Prop := 0 ≤ r ∧ r < q ∧ L * q + r = p * ((2 ^ (40 - j) : Nat) : Int) ∧ S = L * ((2 ^ j : Nat) : Int) ∧ -2305843009213693952 ≤ S ∧ S + ((2 ^ j : Nat) : Int) ≤ 2305844108725321728
theorem OfInv.start {p q N R0 : Int} (DM : N * q + R0 = p ∧ 0 ≤ R0 ∧ R0 < q) (h1 : -2097152 ≤ N) (h2 : N ≤ 2097152) : OfInv p q 40 N R0 (N * 1099511627776) := by
 refine ⟨DM.2.1, DM.2.2, by simp; exact DM.1, by simp, by omega, by simp; omega⟩
theorem next_core {p q L r S P X : Int} (P0 : 1 ≤ P) (a : 0 ≤ r) (b : r < q) (c : L * q + r = p * X) (d : S = L * (2 * P)) (e : -2305843009213693952 ≤ S) (f : S + 2 * P ≤ 2305844108725321728) :
  (r < q - r → 0 ≤ r + r ∧ r + r < q ∧ 2 * L * q + (r + r) = p * (2 * X) ∧ S = 2 * L * P ∧ -2305843009213693952 ≤ S ∧ S + P ≤ 2305844108725321728) ∧
  (q - r ≤ r → 0 ≤ r - (q - r) ∧ r - (q - r) < q ∧ (2 * L + 1) * q + (r - (q - r)) = p * (2 * X) ∧ S + P = (2 * L + 1) * P ∧ -2305843009213693952 ≤ S + P ∧ S + P + P ≤ 2305844108725321728) := by
 have p4 : p * (2 * X) = 2 * (p * X) := by rw [← Int.mul_assoc, Int.mul_comm p 2, Int.mul_assoc]
 have p5 : L * (2 * P) = 2 * L * P := by rw [← Int.mul_assoc, Int.mul_comm L 2]
 have p6 : 2 * L * q = 2 * (L * q) := Int.mul_assoc 2 L q
 have p7 : (2 * L + 1) * q = 2 * (L * q) + q := by rw [Int.add_mul, p6, Int.one_mul]
 have p8 : (2 * L + 1) * P = 2 * L * P + P := by rw [Int.add_mul, Int.one_mul]
 rw [p4, p6, p7, p8, d, p5]
 rw [d, p5] at e f
 exact ⟨fun h => ⟨by omega, by omega, by omega, rfl, by omega, by omega⟩, fun h => ⟨by omega, by omega, by omega, rfl, by omega, by omega⟩⟩
theorem OfInv.next {p q : Int} {k : Nat} {L r S : Int} (hk : k + 1 ≤ 40) (I : OfInv p q (k + 1) L r S) :
  (r < q - r → OfInv p q k (2 * L) (r + r) S) ∧ (q - r ≤ r → OfInv p q k (2 * L + 1) (r - (q - r)) (S + ((2 ^ k : Nat) : Int))) := by
 obtain ⟨a, b, c, d, e, f⟩ := I
 have p1 : ((2 ^ (k + 1) : Nat) : Int) = 2 * ((2 ^ k : Nat) : Int) := by rw [Nat.pow_succ]; omega
 have p2 : ((2 ^ (40 - k) : Nat) : Int) = 2 * ((2 ^ (40 - (k + 1)) : Nat) : Int) := by rw [show 40 - k = (40 - (k + 1)) + 1 by omega, Nat.pow_succ]; omega
 have p3 := Nat.one_le_two_pow (n := k)
 rw [p1] at d f
 unfold OfInv
 rw [p2]
 exact next_core (by omega) a b c d e f
theorem OfInv.done {p q L r S : Int} (I : OfInv p q 0 L r S) : divF (p * 1099511627776) q = S ∧ modF (p * 1099511627776) q = r := by
 obtain ⟨a, b, c, d, e, f⟩ := I
 simp at c d
 rw [d]
 exact divmod_is a b c
def rg (x y : Int) : Int := if y < 0 then -gcdI x y else gcdI x y
def rdP (x y : Int) : Int := divF x (rg x y)
def rdQ (x y : Int) : Int := divF y (rg x y)
theorem gcdI_pos {x y : Int} (h : y ≠ 0) : 0 < gcdI x y := by
 unfold gcdI
 have := Int.gcd_pos_of_ne_zero_right x h
 omega
theorem divF_exact {k g : Int} (h : g ≠ 0) : divF (k * g) g = k := by
 unfold divF
 exact Int.mul_fdiv_cancel k h
theorem rg_ne {x y : Int} (h : y ≠ 0) : rg x y ≠ 0 := by
 have := gcdI_pos (x := x) h
 unfold rg
 split <;> omega
theorem gcdI_dvd (x y : Int) : gcdI x y ∣ x ∧ gcdI x y ∣ y := ⟨Int.gcd_dvd_left x y, Int.gcd_dvd_right x y⟩
theorem rg_dvd (x y : Int) : rg x y ∣ x ∧ rg x y ∣ y := by
 have := gcdI_dvd x y
 unfold rg
 split
 · exact ⟨Int.neg_dvd.2 this.1, Int.neg_dvd.2 this.2⟩
 · exact this
theorem rd_mul {x y : Int} (h : y ≠ 0) : rdP x y * rg x y = x ∧ rdQ x y * rg x y = y := by
 obtain ⟨⟨a, ha⟩, ⟨b, hb⟩⟩ := rg_dvd x y
 have g0 := rg_ne (x := x) h
 unfold rdP rdQ
 have e1 : divF x (rg x y) = a := by
  conv => lhs; rw [ha, Int.mul_comm]
  rw [show rg (a * rg x y) y = rg (a * rg x y) y from rfl]
  rw [Int.mul_comm a, ← ha]
  have := divF_exact (k := a) g0
  rw [Int.mul_comm, ← ha] at this
  exact this
 have e2 : divF y (rg x y) = b := by
  have := divF_exact (k := b) g0
  rw [Int.mul_comm, ← hb] at this
  exact this
 rw [e1, e2, Int.mul_comm a, Int.mul_comm b]
 exact ⟨ha.symm, hb.symm⟩
theorem rdQ_pos {x y : Int} (h : y ≠ 0) : 0 < rdQ x y := by
 have m := (rd_mul (x := x) h).2
 have g := gcdI_pos (x := x) h
 obtain ⟨G, hG⟩ : ∃ G, gcdI x y = G := ⟨_, rfl⟩
 unfold rg at m
 rw [hG] at m g
 rcases Int.lt_or_le 0 (rdQ x y) with k | k
 · exact k
 ·
  exfalso
  split at m
  ·
   have h1 := Int.mul_nonneg_of_nonpos_of_nonpos k (show -G ≤ 0 by omega)
   rw [m] at h1
   omega
  ·
   have := Int.mul_le_mul_of_nonneg_right k (show 0 ≤ G by omega)
   rw [m] at this
   omega
theorem gcd_one_of {a b g : Int} (hg : 0 < g) (h : gcdI (a * g) (b * g) = g) : gcdI a b = 1 := by
 unfold gcdI at h ⊢
 rw [Int.gcd_mul_right] at h
 have e : ((g.natAbs : Nat) : Int) = g := by omega
 have k : ((Int.gcd a b : Nat) : Int) * g = 1 * g := by
  rw [Int.one_mul]
  conv => rhs; rw [← h]
  rw [Int.natCast_mul, e]
 exact Int.eq_of_mul_eq_mul_right (by omega) k
theorem rd_gcd {x y : Int} (h : y ≠ 0) : gcdI (rdP x y) (rdQ x y) = 1 := by
 have m := rd_mul (x := x) h
 have g := gcdI_pos (x := x) h
 unfold rg at m
 split at m
 ·
  rw [Int.mul_neg, Int.mul_neg] at m
  refine gcd_one_of g ?_
  have e1 : rdP x y * gcdI x y = -x := by omega
  have e2 : rdQ x y * gcdI x y = -y := by omega
  rw [e1, e2]
  unfold gcdI
  rw [Int.neg_gcd, Int.gcd_neg]
 ·
  refine gcd_one_of g ?_
  rw [m.1, m.2]
theorem dvd_of_gcd_one {k n m : Int} (h : Int.gcd k n = 1) (hd : k ∣ n * m) : k ∣ m := by
 have := (Int.dvd_gcd_mul_iff_dvd_mul (k := k) (n := n) (m := m)).2 hd
 rw [h] at this
 simpa using this
theorem red_unique {p q p' q' : Int} (q0 : 0 < q) (q0' : 0 < q') (g : gcdI p q = 1) (g' : gcdI p' q' = 1) (h : p * q' = p' * q) : p = p' ∧ q = q' := by
 unfold gcdI at g g'
 have g1 : Int.gcd p q = 1 := by omega
 have g2 : Int.gcd p' q' = 1 := by omega
 have d1 : q ∣ q' := by
  have : q ∣ p * q' := ⟨p', by rw [h, Int.mul_comm]⟩
  exact dvd_of_gcd_one (by rw [Int.gcd_comm]; exact g1) this
 have d2 : q' ∣ q := by
  have : q' ∣ p' * q := ⟨p, by rw [← h, Int.mul_comm]⟩
  exact dvd_of_gcd_one (by rw [Int.gcd_comm]; exact g2) this
 have e : q = q' := by
  have l1 := Int.le_of_dvd q0' d1
  have l2 := Int.le_of_dvd q0 d2
  omega
 subst e
 exact ⟨Int.eq_of_mul_eq_mul_right (by omega) h, rfl⟩
theorem rd_unique {x y p q : Int} (hy : y ≠ 0) (q0 : 0 < q) (g : gcdI p q = 1) (h : p * y = x * q) : rdP x y = p ∧ rdQ x y = q := by
 have m := rd_mul (x := x) hy
 have g0 := rg_ne (x := x) hy
 refine red_unique (rdQ_pos hy) q0 (rd_gcd hy) g ?_
 have e : (rdP x y * q) * rg x y = (p * rdQ x y) * rg x y := by
  rw [Int.mul_right_comm, m.1, Int.mul_assoc, m.2]; exact h.symm
 exact Int.eq_of_mul_eq_mul_right g0 e
theorem rd_abs {x y : Int} (h : y ≠ 0) : absN (rdP x y) ≤ absN x ∧ absN (rdQ x y) ≤ absN y ∧ absN (rg x y) ≤ absN y := by
 have m := rd_mul (x := x) h
 have g0 := rg_ne (x := x) h
 have key : ∀ a g : Int, g ≠ 0 → absN a ≤ absN (a * g) := fun a g hg => by
  unfold absN
  rw [Int.natAbs_mul]
  have : 1 ≤ g.natAbs := by omega
  have := Nat.mul_le_mul_left a.natAbs this
  omega
 have k1 := key (rdP x y) (rg x y) g0
 have k2 := key (rdQ x y) (rg x y) g0
 have q0 := rdQ_pos (x := x) h
 have k3 := key (rg x y) (rdQ x y) (by omega)
 rw [m.1] at k1
 rw [m.2] at k2
 rw [Int.mul_comm, m.2] at k3
 exact ⟨k1, k2, k3⟩
theorem Frc.mk' {w : World} {a b : Bool} {s t : Value} {p q : Int} (h1 : Num w (.agg #[.bool a, s]) p) (h2 : Num w (.agg #[.bool b, t]) q) (q0 : 0 < q) (hg : gcdI p q = 1) (fp : fits p) (fq : fits q) : Frc w (.agg #[.bool a, s, .bool b, t]) p q := by
 obtain ⟨s1, e1, l1⟩ := h1
 obtain ⟨s2, e2, l2⟩ := h2
 simp only [Value.agg.injEq, Array.mk.injEq, List.cons.injEq, Value.bool.injEq, and_true] at e1 e2
 obtain ⟨rfl, rfl⟩ := e1
 obtain ⟨rfl, rfl⟩ := e2
 rw [absN_of (by omega)] at l2
 exact ⟨s, t, by rw [decide_eq_false (by omega : ¬ q < 0)], l1, l2, q0, hg, fp, fq⟩
theorem Frc.nums {w : World} {v : Value} {p q : Int} (h : Frc w v p q) : ∃ ap np cp aq nq cq, v = .agg #[.bool (decide (p < 0)), .slice ap np cp, .bool false, .slice aq nq cq] ∧ Num w (.agg #[.bool (decide (p < 0)), .slice ap np cp]) p ∧ Num w (.agg #[.bool false, .slice aq nq cq]) q := by
 obtain ⟨sp, sq, rfl, lp, lq, q0, hg, fp, fq⟩ := h
 obtain ⟨ap, cp, e1⟩ := lp.shape
 obtain ⟨aq, cq, e2⟩ := lq.shape
 refine ⟨ap, (limbs (absN p)).length, cp, aq, (limbs q).length, cq, by rw [e1, e2], ⟨_, rfl, by rw [← e1]; exact lp⟩, ⟨_, by rw [decide_eq_false (by omega : ¬ q < 0)], by rw [absN_of (by omega), ← e2]; exact lq⟩⟩
def Only (r : Nat) (w w' : World) : Prop := w'.heap.size = w.heap.size ∧ ∀ k, k ≠ r → w'.heap[k]? = w.heap[k]?
theorem Only.refl (r : Nat) (w : World) : Only r w w := ⟨rfl, fun _ _ => rfl⟩
theorem Only.set {r i : Nat} {w w' : World} {u : Value} (h : Only r w w') : Only r w (w'.setCell ⟨r, i, none⟩ u) :=
 ⟨by rw [World.size_setCell]; exact h.1, fun k hk => (Below.heap_setCell w' ⟨r, i, none⟩ u k hk).trans (h.2 k hk)⟩
def noU32 (cs : Array Value) : Bool := cs.toList.all fun v => match v with | .int .u32 _ => false | _ => true
theorem noU32_get {cs : Array Value} {k : Nat} {x : Int} (h : noU32 cs = true) : cs[k]? ≠ some (.int .u32 x) := by
 intro e
 obtain ⟨hk, e⟩ := Array.getElem?_eq_some_iff.1 e
 have := List.all_eq_true.1 h cs[k] (by simp)
 rw [e] at this
 cases this
theorem Lim.only {w w' : World} {v : Value} {l : List Int} {r : Nat} {t : TypeId} {cs : Array Value} (h : Lim w v l) (hb : Blk w r t cs) (hn : noU32 cs = true) (ho : Only r w w') : Lim w' v l := by
 obtain ⟨h0, ao', cap, rfl, h1, h3, h2⟩ := h
 refine ⟨h0, ao', cap, rfl, h1, h3, fun hne => ?_⟩
 obtain ⟨b, o, rfl, hbb, hc⟩ := h2 hne
 have hr : b ≠ r := by
  rintro rfl
  have g := hc 0 (List.length_pos_iff.2 hne)
  rw [hb.cell] at g
  exact noU32_get hn g
 exact ⟨b, o, rfl, by rw [ho.1]; exact hbb, fun t ht => (World.cell?_of_block (a := ⟨b, o + t, none⟩) (ho.2 b hr)).trans (hc t ht)⟩
theorem Num.only {w w' : World} {v : Value} {z : Int} {r : Nat} {t : TypeId} {cs : Array Value} (h : Num w v z) (hb : Blk w r t cs) (hn : noU32 cs = true) (ho : Only r w w') : Num w' v z := by
 obtain ⟨s, e, hl⟩ := h
 exact ⟨s, e, hl.only hb hn ho⟩
theorem Frc.only {w w' : World} {v : Value} {p q : Int} {r : Nat} {t : TypeId} {cs : Array Value} (h : Frc w v p q) (hb : Blk w r t cs) (hn : noU32 cs = true) (ho : Only r w w') : Frc w' v p q := by
 obtain ⟨sp, sq, e, l1, l2, h⟩ := h
 exact ⟨sp, sq, e, l1.only hb hn ho, l2.only hb hn ho, h⟩
theorem Frc.alloc_ {w : World} {v : Value} {p q : Int} (h : Frc w v p q) (o : Obj) : Frc (w.alloc o) v p q := h.steps ((Below.refl _ _).alloc (Nat.le_refl _) _)
theorem Frc.shape {w : World} {v : Value} {p q : Int} (h : Frc w v p q) : ∃ a s n c b t m d, v = .agg #[.bool a, .slice s n c, .bool b, .slice t m d] := by
 obtain ⟨ap, np, cp, aq, nq, cq, e, -⟩ := h.nums
 exact ⟨_, _, _, _, _, _, _, _, e⟩
theorem fits_neg {x : Int} (h : fits x) : fits (-x) := by
 unfold fits at *
 rw [show absN (-x) = absN x by unfold absN; omega]
 exact h
theorem zv_not (x : Int) : zv (!decide (x < 0)) (absN x) = -x := by
 unfold zv absN
 by_cases h : x < 0
 · rw [decide_eq_true h]; simp; omega
 · rw [decide_eq_false h]; simp; omega
end Go.Proofs.YtibdehlmflaodaaGreat
/- Fractions in memory as rational numbers; their sizes. -/
namespace Go.Proofs.YtibdehlmflaodaaGreat
open Go.RowKit
def cmpQ (r s : Rat) : Int := if r = s then 0 else if r < s then -1 else 1
theorem gcd_rat (r : Rat) : gcdI r.num r.den = 1 := by
 have h := r.reduced
 unfold gcdI Int.gcd
 rw [Int.natAbs_natCast]
 have h2 : Nat.gcd r.num.natAbs r.den = 1 := h
 rw [h2]
 rfl
theorem den_pos' (r : Rat) : (0 : Int) < r.den := by have := r.den_nz; omega
theorem rat_of {p q : Int} (q0 : 0 < q) (hg : gcdI p q = 1) : ∃ r : Rat, r.num = p ∧ (r.den : Int) = q := by
 refine ⟨⟨p, q.toNat, by omega, ?_⟩, rfl, ?_⟩
 ·
  unfold gcdI Int.gcd at hg
  have e : q.natAbs = q.toNat := by omega
  rw [e] at hg
  show Nat.gcd p.natAbs q.toNat = 1
  omega
 ·
  show ((q.toNat : Nat) : Int) = q
  omega
theorem cmpI_rat (r s : Rat) : cmpI (r.num * s.den) (s.num * r.den) = cmpQ r s := by
 unfold cmpI cmpQ
 by_cases h : r = s
 · rw [if_pos h, if_pos (Rat.eq_iff_mul_eq_mul.1 h)]
 ·
  rw [if_neg h, if_neg (fun e => h (Rat.eq_iff_mul_eq_mul.2 e))]
  by_cases h2 : r < s
  · rw [if_pos h2, if_pos ((Rat.lt_iff r s).1 h2)]
  · rw [if_neg h2, if_neg (fun e => h2 ((Rat.lt_iff r s).2 e))]
theorem cmpQ_gt {r s : Rat} : 0 < cmpQ r s ↔ s < r := by
 rw [← cmpI_rat, cmpI_pos, Rat.lt_iff]
theorem rat_frac (x y : Int) : (x : Rat) / (y : Rat) = Rat.divInt x y := (Rat.divInt_eq_div x y).symm
theorem frac_mul {x y : Int} (hy : y ≠ 0) : ((x : Rat) / (y : Rat)).num * y = x * (((x : Rat) / (y : Rat)).den : Int) := by
 have h := Rat.num_divInt_den ((x : Rat) / (y : Rat))
 conv at h => rhs; rw [rat_frac]
 exact (Rat.divInt_eq_divInt_iff (by have := den_pos' ((x : Rat) / (y : Rat)); omega) hy).1 h
theorem rd_rat {x y : Int} (hy : y ≠ 0) : rdP x y = ((x : Rat) / (y : Rat)).num ∧ rdQ x y = (((x : Rat) / (y : Rat)).den : Int) :=
 rd_unique hy (den_pos' _) (gcd_rat _) (frac_mul hy)
def sz (r : Rat) (k : Nat) : Prop := absN r.num ≤ bp k ∧ (r.den : Int) ≤ bp k
theorem sz.mono {r : Rat} {i j : Nat} (h : sz r i) (hij : i ≤ j) : sz r j := ⟨Int.le_trans h.1 (bp_mono hij), Int.le_trans h.2 (bp_mono hij)⟩
theorem sz_frac {x y : Int} {k : Nat} (hy : y ≠ 0) (hx : absN x ≤ bp k) (hy2 : absN y ≤ bp k) : sz ((x : Rat) / (y : Rat)) k := by
 have h := rd_abs (x := x) hy
 rw [(rd_rat hy).1, (rd_rat hy).2] at h
 refine ⟨Int.le_trans h.1 hx, ?_⟩
 have := h.2.1
 rw [absN_of (by have := den_pos' ((x : Rat) / (y : Rat)); omega)] at this
 exact Int.le_trans this hy2
theorem absN_mul (x y : Int) : absN (x * y) = absN x * absN y := by unfold absN; rw [Int.natAbs_mul]; simp
theorem absN_mul_le {x y : Int} {i j : Nat} (hx : absN x ≤ bp i) (hy : absN y ≤ bp j) : absN (x * y) ≤ bp (i + j) := by
 rw [absN_mul, bp_add]
 exact Int.mul_le_mul hx hy (absN_nonneg y) (by have := bp_pos i; omega)
theorem absN_add_le {x y : Int} {i : Nat} (hx : absN x ≤ bp i) (hy : absN y ≤ bp i) : absN (x + y) ≤ bp (i + 1) := by
 have h := bp_succ i
 have h1 := bp_pos i
 have h2 : absN (x + y) ≤ absN x + absN y := by unfold absN; omega
 omega
theorem absN_neg (x : Int) : absN (-x) = absN x := by unfold absN; omega
theorem den_abs (r : Rat) : absN (r.den : Int) = r.den := absN_of (by have := den_pos' r; omega)
theorem fits_bp {z : Int} {k : Nat} (h : absN z ≤ bp k) (hk : k ≤ 4095) : fits z := by
 unfold fits
 refine (limbs_length (absN_nonneg z) 4096).2 ?_
 have h1 := bp_mono hk
 have h2 : bp 4096 = 4294967296 * bp 4095 := bp_succ 4095
 have h3 := bp_pos 4095
 omega
theorem cast_den (r : Rat) : ((r.den : Int) : Rat) = (r.den : Rat) := Rat.intCast_natCast _
theorem den_ne (r : Rat) : (r.den : Rat) ≠ 0 := fun h => r.den_nz (Rat.natCast_eq_zero_iff.1 h)
theorem self_div (r : Rat) : r = (r.num : Rat) / ((r.den : Int) : Rat) := by rw [rat_frac, Rat.num_divInt_den]
theorem num_eq (r : Rat) : (r.num : Rat) = r * (r.den : Rat) := by
 have := self_div r
 rw [cast_den] at this
 have h := Rat.div_mul_cancel (a := (r.num : Rat)) (den_ne r)
 rw [← this] at h
 exact h.symm
theorem div_of_mul {x y z : Rat} (hy : y ≠ 0) (h : x = z * y) : x / y = z := by rw [h]; exact Rat.mul_div_cancel hy
theorem add_frac (r s : Rat) : ((r.num * s.den + s.num * r.den : Int) : Rat) / ((r.den * s.den : Int) : Rat) = r + s := by
 refine div_of_mul ?_ ?_
 ·
  rw [Rat.intCast_mul, cast_den, cast_den]
  intro h
  rcases Rat.mul_eq_zero.1 h with h | h
  · exact den_ne r h
  · exact den_ne s h
 ·
  rw [Rat.intCast_add, Rat.intCast_mul, Rat.intCast_mul, Rat.intCast_mul, cast_den, cast_den, num_eq r, num_eq s]
  grind
theorem sub_frac (r s : Rat) : ((r.num * s.den - s.num * r.den : Int) : Rat) / ((r.den * s.den : Int) : Rat) = r - s := by
 refine div_of_mul ?_ ?_
 ·
  rw [Rat.intCast_mul, cast_den, cast_den]
  intro h
  rcases Rat.mul_eq_zero.1 h with h | h
  · exact den_ne r h
  · exact den_ne s h
 ·
  rw [Rat.intCast_sub, Rat.intCast_mul, Rat.intCast_mul, Rat.intCast_mul, cast_den, cast_den, num_eq r, num_eq s]
  grind
theorem dens_ne (r s : Rat) : (r.den * s.den : Int) ≠ 0 := by
 have := Int.mul_pos (den_pos' r) (den_pos' s)
 omega
theorem sum_size {r s : Rat} {i j : Nat} (hr : sz r i) (hs : sz s j) : absN (r.num * s.den) ≤ bp (i + j) ∧ absN (s.num * r.den) ≤ bp (i + j) ∧ absN (r.den * s.den : Int) ≤ bp (i + j) := by
 have d1 : absN (r.den : Int) ≤ bp i := by rw [den_abs]; exact hr.2
 have d2 : absN (s.den : Int) ≤ bp j := by rw [den_abs]; exact hs.2
 have h2 := absN_mul_le hs.1 d1
 rw [Nat.add_comm] at h2
 exact ⟨absN_mul_le hr.1 d2, h2, absN_mul_le d1 d2⟩
theorem sz.add {r s : Rat} {i j : Nat} (hr : sz r i) (hs : sz s j) : sz (r + s) (i + j + 1) := by
 obtain ⟨h1, h2, h3⟩ := sum_size hr hs
 rw [← add_frac]
 exact sz_frac (dens_ne r s) (absN_add_le h1 h2) (Int.le_trans h3 (bp_mono (by omega)))
theorem sz.sub {r s : Rat} {i j : Nat} (hr : sz r i) (hs : sz s j) : sz (r - s) (i + j + 1) := by
 obtain ⟨h1, h2, h3⟩ := sum_size hr hs
 rw [← sub_frac, Int.sub_eq_add_neg]
 exact sz_frac (dens_ne r s) (absN_add_le h1 (by rw [absN_neg]; exact h2)) (Int.le_trans h3 (bp_mono (by omega)))
theorem sz.neg {r : Rat} {i : Nat} (hr : sz r i) : sz (-r) i := ⟨by rw [Rat.neg_num, absN_neg]; exact hr.1, hr.2⟩
theorem sz.fits {r : Rat} {k : Nat} (h : sz r k) (hk : k ≤ 4095) : Go.Proofs.YtibdehlmflaodaaGreat.fits r.num ∧ Go.Proofs.YtibdehlmflaodaaGreat.fits (r.den : Int) := ⟨fits_bp h.1 hk, fits_bp (by rw [den_abs]; exact h.2) hk⟩
def FR (w : World) (v : Value) (r : Rat) : Prop := Frc w v r.num r.den
theorem FR.steps {w w' : World} {v : Value} {r : Rat} (h : FR w v r) (hs : Steps w w') : FR w' v r := Frc.steps h hs
theorem Frc.fr {w : World} {v : Value} {p q : Int} (h : Frc w v p q) : ∃ r : Rat, r.num = p ∧ (r.den : Int) = q ∧ FR w v r := by
 have h' := h
 obtain ⟨_, _, _, _, _, q0, hg, _, _⟩ := h'
 obtain ⟨r, e1, e2⟩ := rat_of q0 hg
 refine ⟨r, e1, e2, ?_⟩
 unfold FR
 rw [e1, e2]
 exact h
theorem FR.of_rd {w : World} {v : Value} {x y : Int} (hy : y ≠ 0) (h : Frc w v (rdP x y) (rdQ x y)) : FR w v ((x : Rat) / (y : Rat)) := by
 unfold FR
 rw [← (rd_rat hy).1, ← (rd_rat hy).2]
 exact h
theorem FR.only {w w' : World} {v : Value} {q : Rat} {r : Nat} {t : TypeId} {cs : Array Value} (h : FR w v q) (hb : Blk w r t cs) (hn : noU32 cs = true) (ho : Only r w w') : FR w' v q := Frc.only h hb hn ho
theorem FR.alloc_ {w : World} {v : Value} {q : Rat} (h : FR w v q) (o : Obj) : FR (w.alloc o) v q := Frc.alloc_ h o
end Go.Proofs.YtibdehlmflaodaaGreat
/- What reads as limbs goes on to do so: 'Keeps'; drawn regions whose calls yield numbers and fractions. -/
namespace Go.Proofs.YtibdehlmflaodaaGreat
open Go.RowKit
theorem Blk.four {w : World} {g : Nat} {t : TypeId} {a b c d x y z u : Value} (h : Blk w g t #[a, b, c, d]) :
  Blk ((((w.setCell ⟨g, 0, none⟩ x).setCell ⟨g, 1, none⟩ y).setCell ⟨g, 2, none⟩ z).setCell ⟨g, 3, none⟩ u) g t #[x, y, z, u] := (((h.set_ 0 x).set_ 1 y).set_ 2 z).set_ 3 u
theorem Blk.at0 {w : World} {g : Nat} {t : TypeId} {a b c d x : Value} (h : Blk w g t #[a, b, c, d]) : Blk (w.setCell ⟨g, 0, none⟩ x) g t #[x, b, c, d] := h.set_ 0 x
theorem ownK {w : World} {g : Nat} {t : TypeId} {cs : Array Value} (h : Blk w g t cs := by (repeat' first | with_reducible assumption | (with_reducible refine Blk.new' ?_; first | with_reducible rfl | (simp only [World.size_alloc, World.size_setCell, World.size_drew]; done)) | with_reducible refine Blk.alloc ?_ _ | with_reducible refine Blk.drew ?_ | with_reducible refine Blk.drewN ?_ _ | with_reducible apply Blk.both | with_reducible apply Blk.four | with_reducible apply Blk.at0 | with_reducible refine Blk.far' ?_ ?_ | (show _ ≠ _; omega))) : Blk w g t cs := h
theorem Blk.stepsK {w w' : World} {g : Nat} {t : TypeId} {cs : Array Value} (st : Steps w w') (h : Blk w g t cs := by (repeat' first | with_reducible assumption | (with_reducible refine Blk.new' ?_; first | with_reducible rfl | (simp only [World.size_alloc, World.size_setCell, World.size_drew]; done)) | with_reducible refine Blk.alloc ?_ _ | with_reducible refine Blk.drew ?_ | with_reducible refine Blk.drewN ?_ _ | with_reducible apply Blk.both | with_reducible apply Blk.four | with_reducible apply Blk.at0 | with_reducible refine Blk.far' ?_ ?_ | (show _ ≠ _; omega))) : Blk w' g t cs := h.steps st
theorem Blk.stp {w0 w w' : World} {g : Nat} {t : TypeId} {cs : Array Value} (_o : Blk w0 g t cs) (st : Steps w w') (h : Blk w g t cs := by (repeat' first | with_reducible assumption | (with_reducible refine Blk.new' ?_; first | with_reducible rfl | (simp only [World.size_alloc, World.size_setCell, World.size_drew]; done)) | with_reducible refine Blk.alloc ?_ _ | with_reducible refine Blk.drew ?_ | with_reducible refine Blk.drewN ?_ _ | with_reducible apply Blk.both | with_reducible apply Blk.four | with_reducible apply Blk.at0 | with_reducible refine Blk.far' ?_ ?_ | (show _ ≠ _; omega))) : Blk w' g t cs := h.steps st
def Keeps (w w' : World) : Prop := ∀ v l, Lim w v l → Lim w' v l
section
variable {w w' w'' : World}
theorem Keeps.refl (w : World) : Keeps w w := fun _ _ h => h
theorem Keeps.trans (h : Keeps w w') (h' : Keeps w' w'') : Keeps w w'' := fun v l x => h' v l (h v l x)
theorem Keeps.steps (h : Steps w w') : Keeps w w' := fun _ _ x => x.steps h
theorem Keeps.then_ (h : Keeps w w') (h' : Steps w' w'') : Keeps w w'' := h.trans (Keeps.steps h')
theorem Keeps.alloc (h : Keeps w w') (o : Obj) : Keeps w (w'.alloc o) := h.then_ ((Below.refl _ _).alloc (Nat.le_refl _) _)
theorem Keeps.drew (h : Keeps w w') : Keeps w w'.drew := fun v l x => h v l x
theorem Keeps.drewN (h : Keeps w w') (n : Nat) : Keeps w (w'.drewN n) := fun v l x => h v l x
def NoU (w : World) (r : Nat) : Prop := ∃ t cs, Blk w r t cs ∧ noU32 cs = true
def plainV (v : Value) : Bool := match v with | .int .u32 _ => false | _ => true
theorem noU32_set {cs : Array Value} {i : Nat} {u : Value} (h : noU32 cs = true) (hu : plainV u = true) : noU32 (cs.setIfInBounds i u) = true := by
 unfold noU32 at *
 rw [List.all_eq_true] at *
 intro x hx
 rw [Array.toList_setIfInBounds] at hx
 rcases List.mem_or_eq_of_mem_set hx with g | g
 · exact h x g
 · subst g; exact hu
theorem NoU.of {r : Nat} {t : TypeId} {cs : Array Value} (h : Blk w r t cs) (hn : noU32 cs = true) : NoU w r := ⟨t, cs, h, hn⟩
theorem NoU.alloc {r : Nat} (h : NoU w r) (o : Obj) : NoU (w.alloc o) r := by obtain ⟨t, cs, h, e⟩ := h; exact ⟨t, cs, h.alloc o, e⟩
theorem NoU.drew {r : Nat} (h : NoU w r) : NoU w.drew r := by obtain ⟨t, cs, h, e⟩ := h; exact ⟨t, cs, h.drew, e⟩
theorem NoU.drewN {r : Nat} (h : NoU w r) (n : Nat) : NoU (w.drewN n) r := by obtain ⟨t, cs, h, e⟩ := h; exact ⟨t, cs, h.drewN n, e⟩
theorem NoU.set {r b i : Nat} {u : Value} (h : NoU w r) (hu : plainV u = true) : NoU (w.setCell ⟨b, i, none⟩ u) r := by
 obtain ⟨t, cs, h, e⟩ := h
 by_cases hb : r = b
 · subst hb; exact ⟨t, _, h.set_ i u, noU32_set e hu⟩
 · exact ⟨t, cs, h.far' hb, e⟩
theorem NoU.new {r : Nat} {t : TypeId} {cs : Array Value} (h : w.heap.size = r) (e : noU32 cs = true) : NoU (w.alloc (.cells cs t)) r := ⟨t, cs, Blk.new' h, e⟩
theorem NoU.steps {r : Nat} (h : NoU w r) (st : Steps w w') : NoU w' r := by obtain ⟨t, cs, h, e⟩ := h; exact ⟨t, cs, h.steps st, e⟩
theorem Keeps.set {r i : Nat} {u : Value} (h : Keeps w w') (hn : NoU w' r) : Keeps w (w'.setCell ⟨r, i, none⟩ u) := by
 obtain ⟨t, cs, hb, e⟩ := hn
 exact fun v l x => (h v l x).only hb e ((Only.refl _ _).set)
theorem Keeps.only {r : Nat} {t : TypeId} {cs : Array Value} (hb : Blk w r t cs) (hn : noU32 cs = true) (ho : Only r w w') : Keeps w w' := fun _ _ x => x.only hb hn ho
theorem Num.keeps {v : Value} {z : Int} (h : Num w v z) (k : Keeps w w') : Num w' v z := by
 obtain ⟨s, e, hl⟩ := h
 exact ⟨s, e, k _ _ hl⟩
theorem Frc.keeps {v : Value} {p q : Int} (h : Frc w v p q) (k : Keeps w w') : Frc w' v p q := by
 obtain ⟨sp, sq, e, l1, l2, h⟩ := h
 exact ⟨sp, sq, e, k _ _ l1, k _ _ l2, h⟩
theorem FR.keeps {v : Value} {r : Rat} (h : FR w v r) (k : Keeps w w') : FR w' v r := Frc.keeps h k
theorem Lim.keeps {v : Value} {l : List Int} (h : Lim w v l) (k : Keeps w w') : Lim w' v l := k _ _ h
theorem FR.shape {v : Value} {r : Rat} (h : FR w v r) : ∃ a s n c b t m d, v = .agg #[.bool a, .slice s n c, .bool b, .slice t m d] := Frc.shape h
theorem FR.nums {v : Value} {r : Rat} (h : FR w v r) : ∃ ap np cp aq nq cq, v = .agg #[.bool (decide (r < 0)), .slice ap np cp, .bool false, .slice aq nq cq] ∧ Num w (.agg #[.bool (decide (r < 0)), .slice ap np cp]) r.num ∧ Num w (.agg #[.bool false, .slice aq nq cq]) (r.den : Int) ∧ (np = 0 ↔ r = 0) := by
 have h2 := h
 obtain ⟨sp, sq, rfl, lp, lq, q0, hg, fp, fq⟩ := h
 obtain ⟨ap, cp, e1⟩ := lp.shape
 obtain ⟨aq, cq, e2⟩ := lq.shape
 have e3 : decide (r < 0) = decide (r.num < 0) := by
  have : r < 0 ↔ r.num < 0 := by
   rw [← Rat.not_le, ← Rat.num_nonneg]; omega
  simp [this]
 refine ⟨ap, (limbs (absN r.num)).length, cp, aq, (limbs (r.den : Int)).length, cq, by rw [e1, e2, e3], ⟨_, by rw [e3], by rw [← e1]; exact lp⟩, ⟨_, by rw [decide_eq_false (by omega : ¬ (r.den : Int) < 0)], by rw [absN_of (by omega), ← e2]; exact lq⟩, ?_⟩
 rw [List.length_eq_zero_iff, limbs_nil (absN_nonneg _), ← Rat.num_eq_zero]
 unfold absN; omega
theorem FR.fit {v : Value} {r : Rat} (h : FR w v r) : fits r.num ∧ fits (r.den : Int) := by
 obtain ⟨_, _, _, _, _, q0, _, fp, fq⟩ := h
 exact ⟨fp, fq⟩
end
theorem keepsB {w W : World} (h : Keeps w W := by (repeat' first | with_reducible assumption | with_reducible exact Keeps.refl _ | with_reducible refine Keeps.alloc ?_ _ | with_reducible refine Keeps.drew ?_ | with_reducible refine Keeps.drewN ?_ _ | with_reducible refine Keeps.set ?_ ?_ | ((with_reducible apply NoU.of); (with_reducible assumption); exact Eq.refl true) | with_reducible refine NoU.alloc ?_ _ | with_reducible refine NoU.drew ?_ | with_reducible refine NoU.drewN ?_ _ | refine NoU.set ?_ (Eq.refl true) | (refine NoU.new ?_ (Eq.refl true); first | with_reducible rfl | (simp only [World.size_alloc, World.size_setCell, World.size_drew]; done)))) : Keeps w W := h
def gw : List (Nat × (Value → World → Prop)) → Nat → Value → World → Prop
 | [], _, _, _ => True
 | (i, e) :: r, k, x, W => if k = i then e x W else gw r k x W
theorem gw_keeps (l : List (Nat × (Value → World → Prop))) (h : ∀ p ∈ l, ∀ x W W', Keeps W W' → p.2 x W → p.2 x W') {k : Nat} {x : Value} {W W' : World} (hk : Keeps W W') (hg : gw l k x W) : gw l k x W' := by
 induction l with
 | nil => exact hg
 | cons p r ih =>
  obtain ⟨i, e⟩ := p
  unfold gw at hg ⊢
  by_cases hi : k = i
  · rw [if_pos hi] at hg ⊢; exact h _ (.head _) x W W' hk hg
  · rw [if_neg hi] at hg ⊢; exact ih (fun p hp => h p (.tail _ hp)) hg
def IsFr (x : Value) : Prop := ∃ a s n c b t m d, x = .agg #[.bool a, .slice s n c, .bool b, .slice t m d]
def IsFrE (e : Int) (x : Value) : Prop := ∃ a s n c b t m d, x = .tuple #[.agg #[.bool a, .slice s n c, .bool b, .slice t m d], .int .i64 e]
def IsNu (x : Value) : Prop := ∃ a s n c, x = .agg #[.bool a, .slice s n c]
def IsNuE (e : Int) (x : Value) : Prop := ∃ a s n c, x = .tuple #[.agg #[.bool a, .slice s n c], .int .i64 e]
def Reg.cat (l : List (Array Value)) : Array Value := (l.flatMap Array.toList).toArray
def IsLi (x : Value) : Prop := ∃ s n c, x = .slice s n c
def GLi (p : List Int → Prop) (x : Value) (W : World) : Prop := ∃ l, p l ∧ Lim W x l
theorem GLi.keeps {p : List Int → Prop} (x : Value) (W W' : World) (k : Keeps W W') (h : GLi p x W) : GLi p x W' := by obtain ⟨l, h1, h2⟩ := h; exact ⟨l, h1, k _ _ h2⟩
theorem GLi.shape {p : List Int → Prop} {x : Value} {W : World} (h : GLi p x W) : ∃ s n c, x = .slice s n c := by obtain ⟨l, _, h2⟩ := h; obtain ⟨s, c, e⟩ := h2.shape; exact ⟨s, _, c, e⟩
def IsPtr (x : Value) : Prop := ∃ g : Nat, x = .pointer (some ⟨g, 0, none⟩)
def GFr (r : Rat) (x : Value) (W : World) : Prop := FR W x r
def GFrE (r : Rat) (e : Int) (x : Value) (W : World) : Prop := ∃ v, x = .tuple #[v, .int .i64 e] ∧ FR W v r
def GNu (z : Int) (x : Value) (W : World) : Prop := Num W x z
def GNuE (z e : Int) (x : Value) (W : World) : Prop := ∃ v, x = .tuple #[v, .int .i64 e] ∧ Num W v z
def GNo (_ : Value) (_ : World) : Prop := True
theorem GFr.keeps {r : Rat} (x : Value) (W W' : World) (k : Keeps W W') (h : GFr r x W) : GFr r x W' := FR.keeps h k
theorem GFrE.keeps {r : Rat} {e : Int} (x : Value) (W W' : World) (k : Keeps W W') (h : GFrE r e x W) : GFrE r e x W' := by obtain ⟨v, h1, h2⟩ := h; exact ⟨v, h1, h2.keeps k⟩
theorem GNu.keeps {z : Int} (x : Value) (W W' : World) (k : Keeps W W') (h : GNu z x W) : GNu z x W' := Num.keeps h k
theorem GNuE.keeps {z e : Int} (x : Value) (W W' : World) (k : Keeps W W') (h : GNuE z e x W) : GNuE z e x W' := by obtain ⟨v, h1, h2⟩ := h; exact ⟨v, h1, h2.keeps k⟩
theorem GNo.keeps (x : Value) (W W' : World) (_ : Keeps W W') (_ : GNo x W) : GNo x W' := trivial
theorem GFrE.get {r : Rat} {e : Int} {v : Value} {W : World} (h : GFrE r e (.tuple #[v, .int .i64 e]) W) : FR W v r := by
 obtain ⟨u, h1, h2⟩ := h
 simp only [Value.tuple.injEq, Array.mk.injEq, List.cons.injEq, and_true] at h1
 rw [h1]; exact h2
theorem GNuE.get {z e : Int} {v : Value} {W : World} (h : GNuE z e (.tuple #[v, .int .i64 e]) W) : Num W v z := by
 obtain ⟨u, h1, h2⟩ := h
 simp only [Value.tuple.injEq, Array.mk.injEq, List.cons.injEq, and_true] at h1
 rw [h1]; exact h2
theorem Reg.gvA (l : List (Nat × (Value → Prop))) (h : ∀ p ∈ l, ∃ x, p.2 x := by (repeat' refine List.forall_mem_cons.2 ⟨?_, ?_⟩) <;> first | exact ⟨_, rfl⟩ | exact ⟨_, 0, rfl⟩ | exact ⟨_, none, 0, 0, rfl⟩ | exact ⟨_, false, none, 0, 0, rfl⟩ | exact ⟨_, false, none, 0, 0, false, none, 0, 0, rfl⟩ | (intro p hp; cases hp)) : ∀ k, ∃ x, Reg.gv l k x := Reg.gv_some l h
theorem gwA {l : List (Nat × (Value → World → Prop))} {k : Nat} {x : Value} {W W' : World} (hk : Keeps W W') (hg : gw l k x W) (h : ∀ p ∈ l, ∀ x W W', Keeps W W' → p.2 x W → p.2 x W' := by (repeat' refine List.forall_mem_cons.2 ⟨?_, ?_⟩) <;> first | exact GFr.keeps | exact GFrE.keeps | exact GNu.keeps | exact GNuE.keeps | exact GLi.keeps | (intro p hp; cases hp)) : gw l k x W' := gw_keeps l h hk hg
theorem jst {a W W2 : World} (h : Below a.heap.size a W) (hs : Steps W W2) : Below a.heap.size a W2 := below_steps h (Nat.le_refl _) hs
theorem jsz {n : Nat} {W W2 : World} (h : n ≤ W.heap.size) (hs : Steps W W2) : n ≤ W2.heap.size := Nat.le_trans h hs.size
theorem tlt {x n : Nat} (h : Nat.ble (x + 1) n = true) : ∀ t, some x = some t → t < n := by intro t ht; cases ht; exact Nat.le_of_ble_eq_true h
theorem rnegN {va : Value} {x : Int} (w : World) (ha : Num w va x) (fx : fits x) :
  Calls Tryz.prog 85 #[va] w fun e w' => ∃ v, e = .returned (.tuple #[v, .int .i64 0]) ∧ Num w' v (-x) ∧ Steps w w' := by
 have fn := fits_neg fx
 obtain ⟨aa, ca, rfl, pa⟩ := ha.parts
 have ck : ∀ w', Steps w w' → Calls Tryz.prog 49 #[.agg #[.bool (decide (x < 0)), .slice aa (limbs (absN x)).length ca]] w' fun e w2 => e = .returned (.int .i64 0) ∧ Steps w' w2 := fun w' h => by
  have := rcheckN (decide (x < 0)) w' (pa.steps h)
  rw [show errC (valid (decide (x < 0)) (limbs (absN x))) = 0 from if_pos (valid_of fx)] at this
  exact this
 have mk : ∀ w', Steps w w' → Calls Tryz.prog 68 #[.bool (!decide (x < 0)), .slice aa (limbs (absN x)).length ca] w' fun e w2 => ∃ v', e = .returned (.tuple #[v', .int .i64 0]) ∧ Num w2 v' (-x) ∧ Steps w' w2 := fun w' h => by
  have := rmadeN (!decide (x < 0)) w' (pa.steps h) (by unfold fits at fx; unfold few; omega)
  rw [lval_limbs (absN_nonneg x), zv_not, errN_fits fn, clipN_fits fn] at this
  exact this
 obtain ⟨n, hn⟩ : ∃ n, (limbs (absN x)).length = n := ⟨_, rfl⟩
 obtain ⟨gx, hgx⟩ : ∃ b, decide (x < 0) = b := ⟨_, rfl⟩
 rw [hn, hgx] at ck mk ⊢
 clear ha pa hn hgx fx fn
 go_enter Tryz.func85, Tryz.ntmps85
 go_wp2_with fail
 refine (ck _ belowB).mono ?_
 rintro e w1 ⟨rfl, hb1⟩
 have st : Steps _ w1 := hb1
 have Bn : Below w.heap.size w w1 := belowA st
 have oa : Blk w1 (w.heap.size) 28 #[.bool gx, .slice aa n ca] := Blk.stepsA st
 have or : Blk w1 (w.heap.size + 1) 28 #[.bool false, .slice none 0 0] := Blk.stepsA st
 clear st
 have B := Bn
 clear Bn
 obtain ⟨ca0, ca1, fa, la⟩ := oa.s1
 obtain ⟨cr0, cr1, fr, lr⟩ := or.s1
 clear ck
 go_wp2_with fail
 refine (mk _ B).mono ?_
 rintro e w2 ⟨v2, rfl, hn2, hb2⟩
 have st : Steps _ w2 := hb2
 have Bn : Below w.heap.size w w2 := belowA st
 have na := oa.stq st
 have nr := or.stq st
 clear B oa or ca0 ca1 fa la cr0 cr1 fr lr
 clear st
 have B := Bn
 clear Bn
 have oa := na
 clear na
 obtain ⟨ca0, ca1, fa, la⟩ := oa.s1
 have or := nr
 clear nr
 obtain ⟨cr0, cr1, fr, lr⟩ := or.s1
 clear mk
 obtain ⟨bb, ao, k, c, rfl⟩ := hn2.shape
 have HV := Hid.mk_ hn2
 clear hn2
 go_wp2
 refine bodyPost_ret (by simp [results, Tryz.results85, go_sem, ca0, ca1, fa, la, cr0, cr1, fr, lr]; rfl) rfl ?_
 exact ⟨_, rfl, HV.out.put2 or, belowB⟩
theorem rreduced {va vb : Value} {x y : Int} (w : World) (ha : Num w va x) (hb : Num w vb y) (fx : fits x) (fy : fits y) (hy : y ≠ 0) :
  Calls Tryz.prog 67 #[va, vb] w fun e w' => ∃ v, e = .returned v ∧ Frc w' v (rdP x y) (rdQ x y) ∧ Steps w w' := by
 have RA := rd_abs (x := x) hy
 have fP : fits (rdP x y) := fits_le RA.1 fx
 have fQ : fits (rdQ x y) := fits_le RA.2.1 fy
 have fG : fits (rg x y) := fits_le RA.2.2 fy
 have g0 := rg_ne (x := x) hy
 have gc := fun (w' : World) (h : Steps w w') => rgcd w' (ha.steps h) (hb.steps h) fx fy
 have d1 : ∀ w' v, Steps w w' → Num w' v (rg x y) → Calls Tryz.prog 86 #[va, v] w' fun e w2 => ∃ q r, e = .returned (.tuple #[q, r, .int .i64 0]) ∧ Num w2 q (rdP x y) ∧ Num w2 r (modF x (rg x y)) ∧ Steps w' w2 := fun w' v h hv => rdivmod w' (ha.steps h) hv fx fG g0
 have d2 : ∀ w' v, Steps w w' → Num w' v (rg x y) → Calls Tryz.prog 86 #[vb, v] w' fun e w2 => ∃ q r, e = .returned (.tuple #[q, r, .int .i64 0]) ∧ Num w2 q (rdQ x y) ∧ Num w2 r (modF y (rg x y)) ∧ Steps w' w2 := fun w' v h hv => rdivmod w' (hb.steps h) hv fy fG g0
 have MK := Hid.mk_ (And.intro (rdQ_pos (x := x) hy) (And.intro (rd_gcd (x := x) hy) (And.intro fP fQ)))
 have fg : fits (gcdI x y) := by
  unfold rg at fG
  split at fG
  · have := fits_neg fG; rwa [Int.neg_neg] at this
  · exact fG
 obtain ⟨aa, ca, rfl, -⟩ := ha.parts
 obtain ⟨ab, cb, rfl, -⟩ := hb.parts
 obtain ⟨n, hn⟩ : ∃ n, (limbs (absN x)).length = n := ⟨_, rfl⟩
 obtain ⟨m, hm⟩ : ∃ m, (limbs (absN y)).length = m := ⟨_, rfl⟩
 rw [hn] at gc d1 ⊢
 rw [hm] at gc d2 ⊢
 obtain ⟨gx, hgx⟩ : ∃ b, decide (x < 0) = b := ⟨_, rfl⟩
 rw [hgx] at gc d1 ⊢
 clear ha hb hn hm hgx RA fP fQ fG g0 fx fy
 by_cases hs : y < 0
 ·
  have e := decide_eq_true hs
  rw [e] at gc d2 ⊢
  have HG : rg x y = -gcdI x y := if_pos hs
  rw [HG] at d1 d2
  have ng : ∀ w' v, Num w' v (gcdI x y) → Calls Tryz.prog 85 #[v] w' fun e w2 => ∃ v', e = .returned (.tuple #[v', .int .i64 0]) ∧ Num w2 v' (-gcdI x y) ∧ Steps w' w2 := fun w' v h => rnegN w' h fg
  clear hs e HG fg hy
  go_enter Tryz.func67, Tryz.ntmps67
  go_wp2_with fail
  refine (gc _ belowB).mono ?_
  rintro e w1 ⟨vg, rfl, hg, fg, hb1⟩
  have st : Steps _ w1 := hb1
  have Bn : Below w.heap.size w w1 := belowA st
  have oa : Blk w1 (w.heap.size) 28 #[.bool gx, .slice aa n ca] := Blk.stepsA st
  have ob : Blk w1 (w.heap.size + 1) 28 #[.bool true, .slice ab m cb] := Blk.stepsA st
  have or : Blk w1 (w.heap.size + 1 + 1) 30 #[.bool false, .slice none 0 0, .bool false, .slice none 0 0] := Blk.stepsA st
  clear st
  have B := Bn
  clear Bn
  obtain ⟨ca0, ca1, fa, la⟩ := oa.s1
  obtain ⟨cb0, cb1, fb, lb⟩ := ob.s1
  obtain ⟨cr0, cr1, cr2, cr3, fr, lr⟩ := or.s3
  clear gc fg
  obtain ⟨bg, ag, ng_, cg, rfl⟩ := hg.shape
  have NG := Hid.mk_ hg
  clear hg
  have z1 : w.heap.size + 1 + 1 < w1.heap.size := or.lt
  go_wp2_with fail
  refine (ng _ _ (NG.out.alloc_ _)).mono ?_
  rintro e w2 ⟨vh, rfl, hh, hb2⟩
  have st : Steps _ w2 := hb2
  have Bn : Below w.heap.size w w2 := belowA st
  have na := oa.stq st
  have nb := ob.stq st
  have nr := or.stq st
  have og : Blk w2 (w1.heap.size) 28 #[.bool bg, .slice ag ng_ cg] := Blk.stepsA st
  clear B oa ob or ca0 ca1 fa la cb0 cb1 fb lb cr0 cr1 cr2 cr3 fr lr
  clear st
  have B := Bn
  clear Bn
  have oa := na
  clear na
  obtain ⟨ca0, ca1, fa, la⟩ := oa.s1
  have ob := nb
  clear nb
  obtain ⟨cb0, cb1, fb, lb⟩ := ob.s1
  have or := nr
  clear nr
  obtain ⟨cr0, cr1, cr2, cr3, fr, lr⟩ := or.s3
  obtain ⟨cg0, cg1, fg, lg⟩ := og.s1
  clear ng NG
  obtain ⟨bh, ah, nh, ch, rfl⟩ := hh.shape
  have NH := Hid.mk_ hh
  clear hh
  have og' := og
  go_wp2_with fail
  refine (d1 _ _ belowB (NH.out.put2 og')).mono ?_
  rintro e w3 ⟨vp, vr, rfl, hp, hr, hb3⟩
  have st : Steps _ w3 := hb3
  have Bn : Below w.heap.size w w3 := belowA st
  have na := oa.stq st
  have nb := ob.stq st
  have nr := or.stq st
  replace og : Blk w3 (w1.heap.size) 28 #[.bool bh, .slice ah nh ch] := Blk.stepsA st
  clear B oa ob or ca0 ca1 fa la cb0 cb1 fb lb cr0 cr1 cr2 cr3 fr lr cg0 cg1 fg lg
  clear st
  have B := Bn
  clear Bn
  have oa := na
  clear na
  obtain ⟨ca0, ca1, fa, la⟩ := oa.s1
  have ob := nb
  clear nb
  obtain ⟨cb0, cb1, fb, lb⟩ := ob.s1
  have or := nr
  clear nr
  obtain ⟨cr0, cr1, cr2, cr3, fr, lr⟩ := or.s3
  obtain ⟨cg0, cg1, fg, lg⟩ := og.s1
  clear d1
  have NG2 := Hid.mk_ ((NH.out.put2 og').steps hb3)
  clear NH og'
  obtain ⟨bp_, ap, np, cp, rfl⟩ := hp.shape
  have NP := Hid.mk_ hp
  clear hp
  obtain ⟨br, ar, nr_, cr, rfl⟩ := hr.shape
  clear hr
  have z2 : w1.heap.size < w3.heap.size := og.lt
  go_wp2_with fail
  refine (d2 _ _ belowB ((NG2.out.alloc_ _).alloc_ _)).mono ?_
  rintro e w4 ⟨vq, vt, rfl, hq, ht, hb4⟩
  have st : Steps _ w4 := hb4
  have Bn : Below w.heap.size w w4 := belowA st
  have na := oa.stq st
  have nb := ob.stq st
  have nr := or.stq st
  have ng := og.stq st
  have op : Blk w4 (w3.heap.size) 28 #[.bool bp_, .slice ap np cp] := Blk.stepsA st
  have os : Blk w4 (w3.heap.size + 1) 28 #[.bool br, .slice ar nr_ cr] := Blk.stepsA st
  clear B oa ob or og ca0 ca1 fa la cb0 cb1 fb lb cr0 cr1 cr2 cr3 fr lr cg0 cg1 fg lg
  clear st
  have B := Bn
  clear Bn
  have oa := na
  clear na
  obtain ⟨ca0, ca1, fa, la⟩ := oa.s1
  have ob := nb
  clear nb
  obtain ⟨cb0, cb1, fb, lb⟩ := ob.s1
  have or := nr
  clear nr
  obtain ⟨cr0, cr1, cr2, cr3, fr, lr⟩ := or.s3
  have og := ng
  clear ng
  obtain ⟨cg0, cg1, fg, lg⟩ := og.s1
  obtain ⟨cp0, cp1, fp, lp⟩ := op.s1
  obtain ⟨cs0, cs1, fs, ls⟩ := os.s1
  clear d2
  have NP2 := Hid.mk_ (((NP.out.alloc_ (.cells #[.bool bp_, .slice ap np cp] 28)).alloc_ (.cells #[.bool br, .slice ar nr_ cr] 28)).steps hb4)
  clear NP NG2
  obtain ⟨bq, aq, nq, cq, rfl⟩ := hq.shape
  have NQ := Hid.mk_ hq
  clear hq
  obtain ⟨bt, at_', nt_, ct, rfl⟩ := ht.shape
  clear ht
  dsimp only; repeat' (first | go_values | go_skip | go_guarded | go_step | go_upon)
  refine bodyPost_ret (by simp [results, Tryz.results67, go_sem, ca0, ca1, fa, la, cb0, cb1, fb, lb, cr0, cr1, cr2, cr3, fr, lr, cg0, cg1, fg, lg, cp0, cp1, fp, lp, cs0, cs1, fs, ls]; rfl) rfl ?_
  refine ⟨_, rfl, ?_, belowB⟩
  have HM := MK.out
  exact (((Frc.mk' NP2.out NQ.out HM.1 HM.2.1 HM.2.2.1 HM.2.2.2).only or rfl ((Only.refl _ _).set.set.set.set)).alloc_ _).alloc_ _
 ·
  have e := decide_eq_false hs
  rw [e] at gc d2 ⊢
  have HG : rg x y = gcdI x y := if_neg hs
  rw [HG] at d1 d2
  clear hs e HG fg hy
  go_enter Tryz.func67, Tryz.ntmps67
  go_wp2_with fail
  refine (gc _ belowB).mono ?_
  rintro e w1 ⟨vg, rfl, hg, fg, hb1⟩
  have st : Steps _ w1 := hb1
  have Bn : Below w.heap.size w w1 := belowA st
  have oa : Blk w1 (w.heap.size) 28 #[.bool gx, .slice aa n ca] := Blk.stepsA st
  have ob : Blk w1 (w.heap.size + 1) 28 #[.bool false, .slice ab m cb] := Blk.stepsA st
  have or : Blk w1 (w.heap.size + 1 + 1) 30 #[.bool false, .slice none 0 0, .bool false, .slice none 0 0] := Blk.stepsA st
  clear st
  have B := Bn
  clear Bn
  obtain ⟨ca0, ca1, fa, la⟩ := oa.s1
  obtain ⟨cb0, cb1, fb, lb⟩ := ob.s1
  obtain ⟨cr0, cr1, cr2, cr3, fr, lr⟩ := or.s3
  clear gc fg
  obtain ⟨bg, ag, ng_, cg, rfl⟩ := hg.shape
  have NG := Hid.mk_ hg
  clear hg
  have z1 : w.heap.size + 1 + 1 < w1.heap.size := or.lt
  go_wp2_with fail
  refine (d1 _ _ belowB (NG.out.alloc_ _)).mono ?_
  rintro e w2 ⟨vp, vr, rfl, hp, hr, hb2⟩
  have st : Steps _ w2 := hb2
  have Bn : Below w.heap.size w w2 := belowA st
  have na := oa.stq st
  have nb := ob.stq st
  have nr := or.stq st
  have og : Blk w2 (w1.heap.size) 28 #[.bool bg, .slice ag ng_ cg] := Blk.stepsA st
  clear B oa ob or ca0 ca1 fa la cb0 cb1 fb lb cr0 cr1 cr2 cr3 fr lr
  clear st
  have B := Bn
  clear Bn
  have oa := na
  clear na
  obtain ⟨ca0, ca1, fa, la⟩ := oa.s1
  have ob := nb
  clear nb
  obtain ⟨cb0, cb1, fb, lb⟩ := ob.s1
  have or := nr
  clear nr
  obtain ⟨cr0, cr1, cr2, cr3, fr, lr⟩ := or.s3
  obtain ⟨cg0, cg1, fg, lg⟩ := og.s1
  clear d1
  have NG2 := Hid.mk_ ((NG.out.alloc_ _).steps hb2)
  clear NG
  obtain ⟨bp_, ap, np, cp, rfl⟩ := hp.shape
  have NP := Hid.mk_ hp
  clear hp
  obtain ⟨br, ar, nr_, cr, rfl⟩ := hr.shape
  clear hr
  have z2 : w1.heap.size < w2.heap.size := og.lt
  go_wp2_with fail
  refine (d2 _ _ belowB ((NG2.out.alloc_ _).alloc_ _)).mono ?_
  rintro e w3 ⟨vq, vt, rfl, hq, ht, hb3⟩
  have st : Steps _ w3 := hb3
  have Bn : Below w.heap.size w w3 := belowA st
  have na := oa.stq st
  have nb := ob.stq st
  have nr := or.stq st
  have ng := og.stq st
  have op : Blk w3 (w2.heap.size) 28 #[.bool bp_, .slice ap np cp] := Blk.stepsA st
  have os : Blk w3 (w2.heap.size + 1) 28 #[.bool br, .slice ar nr_ cr] := Blk.stepsA st
  clear B oa ob or og ca0 ca1 fa la cb0 cb1 fb lb cr0 cr1 cr2 cr3 fr lr cg0 cg1 fg lg
  clear st
  have B := Bn
  clear Bn
  have oa := na
  clear na
  obtain ⟨ca0, ca1, fa, la⟩ := oa.s1
  have ob := nb
  clear nb
  obtain ⟨cb0, cb1, fb, lb⟩ := ob.s1
  have or := nr
  clear nr
  obtain ⟨cr0, cr1, cr2, cr3, fr, lr⟩ := or.s3
  have og := ng
  clear ng
  obtain ⟨cg0, cg1, fg, lg⟩ := og.s1
  obtain ⟨cp0, cp1, fp, lp⟩ := op.s1
  obtain ⟨cs0, cs1, fs, ls⟩ := os.s1
  clear d2
  have NP2 := Hid.mk_ (((NP.out.alloc_ (.cells #[.bool bp_, .slice ap np cp] 28)).alloc_ (.cells #[.bool br, .slice ar nr_ cr] 28)).steps hb3)
  clear NP NG2
  obtain ⟨bq, aq, nq, cq, rfl⟩ := hq.shape
  have NQ := Hid.mk_ hq
  clear hq
  obtain ⟨bt, at_', nt_, ct, rfl⟩ := ht.shape
  clear ht
  dsimp only; repeat' (first | go_values | go_skip | go_guarded | go_step | go_upon)
  refine bodyPost_ret (by simp [results, Tryz.results67, go_sem, ca0, ca1, fa, la, cb0, cb1, fb, lb, cr0, cr1, cr2, cr3, fr, lr, cg0, cg1, fg, lg, cp0, cp1, fp, lp, cs0, cs1, fs, ls]; rfl) rfl ?_
  refine ⟨_, rfl, ?_, belowB⟩
  have HM := MK.out
  exact (((Frc.mk' NP2.out NQ.out HM.1 HM.2.1 HM.2.2.1 HM.2.2.2).only or rfl ((Only.refl _ _).set.set.set.set)).alloc_ _).alloc_ _
theorem rmake {va vb : Value} {x y : Int} (w : World) (ha : Num w va x) (hb : Num w vb y) (fx : fits x) (fy : fits y) (hy : y ≠ 0) :
  Calls Tryz.prog 39 #[va, vb] w fun e w' => ∃ v, e = .returned (.tuple #[v, .int .i64 0]) ∧ Frc w' v (rdP x y) (rdQ x y) ∧ Steps w w' := by
 have cka : ∀ w', Steps w w' → Calls Tryz.prog 49 #[va] w' fun e w2 => e = .returned (.int .i64 0) ∧ Steps w' w2 := fun w' h => by
  obtain ⟨sa, rfl, la⟩ := ha
  have := rcheckN (decide (x < 0)) w' (la.steps h)
  rw [show errC (valid (decide (x < 0)) (limbs (absN x))) = 0 from if_pos (valid_of fx)] at this
  exact this
 have ckb : ∀ w', Steps w w' → Calls Tryz.prog 49 #[vb] w' fun e w2 => e = .returned (.int .i64 0) ∧ Steps w' w2 := fun w' h => by
  obtain ⟨sb, rfl, lb⟩ := hb
  have := rcheckN (decide (y < 0)) w' (lb.steps h)
  rw [show errC (valid (decide (y < 0)) (limbs (absN y))) = 0 from if_pos (valid_of fy)] at this
  exact this
 have rd := fun (w' : World) (h : Steps w w') => rreduced w' (ha.steps h) (hb.steps h) fx fy hy
 have y0 : 0 < (limbs (absN y)).length := List.length_pos_iff.2 (fun e => by have := (limbs_nil (absN_nonneg y)).1 e; unfold absN at this; omega)
 obtain ⟨aa, ca, rfl, -⟩ := ha.parts
 obtain ⟨ab, cb, rfl, -⟩ := hb.parts
 obtain ⟨n, hn⟩ : ∃ n, (limbs (absN x)).length = n := ⟨_, rfl⟩
 obtain ⟨m, hm⟩ : ∃ m, (limbs (absN y)).length = m := ⟨_, rfl⟩
 rw [hn] at cka rd ⊢
 rw [hm] at ckb rd y0 ⊢
 obtain ⟨gx, hgx⟩ : ∃ b, decide (x < 0) = b := ⟨_, rfl⟩
 obtain ⟨gy, hgy⟩ : ∃ b, decide (y < 0) = b := ⟨_, rfl⟩
 rw [hgx] at cka rd ⊢
 rw [hgy] at ckb rd ⊢
 clear ha hb hn hm hgx hgy fx fy hy
 go_enter Tryz.func39, Tryz.ntmps39
 go_wp2_with fail
 refine (cka _ belowB).mono ?_
 rintro e w1 ⟨rfl, hb1⟩
 have st : Steps _ w1 := hb1
 have Bn : Below w.heap.size w w1 := belowA st
 have oa : Blk w1 (w.heap.size) 28 #[.bool gx, .slice aa n ca] := Blk.stepsA st
 have ob : Blk w1 (w.heap.size + 1) 28 #[.bool gy, .slice ab m cb] := Blk.stepsA st
 have or : Blk w1 (w.heap.size + 1 + 1) 30 #[.bool false, .slice none 0 0, .bool false, .slice none 0 0] := Blk.stepsA st
 clear st
 have B := Bn
 clear Bn
 obtain ⟨ca0, ca1, fa, la⟩ := oa.s1
 obtain ⟨cb0, cb1, fb, lb⟩ := ob.s1
 obtain ⟨cr0, cr1, cr2, cr3, fr, lr⟩ := or.s3
 clear cka
 go_wp2_with fail
 refine (ckb _ B).mono ?_
 rintro e w2 ⟨rfl, hb2⟩
 have st : Steps _ w2 := hb2
 have Bn : Below w.heap.size w w2 := belowA st
 have na := oa.stq st
 have nb := ob.stq st
 have nr := or.stq st
 clear B oa ob or ca0 ca1 fa la cb0 cb1 fb lb cr0 cr1 cr2 cr3 fr lr
 clear st
 have B := Bn
 clear Bn
 have oa := na
 clear na
 obtain ⟨ca0, ca1, fa, la⟩ := oa.s1
 have ob := nb
 clear nb
 obtain ⟨cb0, cb1, fb, lb⟩ := ob.s1
 have or := nr
 clear nr
 obtain ⟨cr0, cr1, cr2, cr3, fr, lr⟩ := or.s3
 clear ckb
 go_wp2_with fail
 refine (rd _ B).mono ?_
 rintro e w3 ⟨v3, rfl, hf, hb3⟩
 have st : Steps _ w3 := hb3
 have Bn : Below w.heap.size w w3 := belowA st
 have na := oa.stq st
 have nb := ob.stq st
 have nr := or.stq st
 clear B oa ob or ca0 ca1 fa la cb0 cb1 fb lb cr0 cr1 cr2 cr3 fr lr
 clear st
 have B := Bn
 clear Bn
 have oa := na
 clear na
 obtain ⟨ca0, ca1, fa, la⟩ := oa.s1
 have ob := nb
 clear nb
 obtain ⟨cb0, cb1, fb, lb⟩ := ob.s1
 have or := nr
 clear nr
 obtain ⟨cr0, cr1, cr2, cr3, fr, lr⟩ := or.s3
 clear rd
 obtain ⟨k1, k2, k3, k4, k5, k6, k7, k8, rfl⟩ := hf.shape
 have HF := Hid.mk_ hf
 clear hf
 go_wp2
 refine bodyPost_ret (by simp [results, Tryz.results39, go_sem, ca0, ca1, fa, la, cb0, cb1, fb, lb, cr0, cr1, cr2, cr3, fr, lr]; rfl) rfl ?_
 exact ⟨_, rfl, HF.out.only or rfl ((Only.refl _ _).set.set.set.set), belowB⟩
theorem rof (x y : Int) (w : World) (x0 : -9223372036854775808 ≤ x) (x1 : x ≤ 9223372036854775807) (y0 : -9223372036854775808 ≤ y) (y1 : y ≤ 9223372036854775807) (hy : y ≠ 0) :
  Calls Tryz.prog 19 #[.int .i64 x, .int .i64 y] w fun e w' => ∃ v, e = .returned (.tuple #[v, .int .i64 0]) ∧ Frc w' v (rdP x y) (rdQ x y) ∧ Steps w w' := by
 have fx : fits x := fits_small (by unfold absN; omega)
 have fy : fits y := fits_small (by unfold absN; omega)
 go_enter Tryz.func19, Tryz.ntmps19
 go_wp2_with fail
 refine (rfrom x _ x0 x1).mono ?_
 rintro e w1 ⟨va, rfl, na, hb1⟩
 have st : Steps _ w1 := hb1
 have Bn : Below w.heap.size w w1 := belowA st
 have or : Blk w1 (w.heap.size) 30 #[.bool false, .slice none 0 0, .bool false, .slice none 0 0] := Blk.stepsA st
 clear st
 have B := Bn
 clear Bn
 obtain ⟨cr0, cr1, cr2, cr3, fr, lr⟩ := or.s3
 go_wp2_with fail
 refine (rfrom y _ y0 y1).mono ?_
 rintro e w2 ⟨vb, rfl, nb, hb2⟩
 have st : Steps _ w2 := hb2
 have Bn : Below w.heap.size w w2 := belowA st
 have nr := or.stq st
 clear B or cr0 cr1 cr2 cr3 fr lr
 clear st
 have B := Bn
 clear Bn
 have or := nr
 clear nr
 obtain ⟨cr0, cr1, cr2, cr3, fr, lr⟩ := or.s3
 have na2 := na.steps hb2
 clear na
 go_wp2_with fail
 refine (rmake _ na2 nb fx fy hy).mono ?_
 rintro e w3 ⟨v3, rfl, hf, hb3⟩
 have st : Steps _ w3 := hb3
 have Bn : Below w.heap.size w w3 := belowA st
 have nr := or.stq st
 clear B or cr0 cr1 cr2 cr3 fr lr
 clear st
 have B := Bn
 clear Bn
 have or := nr
 clear nr
 obtain ⟨cr0, cr1, cr2, cr3, fr, lr⟩ := or.s3
 clear na2 nb
 obtain ⟨k1, k2, k3, k4, k5, k6, k7, k8, rfl⟩ := hf.shape
 have HF := Hid.mk_ hf
 clear hf
 go_wp2
 refine bodyPost_ret (by simp [results, Tryz.results19, go_sem, cr0, cr1, cr2, cr3, fr, lr]; rfl) rfl ?_
 exact ⟨_, rfl, HF.out.only or rfl ((Only.refl _ _).set.set.set.set), belowB⟩
end Go.Proofs.YtibdehlmflaodaaGreat
/- Four points: the arrangement that comes before all others (plain Lean). -/
namespace Go.Proofs.YtibdehlmflaodaaGreat
def cmpL : List Int → List Int → Int
 | x :: xs, y :: ys => if x = y then cmpL xs ys else if x < y then -1 else 1
 | _, _ => 0
theorem cmpL_self : ∀ l : List Int, cmpL l l = 0
 | [] => rfl
 | x :: xs => by rw [cmpL, if_pos rfl]; exact cmpL_self xs
theorem cmpL_trans : ∀ a b c : List Int, cmpL a b < 0 → cmpL b c < 0 → cmpL a c < 0
 | [], _, _, h, _ => by simp [cmpL] at h
 | _ :: _, [], _, h, _ => by simp [cmpL] at h
 | _ :: _, _ :: _, [], _, h => by simp [cmpL] at h
 | x :: xs, y :: ys, z :: zs, h, k => by
  unfold cmpL at h k ⊢
  by_cases g : x = y
  ·
   subst g
   rw [if_pos rfl] at h
   by_cases g2 : x = z
   · rw [if_pos g2] at k ⊢; exact cmpL_trans xs ys zs h k
   · rw [if_neg g2] at k ⊢; exact k
  ·
   rw [if_neg g] at h
   have g1 : x < y := by
    by_cases q : x < y
    · exact q
    · rw [if_neg q] at h; omega
   by_cases g2 : y = z
   ·
    subst g2
    rw [if_neg g, if_pos g1]; decide
   ·
    rw [if_neg g2] at k
    have g3 : y < z := by
     by_cases q : y < z
     · exact q
     · rw [if_neg q] at k; omega
    rw [if_neg (by omega), if_pos (by omega)]; decide
structure Arr where
 k0 : Int
 k1 : Int
 k2 : Int
 k3 : Int
 a1 : Int
 a2 : Int
 b1 : Int
 b2 : Int
 n : Int
deriving DecidableEq
def Arr.key (a : Arr) : List Int := [a.a1 + a.b1, a.a1, a.a2, a.b1, a.b2, a.k0, a.k1, a.k2, a.k3]
def cmpA (a b : Arr) : Int := cmpL a.key b.key
def noArr : Arr := ⟨0, 0, 0, 0, 0, 0, 0, 0, 0⟩
def Arr.beats (a b : Arr) : Bool := decide (b.n < a.n) || (a.n == b.n && (decide (0 < a.n) && decide (cmpA a b < 0)))
theorem beats_iff {a b : Arr} : a.beats b = true ↔ b.n < a.n ∨ (a.n = b.n ∧ 0 < a.n ∧ cmpA a b < 0) := by
 unfold Arr.beats
 simp only [Bool.or_eq_true, decide_eq_true_eq, Bool.and_eq_true, beq_iff_eq]
theorem beats_trans {a b c : Arr} (h : a.beats b = true) (k : b.beats c = true) : a.beats c = true := by
 rw [beats_iff] at *
 rcases h with h | ⟨h1, h2, h3⟩ <;> rcases k with k | ⟨k1, k2, k3⟩
 · exact .inl (by omega)
 · exact .inl (by omega)
 · exact .inl (by omega)
 · exact .inr ⟨by omega, h2, cmpL_trans _ _ _ h3 k3⟩
theorem beats_self (a : Arr) : a.beats a = false := by
 cases h : a.beats a
 · rfl
 ·
  rw [beats_iff] at h
  unfold cmpA at h
  rw [cmpL_self] at h
  omega
def best (l : List Arr) : Arr := l.foldl (fun b a => if a.beats b then a else b) noArr
theorem best_append (l : List Arr) (a : Arr) : best (l ++ [a]) = if a.beats (best l) then a else best l := by unfold best; rw [List.foldl_append]; rfl
theorem best_spec (l : List Arr) (h0 : ∀ a ∈ l, 0 ≤ a.n) : (best l = noArr ∧ ∀ a ∈ l, a.n = 0) ∨ (best l ∈ l ∧ 0 < (best l).n ∧ ∀ a ∈ l, a.beats (best l) = false) := by
 have key : ∀ l r : List Arr, l = r.reverse → (∀ a ∈ l, 0 ≤ a.n) → (best l = noArr ∧ ∀ a ∈ l, a.n = 0) ∨ (best l ∈ l ∧ 0 < (best l).n ∧ ∀ a ∈ l, a.beats (best l) = false) := by
  intro l r
  induction r generalizing l with
  | nil => rintro rfl _; exact .inl ⟨rfl, fun a h => by simp at h⟩
  | cons x r ih =>
   rintro rfl h0
   rw [List.reverse_cons] at h0 ⊢
   rw [best_append]
   have hx := h0 x (by simp)
   cases hb : x.beats (best r.reverse)
   ·
    rw [if_neg (by simp)]
    rcases ih _ rfl (fun a ha => h0 a (List.mem_append_left _ ha)) with ⟨h1, h2⟩ | ⟨h1, h2, h3⟩
    ·
     refine .inl ⟨h1, fun a ha => ?_⟩
     rcases List.mem_append.1 ha with g | g
     · exact h2 a g
     ·
      rw [List.mem_singleton] at g; subst g
      rw [h1] at hb
      have : ¬ a.beats noArr = true := by simp [hb]
      rw [beats_iff] at this
      simp only [noArr] at this
      omega
    ·
     refine .inr ⟨List.mem_append_left _ h1, h2, fun a ha => ?_⟩
     rcases List.mem_append.1 ha with g | g
     · exact h3 a g
     · rw [List.mem_singleton] at g; subst g; exact hb
   ·
    rw [if_pos rfl]
    refine .inr ⟨by simp, ?_, fun a ha => ?_⟩
    ·
     rcases ih _ rfl (fun a ha => h0 a (List.mem_append_left _ ha)) with ⟨h1, h2⟩ | ⟨h1, h2, h3⟩
     ·
      rw [h1] at hb
      rw [beats_iff] at hb
      simp only [noArr] at hb
      omega
     · rw [beats_iff] at hb; omega
    ·
     rcases List.mem_append.1 ha with g | g
     ·
      rcases ih _ rfl (fun a ha => h0 a (List.mem_append_left _ ha)) with ⟨h1, h2⟩ | ⟨h1, h2, h3⟩
      ·
       cases hc : a.beats x
       · rfl
       ·
        rw [beats_iff] at hc
        have := h2 a g
        omega
      ·
       cases hc : a.beats x
       · rfl
       ·
        have := beats_trans hc hb
        rw [h3 a g] at this; cases this
     · rw [List.mem_singleton] at g; subst g; exact beats_self a
 exact key l l.reverse (by rw [List.reverse_reverse]) h0
def bestR (N : Int) (l : List Arr) : Option Arr := l.foldl (fun b a => if a.n = N then (match b with | none => some a | some c => if cmpA a c < 0 then some a else some c) else b) none
theorem best_none (l : List Arr) (h0 : ∀ a ∈ l, a.n = 0) : best l = noArr := by
 rcases best_spec l (fun a ha => by rw [h0 a ha]; omega) with ⟨h, -⟩ | ⟨h1, h2, -⟩
 · exact h
 · have := h0 _ h1; omega
theorem best_n (l : List Arr) (h0 : ∀ a ∈ l, 0 ≤ a.n) (hex : ∃ a ∈ l, 0 < a.n) : best l ∈ l ∧ 0 < (best l).n ∧ ∀ a ∈ l, a.beats (best l) = false := by
 rcases best_spec l h0 with ⟨-, h⟩ | h
 ·
  obtain ⟨a, h1, h2⟩ := hex
  have := h a h1; omega
 · exact h
abbrev P4 := Nat × Nat × Nat × Nat
def perms4 : List P4 := (List.range 4).flatMap fun a => (List.range 4).flatMap fun b => (List.range 4).filterMap fun c => if a ≠ b ∧ a ≠ c ∧ b ≠ c then some (a, b, c, 6 - a - b - c) else none
def upto4 (a b c : Nat) : List P4 := perms4.filter fun p => decide (16 * p.1 + 4 * p.2.1 + p.2.2.1 < 16 * a + 4 * b + c)
theorem upto4_c : ∀ a, a < 4 → ∀ b, b < 4 → ∀ c, c < 4 → upto4 a b (c + 1) = if a ≠ b ∧ a ≠ c ∧ b ≠ c then upto4 a b c ++ [(a, b, c, 6 - a - b - c)] else upto4 a b c := by
 intro a ha b hb c hc
 rcases (show a = 0 ∨ a = 1 ∨ a = 2 ∨ a = 3 by omega) with rfl | rfl | rfl | rfl <;> rcases (show b = 0 ∨ b = 1 ∨ b = 2 ∨ b = 3 by omega) with rfl | rfl | rfl | rfl <;> rcases (show c = 0 ∨ c = 1 ∨ c = 2 ∨ c = 3 by omega) with rfl | rfl | rfl | rfl <;> decide
theorem upto4_b : ∀ a, a < 4 → ∀ b, b < 4 → upto4 a b 4 = upto4 a (b + 1) 0 := by
 intro a ha b hb
 rcases (show a = 0 ∨ a = 1 ∨ a = 2 ∨ a = 3 by omega) with rfl | rfl | rfl | rfl <;> rcases (show b = 0 ∨ b = 1 ∨ b = 2 ∨ b = 3 by omega) with rfl | rfl | rfl | rfl <;> decide
theorem upto4_a : ∀ a, a < 4 → upto4 a 4 0 = upto4 (a + 1) 0 0 := by decide
theorem upto4_0 : upto4 0 0 0 = [] := by decide
theorem upto4_all : upto4 4 0 0 = perms4 := by decide
theorem perms4_ok : ∀ p ∈ perms4, p.1 < 4 ∧ p.2.1 < 4 ∧ p.2.2.1 < 4 ∧ p.2.2.2 < 4 ∧ p.1 ≠ p.2.1 ∧ p.1 ≠ p.2.2.1 ∧ p.1 ≠ p.2.2.2 ∧ p.2.1 ≠ p.2.2.1 ∧ p.2.1 ≠ p.2.2.2 ∧ p.2.2.1 ≠ p.2.2.2 := by decide
theorem perms4_pair : ∀ a, a < 4 → ∀ b, b < 4 → a ≠ b → ∃ p ∈ perms4, p.1 = a ∧ p.2.1 = b := by decide
end Go.Proofs.YtibdehlmflaodaaGreat
/- Four points: the arrangements' numbers (plain Lean). -/
namespace Go.Proofs.YtibdehlmflaodaaGreat
def cre (ux uy vx vy : Int) : Int := vx * ux + vy * uy
def cim (ux uy vx vy : Int) : Int := vy * ux - vx * uy
def csq (ux uy : Int) : Int := ux * ux + uy * uy
def at4 (k0 k1 k2 k3 i : Nat) : Nat := match i with | 0 => k0 | 1 => k1 | 2 => k2 | _ => k3
abbrev PL := List (Int × Int)
def pt (l : PL) (k : Nat) : Int × Int := l.getD k (0, 0)
def sqd (p q : Int × Int) : Int := csq (q.1 - p.1) (q.2 - p.2)
theorem sqd_symm (p q : Int × Int) : sqd p q = sqd q p := by
 unfold sqd csq
 have h1 : q.1 - p.1 = -(p.1 - q.1) := by omega
 have h2 : q.2 - p.2 = -(p.2 - q.2) := by omega
 rw [h1, h2, Int.neg_mul_neg, Int.neg_mul_neg]
theorem csq_nonneg (x y : Int) : 0 ≤ csq x y := by
 unfold csq
 have h1 : 0 ≤ x * x := by rcases Int.le_total 0 x with h | h; exact Int.mul_nonneg h h; exact Int.mul_nonneg_of_nonpos_of_nonpos h h
 have h2 : 0 ≤ y * y := by rcases Int.le_total 0 y with h | h; exact Int.mul_nonneg h h; exact Int.mul_nonneg_of_nonpos_of_nonpos h h
 omega
theorem sqd_nonneg (p q : Int × Int) : 0 ≤ sqd p q := csq_nonneg _ _
def arr4 (k0 k1 k2 k3 : Nat) (p0 p1 p2 p3 : Int × Int) : Arr :=
 ⟨k0, k1, k2, k3, cre (p1.1 - p0.1) (p1.2 - p0.2) (p2.1 - p0.1) (p2.2 - p0.2), cim (p1.1 - p0.1) (p1.2 - p0.2) (p2.1 - p0.1) (p2.2 - p0.2),
  cre (p1.1 - p0.1) (p1.2 - p0.2) (p3.1 - p0.1) (p3.2 - p0.2), cim (p1.1 - p0.1) (p1.2 - p0.2) (p3.1 - p0.1) (p3.2 - p0.2), sqd p0 p1⟩
def arrOf (l : PL) (K : Nat → Nat) (p : P4) : Arr := arr4 (K p.1) (K p.2.1) (K p.2.2.1) (K p.2.2.2) (pt l (K p.1)) (pt l (K p.2.1)) (pt l (K p.2.2.1)) (pt l (K p.2.2.2))
def dst (l : PL) (K : Nat → Nat) (i k : Nat) : Int := sqd (pt l (K i)) (pt l (K k))
def wid (l : PL) (K : Nat → Nat) : Int :=
 max (max (max (max (max (max 0 (dst l K 1 0)) (dst l K 2 0)) (dst l K 2 1)) (dst l K 3 0)) (dst l K 3 1)) (dst l K 3 2)
theorem dst_symm (l : PL) (K : Nat → Nat) (i k : Nat) : dst l K i k = dst l K k i := sqd_symm _ _
theorem dst_le (l : PL) (K : Nat → Nat) {i k : Nat} (hi : i < 4) (hk : k < 4) (hne : i ≠ k) : dst l K i k ≤ wid l K := by
 have a := dst_symm l K 0 1
 have b := dst_symm l K 0 2
 have c := dst_symm l K 0 3
 have d := dst_symm l K 1 2
 have e := dst_symm l K 1 3
 have f := dst_symm l K 2 3
 unfold wid
 rcases (show i = 0 ∨ i = 1 ∨ i = 2 ∨ i = 3 by omega) with rfl | rfl | rfl | rfl <;> rcases (show k = 0 ∨ k = 1 ∨ k = 2 ∨ k = 3 by omega) with rfl | rfl | rfl | rfl <;> first | exact absurd rfl hne | omega
theorem wid_nonneg (l : PL) (K : Nat → Nat) : 0 ≤ wid l K := by unfold wid; omega
theorem wid_ex (l : PL) (K : Nat → Nat) (h : 0 < wid l K) : ∃ i k, i < 4 ∧ k < 4 ∧ i ≠ k ∧ dst l K i k = wid l K := by
 have key : wid l K = 0 ∨ wid l K = dst l K 1 0 ∨ wid l K = dst l K 2 0 ∨ wid l K = dst l K 2 1 ∨ wid l K = dst l K 3 0 ∨ wid l K = dst l K 3 1 ∨ wid l K = dst l K 3 2 := by unfold wid; omega
 rcases key with e | e | e | e | e | e | e
 · omega
 · exact ⟨1, 0, by decide, by decide, by decide, e.symm⟩
 · exact ⟨2, 0, by decide, by decide, by decide, e.symm⟩
 · exact ⟨2, 1, by decide, by decide, by decide, e.symm⟩
 · exact ⟨3, 0, by decide, by decide, by decide, e.symm⟩
 · exact ⟨3, 1, by decide, by decide, by decide, e.symm⟩
 · exact ⟨3, 2, by decide, by decide, by decide, e.symm⟩
def arrs (l : PL) (K : Nat → Nat) : List Arr := perms4.map (arrOf l K)
theorem arrs_nonneg (l : PL) (K : Nat → Nat) : ∀ a ∈ arrs l K, 0 ≤ a.n := by
 intro a ha
 obtain ⟨p, -, rfl⟩ := List.mem_map.1 ha
 exact sqd_nonneg _ _
theorem arrs_le (l : PL) (K : Nat → Nat) : ∀ a ∈ arrs l K, a.n ≤ wid l K := by
 intro a ha
 obtain ⟨p, hp, rfl⟩ := List.mem_map.1 ha
 obtain ⟨h1, h2, -, -, h3, -⟩ := perms4_ok p hp
 exact dst_le l K h1 h2 h3
theorem arrs_ex (l : PL) (K : Nat → Nat) (h : 0 < wid l K) : ∃ a ∈ arrs l K, a.n = wid l K := by
 obtain ⟨i, k, hi, hk, hne, e⟩ := wid_ex l K h
 obtain ⟨p, hp, rfl, rfl⟩ := perms4_pair i hi k hk hne
 exact ⟨_, List.mem_map.2 ⟨p, hp, rfl⟩, e⟩
def bestOf (l : PL) (K : Nat → Nat) : Arr := best (arrs l K)
theorem bestOf_none (l : PL) (K : Nat → Nat) (h : wid l K = 0) : bestOf l K = noArr :=
 best_none _ fun a ha => by have := arrs_nonneg l K a ha; have := arrs_le l K a ha; omega
theorem bestOf_spec (l : PL) (K : Nat → Nat) (h : 0 < wid l K) : bestOf l K ∈ arrs l K ∧ (bestOf l K).n = wid l K ∧ ∀ a ∈ arrs l K, a.beats (bestOf l K) = false := by
 obtain ⟨a, ha, hn⟩ := arrs_ex l K h
 obtain ⟨h1, h2, h3⟩ := best_n _ (arrs_nonneg l K) ⟨a, ha, by omega⟩
 refine ⟨h1, ?_, h3⟩
 have h4 := arrs_le l K _ h1
 have h5 := h3 a ha
 rcases (show (bestOf l K).n < wid l K ∨ (bestOf l K).n = wid l K by unfold bestOf at *; omega) with g | g
 ·
  have : a.beats (best (arrs l K)) = true := beats_iff.2 (.inl (by unfold bestOf at g; omega))
  rw [h5] at this; cases this
 · exact g
end Go.Proofs.YtibdehlmflaodaaGreat
/- Four points: other orders of the indices, and moved points (plain Lean). -/
namespace Go.Proofs.YtibdehlmflaodaaGreat
def K' (K : Nat → Nat) (i : Nat) : Nat := K (at4 2 0 3 1 i)
def Arr.scale (s : Int) (a : Arr) : Arr := ⟨a.k0, a.k1, a.k2, a.k3, s * a.a1, s * a.a2, s * a.b1, s * a.b2, s * a.n⟩
def mv (re im dx dy : Int) (p : Int × Int) : Int × Int := (p.1 * re - p.2 * im + dx, p.1 * im + p.2 * re + dy)
end Go.Proofs.YtibdehlmflaodaaGreat
/- Four points: the code of the best arrangement lies within its bounds (plain Lean). -/
namespace Go.Proofs.YtibdehlmflaodaaGreat
theorem sq_nonneg' (x : Int) : 0 ≤ x * x := by
 rcases Int.le_total 0 x with h | h
 · exact Int.mul_nonneg h h
 · exact Int.mul_nonneg_of_nonpos_of_nonpos h h
theorem sq_lt' {x y : Int} (h0 : 0 ≤ x) (h : x < y) : x * x < y * y := by
 have h1 : 0 < (y - x) * (y + x) := Int.mul_pos (by omega) (by omega)
 simp only [Int.sub_mul, Int.mul_add] at h1
 have h2 : x * y = y * x := Int.mul_comm x y
 omega
theorem abs_of_sq {x n : Int} (hn : 0 ≤ n) (h : x * x ≤ n * n) : -n ≤ x ∧ x ≤ n := by
 constructor
 ·
  rcases (show x < -n ∨ -n ≤ x by omega) with g | g
  ·
   have := sq_lt' hn (show n < -x by omega)
   rw [Int.neg_mul_neg] at this
   omega
  · exact g
 ·
  rcases (show n < x ∨ x ≤ n by omega) with g | g
  ·
   have := sq_lt' hn g
   omega
  · exact g
theorem within {ux uy vx vy : Int} (h1 : csq vx vy ≤ csq ux uy) (h2 : csq (vx - ux) (vy - uy) ≤ csq ux uy) :
  (0 ≤ cre ux uy vx vy ∧ cre ux uy vx vy ≤ csq ux uy) ∧ (-csq ux uy ≤ cim ux uy vx vy ∧ cim ux uy vx vy ≤ csq ux uy) := by
 have n0 := csq_nonneg ux uy
 have v0 := csq_nonneg vx vy
 have d0 := csq_nonneg (vx - ux) (vy - uy)
 have e : csq (vx - ux) (vy - uy) = csq vx vy - 2 * cre ux uy vx vy + csq ux uy := by
  unfold csq cre; simp only [Int.sub_mul, Int.mul_sub]; simp only [Int.mul_comm ux vx, Int.mul_comm uy vy]; omega
 have q : cre ux uy vx vy * cre ux uy vx vy + cim ux uy vx vy * cim ux uy vx vy = csq ux uy * csq vx vy := by
  unfold csq cre cim; simp only [Int.sub_mul, Int.mul_sub, Int.add_mul, Int.mul_add]; simp only [Int.mul_comm, Int.mul_left_comm, Int.mul_assoc]; omega
 have m := Int.mul_le_mul_of_nonneg_left h1 n0
 have s1 := sq_nonneg' (cre ux uy vx vy)
 have s2 := sq_nonneg' (cim ux uy vx vy)
 have a := abs_of_sq (x := cre ux uy vx vy) n0 (by omega)
 have b := abs_of_sq (x := cim ux uy vx vy) n0 (by omega)
 exact ⟨⟨by omega, a.2⟩, b⟩
end Go.Proofs.YtibdehlmflaodaaGreat
/- The sets of four of the first n indices (plain Lean): the iterator's order, and the nested loops'. -/
namespace Go.Proofs.YtibdehlmflaodaaGreat
def nxt4 (n : Nat) (x : P4) : P4 :=
 if x.2.2.2 + 1 < n then (x.1, x.2.1, x.2.2.1, x.2.2.2 + 1) else if x.2.2.1 + 2 < n then (x.1, x.2.1, x.2.2.1 + 1, x.2.2.1 + 2) else if x.2.1 + 3 < n then (x.1, x.2.1 + 1, x.2.1 + 2, x.2.1 + 3) else (x.1 + 1, x.1 + 2, x.1 + 3, x.1 + 4)
def it4 (n : Nat) : Nat → P4
 | 0 => (0, 1, 2, 3)
 | i + 1 => nxt4 n (it4 n i)
def loD (a b c : Nat) (d : Nat) : List P4 := (List.range' (c + 1) (d - (c + 1))).map fun d => (a, b, c, d)
def loC (n a b : Nat) (c : Nat) : List P4 := (List.range' (b + 1) (c - (b + 1))).flatMap fun c => loD a b c n
def loB (n a : Nat) (b : Nat) : List P4 := (List.range' (a + 1) (b - (a + 1))).flatMap fun b => loC n a b n
def loA (n : Nat) (a : Nat) : List P4 := (List.range' 0 a).flatMap fun a => loB n a n
def fours (n : Nat) : List P4 := loA n n
def good4 (n : Nat) (x : P4) : Bool := decide (x.1 < x.2.1) && decide (x.2.1 < x.2.2.1) && decide (x.2.2.1 < x.2.2.2) && decide (x.2.2.2 < n)
theorem it4_all : ∀ n, n ≤ 7 → (fours n).length ≤ 35 ∧ (∀ i, i < (fours n).length → (fours n)[i]? = some (it4 n i) ∧ good4 n (it4 n i) = true) ∧ n ≤ (it4 n (fours n).length).2.2.2 := by
 intro n hn
 rcases (show n = 0 ∨ n = 1 ∨ n = 2 ∨ n = 3 ∨ n = 4 ∨ n = 5 ∨ n = 6 ∨ n = 7 by omega) with rfl | rfl | rfl | rfl | rfl | rfl | rfl | rfl <;> decide
theorem good4_iff {n : Nat} {x : P4} (h : good4 n x = true) : x.1 < x.2.1 ∧ x.2.1 < x.2.2.1 ∧ x.2.2.1 < x.2.2.2 ∧ x.2.2.2 < n := by
 unfold good4 at h
 simp only [Bool.and_eq_true, decide_eq_true_eq] at h
 exact ⟨h.1.1.1, h.1.1.2, h.1.2, h.2⟩
def K4 (x : P4) : Nat → Nat := at4 x.1 x.2.1 x.2.2.1 x.2.2.2
def qs (l : PL) (xs : List P4) : List Arr := xs.filterMap fun x => if 0 < wid l (K4 x) then some (bestOf l (K4 x)) else none
theorem qs_snoc (l : PL) (xs : List P4) (x : P4) : qs l (xs ++ [x]) = if 0 < wid l (K4 x) then qs l xs ++ [bestOf l (K4 x)] else qs l xs := by
 unfold qs; rw [List.filterMap_append]; by_cases h : 0 < wid l (K4 x) <;> simp [h]
theorem qs_len (l : PL) (xs : List P4) : (qs l xs).length ≤ xs.length := List.length_filterMap_le _ _
end Go.Proofs.YtibdehlmflaodaaGreat
