import Derived.Test.YtibdehlmflaodaaCTw
import Derived.Test.YtibdehlmflaodaaCNg
import Derived.Deep.RegionWith
import Derived.Deep.QuietTactic
import Derived.BigQuiet
namespace Go.Proofs.Ytibdehlmflaodaa
open Go.RowKit
set_option maxHeartbeats 6400000 in
set_option maxRecDepth 1000000 in
theorem fcheck (gx gy : Bool) {sa sb : Value} {la lb : List Int} (w : World) (ha : Lim w sa la) (hb : Lim w sb lb) :
    Calls Try.prog 36 #[.agg #[.bool gx, sa, .bool gy, sb]] w fun e w' => e = .returned (.int .i64 (errC (validF gx la gy lb))) ∧ Steps w w' := by
  have gb : ¬ (valid gx la ∧ valid gy lb) → ∀ w', Steps w w' → Calls Try.prog 62 #[.agg #[.bool gx, sa], .agg #[.bool gy, sb]] w' fun e w2 => e = .returned (.tuple #[.agg #[.bool false, .slice none 0 0], .int .i64 8]) ∧ Steps w' w2 := fun hv w' h => gcd_bad gx gy w' (ha.steps h) (hb.steps h) hv
  have gc : valid gx la → valid gy lb → ∀ w', Steps w w' → Calls Try.prog 62 #[.agg #[.bool gx, sa], .agg #[.bool gy, sb]] w' fun e w2 => ∃ v, e = .returned (.tuple #[v, .int .i64 0]) ∧ Num w2 v (gcdI (zv gx (lval la)) (zv gy (lval lb))) ∧ fits (gcdI (zv gx (lval la)) (zv gy (lval lb))) ∧ Steps w' w2 := fun va vb w' h =>
    wgcd w' (valid_num (ha.steps h) va) (valid_num (hb.steps h) vb) (valid_fits ha.ok va) (valid_fits hb.ok vb)
  have zr : valid gy lb → ∀ w', Steps w w' → Calls Try.prog 63 #[.agg #[.bool gy, sb]] w' fun e w2 => e = .returned (.bool (decide (zv gy (lval lb) = 0))) ∧ Steps w' w2 := fun vb w' h => fzero w' (valid_num (hb.steps h) vb)
  have hz0 : valid gy lb → (zv gy (lval lb) = 0 ↔ lb = []) := fun vb => by
    have h1 := lval_nonneg hb.ok
    have h2 := limbs_lval hb.ok
    rw [vb.2.1] at h2
    have h3 := limbs_nil h1
    rw [h2] at h3
    rw [h3]
    unfold zv
    split <;> omega
  obtain ⟨aa, ca, rfl⟩ := ha.shape
  obtain ⟨ab, cb, rfl⟩ := hb.shape
  obtain ⟨n, hn⟩ : ∃ n, la.length = n := ⟨_, rfl⟩
  obtain ⟨m, hm⟩ : ∃ m, lb.length = m := ⟨_, rfl⟩
  rw [hn] at gb gc ⊢
  rw [hm] at gb gc zr ⊢
  have hm0 : m = 0 ↔ lb = [] := by rw [← hm]; exact List.length_eq_zero_iff
  clear ha hb hn hm
  by_cases hv : valid gx la ∧ valid gy lb
  · obtain ⟨h1, h2⟩ := hv
    have gc' := gc h1 h2
    have zr' := zr h2
    have hz := hz0 h2
    clear gc gb zr hz0
    cases gy with
    | true =>
      have H : Hid (errC (validF gx la true lb) = 8) := if_neg (fun h => by have := h.2.2.1; cases this)
      clear h1 h2 hm0 zr' hz
      go_enter Try.func36, Try.ntmps36
      go_wp2_with fail
      refine (gc' _ belowB).mono ?_
      rintro e w1 ⟨vg, rfl, hng, fitG, hb1⟩
      have st : Steps _ w1 := hb1
      have Bn : Below w.heap.size w w1 := belowA st
      have nf : Blk w1 (w.heap.size) 28 #[.bool gx, .slice aa n ca, .bool true, .slice ab m cb] := Blk.stepsA st
      clear st
      have B := Bn
      clear Bn
      have of := nf
      clear nf
      have cf0 := of.q0
      have cf1 := of.q1
      have cf2 := of.q2
      have cf3 := of.q3
      have ff := of.fr
      have lf := of.lt
      clear gc'
      obtain ⟨bg, ag, ng, cg, rfl⟩ := hng.shape
      have NG := Hid.mk_ hng
      clear hng
      have hf3 : w.heap.size < w1.heap.size := of.lt
      go_wp2_with fail
      go_quiet (fail)
      go_wp2
      go_returns
      exact ⟨retI H.out.symm, belowB⟩
    | false =>
      by_cases h0 : lb = []
      · have H : Hid (errC (validF gx la false lb) = 8) := if_neg (fun h => h.2.2.2.1 h0)
        simp only [decide_eq_true (hz.2 h0)] at zr'
        clear h1 h2 hm0 hz h0
        go_enter Try.func36, Try.ntmps36
        go_wp2_with fail
        refine (gc' _ belowB).mono ?_
        rintro e w1 ⟨vg, rfl, hng, fitG, hb1⟩
        have st : Steps _ w1 := hb1
        have Bn : Below w.heap.size w w1 := belowA st
        have nf : Blk w1 (w.heap.size) 28 #[.bool gx, .slice aa n ca, .bool false, .slice ab m cb] := Blk.stepsA st
        clear st
        have B := Bn
        clear Bn
        have of := nf
        clear nf
        have cf0 := of.q0
        have cf1 := of.q1
        have cf2 := of.q2
        have cf3 := of.q3
        have ff := of.fr
        have lf := of.lt
        clear gc'
        obtain ⟨bg, ag, ng, cg, rfl⟩ := hng.shape
        have NG := Hid.mk_ hng
        clear hng
        have hf3 : w.heap.size < w1.heap.size := of.lt
        go_wp2_with fail
        go_region_with (go_at_call 63; refine (zr' _ belowB).mono ?_; rintro e wv ⟨rfl, hbv⟩; go_must (have st : Steps _ wv := hbv; have Bn : Below w.heap.size w wv := belowA st; have nf : Blk wv (w.heap.size) 28 #[.bool gx, .slice aa n ca, .bool false, .slice ab m cb] := Blk.stepsA st; have ng : Blk wv (w1.heap.size) 26 #[.bool bg, .slice ag ng cg] := Blk.stepsA st; clear B of cf0 cf1 cf2 cf3 ff lf; clear st; have B := Bn; clear Bn; have of := nf; clear nf; have cf0 : World.cell? wv ⟨w.heap.size, 0, none⟩ = some (.bool gx) := of.c 0 rfl; have cf1 : World.cell? wv ⟨w.heap.size, 1, none⟩ = some (.slice aa n ca) := of.c 1 rfl; have cf2 : World.cell? wv ⟨w.heap.size, 2, none⟩ = some (.bool false) := of.c 2 rfl; have cf3 : World.cell? wv ⟨w.heap.size, 3, none⟩ = some (.slice ab m cb) := of.c 3 rfl; have ff := of.fr; have lf := of.lt; have og := ng; clear ng; have cg0 : World.cell? wv ⟨w1.heap.size, 0, none⟩ = some (.bool bg) := og.c 0 rfl; have cg1 : World.cell? wv ⟨w1.heap.size, 1, none⟩ = some (.slice ag ng cg) := og.c 1 rfl; have fg := og.fr; have lg := og.lt))
        all_goals (go_wp2; go_returns; exact ⟨retI H.out.symm, belowB⟩)
      · have HV : errC (validF gx la false lb) = if gcdI (zv gx (lval la)) (zv false (lval lb)) = 1 then 0 else 8 := by
          by_cases hg : gcdI (zv gx (lval la)) (zv false (lval lb)) = 1
          · rw [if_pos hg]; exact if_pos ⟨h1, h2, rfl, h0, hg⟩
          · rw [if_neg hg]; exact if_neg (fun h => hg h.2.2.2.2)
        simp only [decide_eq_false (fun e => h0 (hz.1 e))] at zr'
        obtain ⟨G, hG⟩ : ∃ G, gcdI (zv gx (lval la)) (zv false (lval lb)) = G := ⟨_, rfl⟩
        rw [hG] at gc' HV
        clear h1 h2 hm0 hG h0 hz
        have sm : ∀ w' va vb, Num w' va G → Num w' vb 1 → fits G → Calls Try.prog 64 #[va, vb] w' fun e w2 => e = .returned (.bool (decide (G = 1))) ∧ Steps w' w2 := fun w' va vb h1 h2 h3 => fsame w' h1 h2 h3 (fits_small (by unfold absN; omega))
        by_cases hg : G = 1
        · rw [if_pos hg] at HV
          have H := Hid.mk_ HV
          simp only [decide_eq_true hg] at sm
          clear HV hg
          go_enter Try.func36, Try.ntmps36
          go_wp2_with fail
          refine (gc' _ belowB).mono ?_
          rintro e w1 ⟨vg, rfl, hng, fitG, hb1⟩
          have st : Steps _ w1 := hb1
          have Bn : Below w.heap.size w w1 := belowA st
          have nf : Blk w1 (w.heap.size) 28 #[.bool gx, .slice aa n ca, .bool false, .slice ab m cb] := Blk.stepsA st
          clear st
          have B := Bn
          clear Bn
          have of := nf
          clear nf
          have cf0 := of.q0
          have cf1 := of.q1
          have cf2 := of.q2
          have cf3 := of.q3
          have ff := of.fr
          have lf := of.lt
          clear gc'
          obtain ⟨bg, ag, ng, cg, rfl⟩ := hng.shape
          have NG := Hid.mk_ hng
          clear hng
          have hf3 : w.heap.size < w1.heap.size := of.lt
          go_wp2_with fail
          go_region_held3 (fun w' => w'.cell? ⟨w.heap.size, 0, none⟩ = some (.bool gx) ∧ w'.cell? ⟨w.heap.size, 1, none⟩ = some (.slice aa n ca) ∧ w'.cell? ⟨w.heap.size, 2, none⟩ = some (.bool false) ∧ w'.cell? ⟨w.heap.size, 3, none⟩ = some (.slice ab m cb) ∧ w'.cell? ⟨w1.heap.size, 0, none⟩ = some (.bool bg) ∧ w'.cell? ⟨w1.heap.size, 1, none⟩ = some (.slice ag ng cg))
            ((refine ⟨Blk.c (t := 28) (cs := #[.bool gx, .slice aa n ca, .bool false, .slice ab m cb]) ?_ 0 rfl, Blk.c (t := 28) (cs := #[.bool gx, .slice aa n ca, .bool false, .slice ab m cb]) ?_ 1 rfl, Blk.c (t := 28) (cs := #[.bool gx, .slice aa n ca, .bool false, .slice ab m cb]) ?_ 2 rfl, Blk.c (t := 28) (cs := #[.bool gx, .slice aa n ca, .bool false, .slice ab m cb]) ?_ 3 rfl, Blk.c (t := 26) (cs := #[.bool bg, .slice ag ng cg]) ?_ 0 rfl, Blk.c (t := 26) (cs := #[.bool bg, .slice ag ng cg]) ?_ 1 rfl⟩ <;> (repeat' first | with_reducible assumption | (with_reducible refine Blk.new' ?_; first | with_reducible rfl | (simp only [World.size_alloc, World.size_setCell, World.size_drew]; done)) | with_reducible refine Blk.alloc ?_ _ | with_reducible refine Blk.drew ?_ | with_reducible refine Blk.drewN ?_ _ | with_reducible apply Blk.both | with_reducible refine Blk.far' ?_ ?_ | (show _ ≠ _; omega))))
            (first
              | ((go_at_call 63; refine (zr' _ belowB).mono ?_; rintro e wv ⟨rfl, hbv⟩; go_must (have NG1 := Hid.mk_ (NG.out.steps (((Below.refl _ _).alloc (Nat.le_refl _) _).drew.trans (hbv.mono (by simp)))); have st : Steps _ wv := hbv; have Bn : Below w.heap.size w wv := belowA st; have nf : Blk wv (w.heap.size) 28 #[.bool gx, .slice aa n ca, .bool false, .slice ab m cb] := Blk.stepsA st; have ng : Blk wv (w1.heap.size) 26 #[.bool bg, .slice ag ng cg] := Blk.stepsA st; clear B of cf0 cf1 cf2 cf3 ff lf; clear st; have B := Bn; clear Bn; have of := nf; clear nf; have cf0 : World.cell? wv ⟨w.heap.size, 0, none⟩ = some (.bool gx) := of.c 0 rfl; have cf1 : World.cell? wv ⟨w.heap.size, 1, none⟩ = some (.slice aa n ca) := of.c 1 rfl; have cf2 : World.cell? wv ⟨w.heap.size, 2, none⟩ = some (.bool false) := of.c 2 rfl; have cf3 : World.cell? wv ⟨w.heap.size, 3, none⟩ = some (.slice ab m cb) := of.c 3 rfl; have ff := of.fr; have lf := of.lt; have og := ng; clear ng; have cg0 : World.cell? wv ⟨w1.heap.size, 0, none⟩ = some (.bool bg) := og.c 0 rfl; have cg1 : World.cell? wv ⟨w1.heap.size, 1, none⟩ = some (.slice ag ng cg) := og.c 1 rfl; have fg := og.fr; have lg := og.lt; have Z1 := Hid.mk_ (And.intro hbv trivial))))
              | ((go_at_call 65; refine (fone _).mono ?_; rintro e wv ⟨vo, rfl, hno, hbv⟩; go_must (have NG2 := Hid.mk_ (NG1.out.steps hbv); have st : Steps _ wv := hbv; have Bn : Below w.heap.size w wv := belowA st; have nf : Blk wv (w.heap.size) 28 #[.bool gx, .slice aa n ca, .bool false, .slice ab m cb] := Blk.stepsA st; have ng : Blk wv (w1.heap.size) 26 #[.bool bg, .slice ag ng cg] := Blk.stepsA st; clear B of og cf0 cf1 cf2 cf3 ff lf cg0 cg1 fg lg; clear st; have B := Bn; clear Bn; have of := nf; clear nf; have cf0 : World.cell? wv ⟨w.heap.size, 0, none⟩ = some (.bool gx) := of.c 0 rfl; have cf1 : World.cell? wv ⟨w.heap.size, 1, none⟩ = some (.slice aa n ca) := of.c 1 rfl; have cf2 : World.cell? wv ⟨w.heap.size, 2, none⟩ = some (.bool false) := of.c 2 rfl; have cf3 : World.cell? wv ⟨w.heap.size, 3, none⟩ = some (.slice ab m cb) := of.c 3 rfl; have ff := of.fr; have lf := of.lt; have og := ng; clear ng; have cg0 : World.cell? wv ⟨w1.heap.size, 0, none⟩ = some (.bool bg) := og.c 0 rfl; have cg1 : World.cell? wv ⟨w1.heap.size, 1, none⟩ = some (.slice ag ng cg) := og.c 1 rfl; have fg := og.fr; have lg := og.lt; obtain ⟨bo', ao', no', co', rfl⟩ := hno.shape; have NO := Hid.mk_ hno; clear hno)))
              | ((go_at_call 64; refine (sm _ _ _ NG2.out NO.out fitG).mono ?_; rintro e wv ⟨rfl, hbv⟩; go_must (have st : Steps _ wv := hbv; have Bn : Below w.heap.size w wv := belowA st; have nf : Blk wv (w.heap.size) 28 #[.bool gx, .slice aa n ca, .bool false, .slice ab m cb] := Blk.stepsA st; have ng : Blk wv (w1.heap.size) 26 #[.bool bg, .slice ag ng cg] := Blk.stepsA st; clear B of og cf0 cf1 cf2 cf3 ff lf cg0 cg1 fg lg; clear st; have B := Bn; clear Bn; have of := nf; clear nf; have cf0 : World.cell? wv ⟨w.heap.size, 0, none⟩ = some (.bool gx) := of.c 0 rfl; have cf1 : World.cell? wv ⟨w.heap.size, 1, none⟩ = some (.slice aa n ca) := of.c 1 rfl; have cf2 : World.cell? wv ⟨w.heap.size, 2, none⟩ = some (.bool false) := of.c 2 rfl; have cf3 : World.cell? wv ⟨w.heap.size, 3, none⟩ = some (.slice ab m cb) := of.c 3 rfl; have ff := of.fr; have lf := of.lt; have og := ng; clear ng; have cg0 : World.cell? wv ⟨w1.heap.size, 0, none⟩ = some (.bool bg) := og.c 0 rfl; have cg1 : World.cell? wv ⟨w1.heap.size, 1, none⟩ = some (.slice ag ng cg) := og.c 1 rfl; have fg := og.fr; have lg := og.lt))))
          go_wp2
          go_returns
          exact ⟨retI H.out.symm, belowB⟩
        · rw [if_neg hg] at HV
          have H := Hid.mk_ HV
          simp only [decide_eq_false hg] at sm
          clear HV hg
          go_enter Try.func36, Try.ntmps36
          go_wp2_with fail
          refine (gc' _ belowB).mono ?_
          rintro e w1 ⟨vg, rfl, hng, fitG, hb1⟩
          have st : Steps _ w1 := hb1
          have Bn : Below w.heap.size w w1 := belowA st
          have nf : Blk w1 (w.heap.size) 28 #[.bool gx, .slice aa n ca, .bool false, .slice ab m cb] := Blk.stepsA st
          clear st
          have B := Bn
          clear Bn
          have of := nf
          clear nf
          have cf0 := of.q0
          have cf1 := of.q1
          have cf2 := of.q2
          have cf3 := of.q3
          have ff := of.fr
          have lf := of.lt
          clear gc'
          obtain ⟨bg, ag, ng, cg, rfl⟩ := hng.shape
          have NG := Hid.mk_ hng
          clear hng
          have hf3 : w.heap.size < w1.heap.size := of.lt
          go_wp2_with fail
          go_region_held3 (fun w' => w'.cell? ⟨w.heap.size, 0, none⟩ = some (.bool gx) ∧ w'.cell? ⟨w.heap.size, 1, none⟩ = some (.slice aa n ca) ∧ w'.cell? ⟨w.heap.size, 2, none⟩ = some (.bool false) ∧ w'.cell? ⟨w.heap.size, 3, none⟩ = some (.slice ab m cb) ∧ w'.cell? ⟨w1.heap.size, 0, none⟩ = some (.bool bg) ∧ w'.cell? ⟨w1.heap.size, 1, none⟩ = some (.slice ag ng cg))
            ((refine ⟨Blk.c (t := 28) (cs := #[.bool gx, .slice aa n ca, .bool false, .slice ab m cb]) ?_ 0 rfl, Blk.c (t := 28) (cs := #[.bool gx, .slice aa n ca, .bool false, .slice ab m cb]) ?_ 1 rfl, Blk.c (t := 28) (cs := #[.bool gx, .slice aa n ca, .bool false, .slice ab m cb]) ?_ 2 rfl, Blk.c (t := 28) (cs := #[.bool gx, .slice aa n ca, .bool false, .slice ab m cb]) ?_ 3 rfl, Blk.c (t := 26) (cs := #[.bool bg, .slice ag ng cg]) ?_ 0 rfl, Blk.c (t := 26) (cs := #[.bool bg, .slice ag ng cg]) ?_ 1 rfl⟩ <;> (repeat' first | with_reducible assumption | (with_reducible refine Blk.new' ?_; first | with_reducible rfl | (simp only [World.size_alloc, World.size_setCell, World.size_drew]; done)) | with_reducible refine Blk.alloc ?_ _ | with_reducible refine Blk.drew ?_ | with_reducible refine Blk.drewN ?_ _ | with_reducible apply Blk.both | with_reducible refine Blk.far' ?_ ?_ | (show _ ≠ _; omega))))
            (first
              | ((go_at_call 63; refine (zr' _ belowB).mono ?_; rintro e wv ⟨rfl, hbv⟩; go_must (have NG1 := Hid.mk_ (NG.out.steps (((Below.refl _ _).alloc (Nat.le_refl _) _).drew.trans (hbv.mono (by simp)))); have st : Steps _ wv := hbv; have Bn : Below w.heap.size w wv := belowA st; have nf : Blk wv (w.heap.size) 28 #[.bool gx, .slice aa n ca, .bool false, .slice ab m cb] := Blk.stepsA st; have ng : Blk wv (w1.heap.size) 26 #[.bool bg, .slice ag ng cg] := Blk.stepsA st; clear B of cf0 cf1 cf2 cf3 ff lf; clear st; have B := Bn; clear Bn; have of := nf; clear nf; have cf0 : World.cell? wv ⟨w.heap.size, 0, none⟩ = some (.bool gx) := of.c 0 rfl; have cf1 : World.cell? wv ⟨w.heap.size, 1, none⟩ = some (.slice aa n ca) := of.c 1 rfl; have cf2 : World.cell? wv ⟨w.heap.size, 2, none⟩ = some (.bool false) := of.c 2 rfl; have cf3 : World.cell? wv ⟨w.heap.size, 3, none⟩ = some (.slice ab m cb) := of.c 3 rfl; have ff := of.fr; have lf := of.lt; have og := ng; clear ng; have cg0 : World.cell? wv ⟨w1.heap.size, 0, none⟩ = some (.bool bg) := og.c 0 rfl; have cg1 : World.cell? wv ⟨w1.heap.size, 1, none⟩ = some (.slice ag ng cg) := og.c 1 rfl; have fg := og.fr; have lg := og.lt; have Z1 := Hid.mk_ (And.intro hbv trivial))))
              | ((go_at_call 65; refine (fone _).mono ?_; rintro e wv ⟨vo, rfl, hno, hbv⟩; go_must (have NG2 := Hid.mk_ (NG1.out.steps hbv); have st : Steps _ wv := hbv; have Bn : Below w.heap.size w wv := belowA st; have nf : Blk wv (w.heap.size) 28 #[.bool gx, .slice aa n ca, .bool false, .slice ab m cb] := Blk.stepsA st; have ng : Blk wv (w1.heap.size) 26 #[.bool bg, .slice ag ng cg] := Blk.stepsA st; clear B of og cf0 cf1 cf2 cf3 ff lf cg0 cg1 fg lg; clear st; have B := Bn; clear Bn; have of := nf; clear nf; have cf0 : World.cell? wv ⟨w.heap.size, 0, none⟩ = some (.bool gx) := of.c 0 rfl; have cf1 : World.cell? wv ⟨w.heap.size, 1, none⟩ = some (.slice aa n ca) := of.c 1 rfl; have cf2 : World.cell? wv ⟨w.heap.size, 2, none⟩ = some (.bool false) := of.c 2 rfl; have cf3 : World.cell? wv ⟨w.heap.size, 3, none⟩ = some (.slice ab m cb) := of.c 3 rfl; have ff := of.fr; have lf := of.lt; have og := ng; clear ng; have cg0 : World.cell? wv ⟨w1.heap.size, 0, none⟩ = some (.bool bg) := og.c 0 rfl; have cg1 : World.cell? wv ⟨w1.heap.size, 1, none⟩ = some (.slice ag ng cg) := og.c 1 rfl; have fg := og.fr; have lg := og.lt; obtain ⟨bo', ao', no', co', rfl⟩ := hno.shape; have NO := Hid.mk_ hno; clear hno)))
              | ((go_at_call 64; refine (sm _ _ _ NG2.out NO.out fitG).mono ?_; rintro e wv ⟨rfl, hbv⟩; go_must (have st : Steps _ wv := hbv; have Bn : Below w.heap.size w wv := belowA st; have nf : Blk wv (w.heap.size) 28 #[.bool gx, .slice aa n ca, .bool false, .slice ab m cb] := Blk.stepsA st; have ng : Blk wv (w1.heap.size) 26 #[.bool bg, .slice ag ng cg] := Blk.stepsA st; clear B of og cf0 cf1 cf2 cf3 ff lf cg0 cg1 fg lg; clear st; have B := Bn; clear Bn; have of := nf; clear nf; have cf0 : World.cell? wv ⟨w.heap.size, 0, none⟩ = some (.bool gx) := of.c 0 rfl; have cf1 : World.cell? wv ⟨w.heap.size, 1, none⟩ = some (.slice aa n ca) := of.c 1 rfl; have cf2 : World.cell? wv ⟨w.heap.size, 2, none⟩ = some (.bool false) := of.c 2 rfl; have cf3 : World.cell? wv ⟨w.heap.size, 3, none⟩ = some (.slice ab m cb) := of.c 3 rfl; have ff := of.fr; have lf := of.lt; have og := ng; clear ng; have cg0 : World.cell? wv ⟨w1.heap.size, 0, none⟩ = some (.bool bg) := og.c 0 rfl; have cg1 : World.cell? wv ⟨w1.heap.size, 1, none⟩ = some (.slice ag ng cg) := og.c 1 rfl; have fg := og.fr; have lg := og.lt))))
          go_wp2
          go_returns
          exact ⟨retI H.out.symm, belowB⟩
  · have H : Hid (errC (validF gx la gy lb) = 8) := if_neg (fun h => hv ⟨h.1, h.2.1⟩)
    have gb' := gb hv
    clear gb gc zr hz0 hv hm0
    go_enter Try.func36, Try.ntmps36
    go_wp2_with fail
    refine (gb' _ belowB).mono ?_
    rintro e w1 ⟨rfl, hb1⟩
    have st : Steps _ w1 := hb1
    have Bn : Below w.heap.size w w1 := belowA st
    have nf : Blk w1 (w.heap.size) 28 #[.bool gx, .slice aa n ca, .bool gy, .slice ab m cb] := Blk.stepsA st
    clear st
    have B := Bn
    clear Bn
    have of := nf
    clear nf
    have cf0 := of.q0
    have cf1 := of.q1
    have cf2 := of.q2
    have cf3 := of.q3
    have ff := of.fr
    have lf := of.lt
    clear gb'
    go_wp2_with fail
    go_quiet (fail)
    go_wp2
    go_returns
    exact ⟨retI H.out.symm, belowB⟩
end Go.Proofs.Ytibdehlmflaodaa
namespace Go.Proofs.Ytibdehlmflaodaa
open Go.RowKit
def Frc (w : World) (v : Value) (p q : Int) : Prop := ∃ sp sq, v = .agg #[.bool (decide (p < 0)), sp, .bool false, sq] ∧ Lim w sp (limbs (absN p)) ∧ Lim w sq (limbs q) ∧ 0 < q ∧ gcdI p q = 1 ∧ fits p ∧ fits q
theorem Frc.steps {w w' : World} {v : Value} {p q : Int} (h : Frc w v p q) (hs : Steps w w') : Frc w' v p q := by
  obtain ⟨sp, sq, e, l1, l2, h⟩ := h
  exact ⟨sp, sq, e, l1.steps hs, l2.steps hs, h⟩
theorem zv_self (p : Int) : zv (decide (p < 0)) (absN p) = p := by
  unfold zv absN
  by_cases h : p < 0
  · rw [decide_eq_true h]; simp; omega
  · rw [decide_eq_false h]; simp; omega
theorem validF_of {p q : Int} (q0 : 0 < q) (hg : gcdI p q = 1) (fp : fits p) (fq : fits q) : validF (decide (p < 0)) (limbs (absN p)) false (limbs q) := by
  have v2 := valid_of fq
  rw [decide_eq_false (by omega), absN_of (by omega)] at v2
  refine ⟨valid_of fp, v2, rfl, fun e => by have := (limbs_nil (by omega)).1 e; omega, ?_⟩
  rw [lval_limbs (absN_nonneg p), lval_limbs (by omega), zv_self]
  exact hg
theorem fcheck_ok {v : Value} {p q : Int} (w : World) (h : Frc w v p q) : Calls Try.prog 36 #[v] w fun e w' => e = .returned (.int .i64 0) ∧ Steps w w' := by
  obtain ⟨sp, sq, rfl, l1, l2, q0, hg, fp, fq⟩ := h
  have := fcheck (decide (p < 0)) false w l1 l2
  rw [errC_eq, if_pos (validF_of q0 hg fp fq)] at this
  exact this
def ofI (p q : Int) : Int × Int × Int := md (divF (p * 1099511627776) q) (divF (p * 1099511627776) q + if 0 < modF (p * 1099511627776) q then 1 else 0)
def whI (n : Int) : Int × Int × Int := if n < -2097152 ∨ 2097152 < n then (0, 0, 16) else (n * 1099511627776, n * 1099511627776, 0)
theorem divmod_is {x y L r : Int} (h0 : 0 ≤ r) (h1 : r < y) (h : L * y + r = x) : divF x y = L ∧ modF x y = r :=
  divF_of (by rw [Int.mul_comm]; exact h.symm) (.inl ⟨h0, h1⟩)
def OfInv (p q : Int) (j : Nat) (L r S : Int) : Prop := 0 ≤ r ∧ r < q ∧ L * q + r = p * ((2 ^ (40 - j) : Nat) : Int) ∧ S = L * ((2 ^ j : Nat) : Int) ∧ -2305843009213693952 ≤ S ∧ S + ((2 ^ j : Nat) : Int) ≤ 2305844108725321728
theorem OfInv.start {p q N R0 : Int} (DM : N * q + R0 = p ∧ 0 ≤ R0 ∧ R0 < q) (h1 : -2097152 ≤ N) (h2 : N ≤ 2097152) : OfInv p q 40 N R0 (N * 1099511627776) := by
  refine ⟨DM.2.1, DM.2.2, by simp; exact DM.1, by simp, by omega, by simp; omega⟩
theorem next_core {p q L r S P X : Int} (P0 : 1 ≤ P) (a : 0 ≤ r) (b : r < q) (c : L * q + r = p * X) (d : S = L * (2 * P)) (e : -2305843009213693952 ≤ S) (f : S + 2 * P ≤ 2305844108725321728) :
    (r < q - r → 0 ≤ r + r ∧ r + r < q ∧ 2 * L * q + (r + r) = p * (2 * X) ∧ S = 2 * L * P ∧ -2305843009213693952 ≤ S ∧ S + P ≤ 2305844108725321728) ∧
    (q - r ≤ r → 0 ≤ r - (q - r) ∧ r - (q - r) < q ∧ (2 * L + 1) * q + (r - (q - r)) = p * (2 * X) ∧ S + P = (2 * L + 1) * P ∧ -2305843009213693952 ≤ S + P ∧ S + P + P ≤ 2305844108725321728) := by
  have p4 : p * (2 * X) = 2 * (p * X) := by rw [← Int.mul_assoc, Int.mul_comm p 2, Int.mul_assoc]
  have p5 : L * (2 * P) = 2 * L * P := by rw [← Int.mul_assoc, Int.mul_comm L 2]
  have p6 : 2 * L * q = 2 * (L * q) := Int.mul_assoc 2 L q
  have p7 : (2 * L + 1) * q = 2 * (L * q) + q := by rw [Int.add_mul, p6, Int.one_mul]
  have p8 : (2 * L + 1) * P = 2 * L * P + P := by rw [Int.add_mul, Int.one_mul]
  rw [p4, p6, p7, p8, d, p5]
  rw [d, p5] at e f
  exact ⟨fun h => ⟨by omega, by omega, by omega, rfl, by omega, by omega⟩, fun h => ⟨by omega, by omega, by omega, rfl, by omega, by omega⟩⟩
theorem OfInv.next {p q : Int} {k : Nat} {L r S : Int} (hk : k + 1 ≤ 40) (I : OfInv p q (k + 1) L r S) :
    (r < q - r → OfInv p q k (2 * L) (r + r) S) ∧ (q - r ≤ r → OfInv p q k (2 * L + 1) (r - (q - r)) (S + ((2 ^ k : Nat) : Int))) := by
  obtain ⟨a, b, c, d, e, f⟩ := I
  have p1 : ((2 ^ (k + 1) : Nat) : Int) = 2 * ((2 ^ k : Nat) : Int) := by rw [Nat.pow_succ]; omega
  have p2 : ((2 ^ (40 - k) : Nat) : Int) = 2 * ((2 ^ (40 - (k + 1)) : Nat) : Int) := by rw [show 40 - k = (40 - (k + 1)) + 1 by omega, Nat.pow_succ]; omega
  have p3 := Nat.one_le_two_pow (n := k)
  rw [p1] at d f
  unfold OfInv
  rw [p2]
  exact next_core (by omega) a b c d e f
theorem OfInv.done {p q L r S : Int} (I : OfInv p q 0 L r S) : divF (p * 1099511627776) q = S ∧ modF (p * 1099511627776) q = r := by
  obtain ⟨a, b, c, d, e, f⟩ := I
  simp at c d
  rw [d]
  exact divmod_is a b c
end Go.Proofs.Ytibdehlmflaodaa
namespace Go.Proofs.Ytibdehlmflaodaa
open Go.RowKit
def rg (x y : Int) : Int := if y < 0 then -gcdI x y else gcdI x y
def rdP (x y : Int) : Int := divF x (rg x y)
def rdQ (x y : Int) : Int := divF y (rg x y)
theorem gcdI_pos {x y : Int} (h : y ≠ 0) : 0 < gcdI x y := by
  unfold gcdI
  have := Int.gcd_pos_of_ne_zero_right x h
  omega
theorem divF_exact {k g : Int} (h : g ≠ 0) : divF (k * g) g = k := by
  unfold divF
  exact Int.mul_fdiv_cancel k h
theorem rg_ne {x y : Int} (h : y ≠ 0) : rg x y ≠ 0 := by
  have := gcdI_pos (x := x) h
  unfold rg
  split <;> omega
theorem gcdI_dvd (x y : Int) : gcdI x y ∣ x ∧ gcdI x y ∣ y := ⟨Int.gcd_dvd_left x y, Int.gcd_dvd_right x y⟩
theorem rg_dvd (x y : Int) : rg x y ∣ x ∧ rg x y ∣ y := by
  have := gcdI_dvd x y
  unfold rg
  split
  · exact ⟨Int.neg_dvd.2 this.1, Int.neg_dvd.2 this.2⟩
  · exact this
theorem rd_mul {x y : Int} (h : y ≠ 0) : rdP x y * rg x y = x ∧ rdQ x y * rg x y = y := by
  obtain ⟨⟨a, ha⟩, ⟨b, hb⟩⟩ := rg_dvd x y
  have g0 := rg_ne (x := x) h
  unfold rdP rdQ
  have e1 : divF x (rg x y) = a := by
    conv => lhs; rw [ha, Int.mul_comm]
    rw [show rg (a * rg x y) y = rg (a * rg x y) y from rfl]
    rw [Int.mul_comm a, ← ha]
    have := divF_exact (k := a) g0
    rw [Int.mul_comm, ← ha] at this
    exact this
  have e2 : divF y (rg x y) = b := by
    have := divF_exact (k := b) g0
    rw [Int.mul_comm, ← hb] at this
    exact this
  rw [e1, e2, Int.mul_comm a, Int.mul_comm b]
  exact ⟨ha.symm, hb.symm⟩
theorem rdQ_pos {x y : Int} (h : y ≠ 0) : 0 < rdQ x y := by
  have m := (rd_mul (x := x) h).2
  have g := gcdI_pos (x := x) h
  obtain ⟨G, hG⟩ : ∃ G, gcdI x y = G := ⟨_, rfl⟩
  unfold rg at m
  rw [hG] at m g
  rcases Int.lt_or_le 0 (rdQ x y) with k | k
  · exact k
  · exfalso
    split at m
    · have h1 := Int.mul_nonneg_of_nonpos_of_nonpos k (show -G ≤ 0 by omega)
      rw [m] at h1
      omega
    · have := Int.mul_le_mul_of_nonneg_right k (show 0 ≤ G by omega)
      rw [m] at this
      omega
theorem gcd_one_of {a b g : Int} (hg : 0 < g) (h : gcdI (a * g) (b * g) = g) : gcdI a b = 1 := by
  unfold gcdI at h ⊢
  rw [Int.gcd_mul_right] at h
  have e : ((g.natAbs : Nat) : Int) = g := by omega
  have k : ((Int.gcd a b : Nat) : Int) * g = 1 * g := by
    rw [Int.one_mul]
    conv => rhs; rw [← h]
    rw [Int.natCast_mul, e]
  exact Int.eq_of_mul_eq_mul_right (by omega) k
theorem rd_gcd {x y : Int} (h : y ≠ 0) : gcdI (rdP x y) (rdQ x y) = 1 := by
  have m := rd_mul (x := x) h
  have g := gcdI_pos (x := x) h
  unfold rg at m
  split at m
  · rw [Int.mul_neg, Int.mul_neg] at m
    refine gcd_one_of g ?_
    have e1 : rdP x y * gcdI x y = -x := by omega
    have e2 : rdQ x y * gcdI x y = -y := by omega
    rw [e1, e2]
    unfold gcdI
    rw [Int.neg_gcd, Int.gcd_neg]
  · refine gcd_one_of g ?_
    rw [m.1, m.2]
theorem dvd_of_gcd_one {k n m : Int} (h : Int.gcd k n = 1) (hd : k ∣ n * m) : k ∣ m := by
  have := (Int.dvd_gcd_mul_iff_dvd_mul (k := k) (n := n) (m := m)).2 hd
  rw [h] at this
  simpa using this
theorem red_unique {p q p' q' : Int} (q0 : 0 < q) (q0' : 0 < q') (g : gcdI p q = 1) (g' : gcdI p' q' = 1) (h : p * q' = p' * q) : p = p' ∧ q = q' := by
  unfold gcdI at g g'
  have g1 : Int.gcd p q = 1 := by omega
  have g2 : Int.gcd p' q' = 1 := by omega
  have d1 : q ∣ q' := by
    have : q ∣ p * q' := ⟨p', by rw [h, Int.mul_comm]⟩
    exact dvd_of_gcd_one (by rw [Int.gcd_comm]; exact g1) this
  have d2 : q' ∣ q := by
    have : q' ∣ p' * q := ⟨p, by rw [← h, Int.mul_comm]⟩
    exact dvd_of_gcd_one (by rw [Int.gcd_comm]; exact g2) this
  have e : q = q' := by
    have l1 := Int.le_of_dvd q0' d1
    have l2 := Int.le_of_dvd q0 d2
    omega
  subst e
  exact ⟨Int.eq_of_mul_eq_mul_right (by omega) h, rfl⟩
theorem rd_unique {x y p q : Int} (hy : y ≠ 0) (q0 : 0 < q) (g : gcdI p q = 1) (h : p * y = x * q) : rdP x y = p ∧ rdQ x y = q := by
  have m := rd_mul (x := x) hy
  have g0 := rg_ne (x := x) hy
  refine red_unique (rdQ_pos hy) q0 (rd_gcd hy) g ?_
  have e : (rdP x y * q) * rg x y = (p * rdQ x y) * rg x y := by
    rw [Int.mul_right_comm, m.1, Int.mul_assoc, m.2]; exact h.symm
  exact Int.eq_of_mul_eq_mul_right g0 e
theorem rd_abs {x y : Int} (h : y ≠ 0) : absN (rdP x y) ≤ absN x ∧ absN (rdQ x y) ≤ absN y ∧ absN (rg x y) ≤ absN y := by
  have m := rd_mul (x := x) h
  have g0 := rg_ne (x := x) h
  have key : ∀ a g : Int, g ≠ 0 → absN a ≤ absN (a * g) := fun a g hg => by
    unfold absN
    rw [Int.natAbs_mul]
    have : 1 ≤ g.natAbs := by omega
    have := Nat.mul_le_mul_left a.natAbs this
    omega
  have k1 := key (rdP x y) (rg x y) g0
  have k2 := key (rdQ x y) (rg x y) g0
  have q0 := rdQ_pos (x := x) h
  have k3 := key (rg x y) (rdQ x y) (by omega)
  rw [m.1] at k1
  rw [m.2] at k2
  rw [Int.mul_comm, m.2] at k3
  exact ⟨k1, k2, k3⟩
theorem Frc.mk' {w : World} {a b : Bool} {s t : Value} {p q : Int} (h1 : Num w (.agg #[.bool a, s]) p) (h2 : Num w (.agg #[.bool b, t]) q) (q0 : 0 < q) (hg : gcdI p q = 1) (fp : fits p) (fq : fits q) : Frc w (.agg #[.bool a, s, .bool b, t]) p q := by
  obtain ⟨s1, e1, l1⟩ := h1
  obtain ⟨s2, e2, l2⟩ := h2
  simp only [Value.agg.injEq, Array.mk.injEq, List.cons.injEq, Value.bool.injEq, and_true] at e1 e2
  obtain ⟨rfl, rfl⟩ := e1
  obtain ⟨rfl, rfl⟩ := e2
  rw [absN_of (by omega)] at l2
  exact ⟨s, t, by rw [decide_eq_false (by omega : ¬ q < 0)], l1, l2, q0, hg, fp, fq⟩
theorem Frc.nums {w : World} {v : Value} {p q : Int} (h : Frc w v p q) : ∃ ap np cp aq nq cq, v = .agg #[.bool (decide (p < 0)), .slice ap np cp, .bool false, .slice aq nq cq] ∧ Num w (.agg #[.bool (decide (p < 0)), .slice ap np cp]) p ∧ Num w (.agg #[.bool false, .slice aq nq cq]) q := by
  obtain ⟨sp, sq, rfl, lp, lq, q0, hg, fp, fq⟩ := h
  obtain ⟨ap, cp, e1⟩ := lp.shape
  obtain ⟨aq, cq, e2⟩ := lq.shape
  refine ⟨ap, (limbs (absN p)).length, cp, aq, (limbs q).length, cq, by rw [e1, e2], ⟨_, rfl, by rw [← e1]; exact lp⟩, ⟨_, by rw [decide_eq_false (by omega : ¬ q < 0)], by rw [absN_of (by omega), ← e2]; exact lq⟩⟩
def Only (r : Nat) (w w' : World) : Prop := w'.heap.size = w.heap.size ∧ ∀ k, k ≠ r → w'.heap[k]? = w.heap[k]?
theorem Only.refl (r : Nat) (w : World) : Only r w w := ⟨rfl, fun _ _ => rfl⟩
theorem Only.set {r i : Nat} {w w' : World} {u : Value} (h : Only r w w') : Only r w (w'.setCell ⟨r, i, none⟩ u) :=
  ⟨by rw [World.size_setCell]; exact h.1, fun k hk => (Below.heap_setCell w' ⟨r, i, none⟩ u k hk).trans (h.2 k hk)⟩
def noU32 (cs : Array Value) : Bool := cs.toList.all fun v => match v with | .int .u32 _ => false | _ => true
theorem noU32_get {cs : Array Value} {k : Nat} {x : Int} (h : noU32 cs = true) : cs[k]? ≠ some (.int .u32 x) := by
  intro e
  obtain ⟨hk, e⟩ := Array.getElem?_eq_some_iff.1 e
  have := List.all_eq_true.1 h cs[k] (by simp)
  rw [e] at this
  cases this
theorem Lim.only {w w' : World} {v : Value} {l : List Int} {r : Nat} {t : TypeId} {cs : Array Value} (h : Lim w v l) (hb : Blk w r t cs) (hn : noU32 cs = true) (ho : Only r w w') : Lim w' v l := by
  obtain ⟨h0, ao', cap, rfl, h1, h3, h2⟩ := h
  refine ⟨h0, ao', cap, rfl, h1, h3, fun hne => ?_⟩
  obtain ⟨b, o, rfl, hbb, hc⟩ := h2 hne
  have hr : b ≠ r := by
    rintro rfl
    have g := hc 0 (List.length_pos_iff.2 hne)
    rw [hb.cell] at g
    exact noU32_get hn g
  exact ⟨b, o, rfl, by rw [ho.1]; exact hbb, fun t ht => (World.cell?_of_block (a := ⟨b, o + t, none⟩) (ho.2 b hr)).trans (hc t ht)⟩
theorem Num.only {w w' : World} {v : Value} {z : Int} {r : Nat} {t : TypeId} {cs : Array Value} (h : Num w v z) (hb : Blk w r t cs) (hn : noU32 cs = true) (ho : Only r w w') : Num w' v z := by
  obtain ⟨s, e, hl⟩ := h
  exact ⟨s, e, hl.only hb hn ho⟩
theorem Frc.only {w w' : World} {v : Value} {p q : Int} {r : Nat} {t : TypeId} {cs : Array Value} (h : Frc w v p q) (hb : Blk w r t cs) (hn : noU32 cs = true) (ho : Only r w w') : Frc w' v p q := by
  obtain ⟨sp, sq, e, l1, l2, h⟩ := h
  exact ⟨sp, sq, e, l1.only hb hn ho, l2.only hb hn ho, h⟩
theorem Frc.alloc_ {w : World} {v : Value} {p q : Int} (h : Frc w v p q) (o : Obj) : Frc (w.alloc o) v p q := h.steps ((Below.refl _ _).alloc (Nat.le_refl _) _)
theorem Frc.shape {w : World} {v : Value} {p q : Int} (h : Frc w v p q) : ∃ a s n c b t m d, v = .agg #[.bool a, .slice s n c, .bool b, .slice t m d] := by
  obtain ⟨ap, np, cp, aq, nq, cq, e, -⟩ := h.nums
  exact ⟨_, _, _, _, _, _, _, _, e⟩
theorem fits_neg {x : Int} (h : fits x) : fits (-x) := by
  unfold fits at *
  rw [show absN (-x) = absN x by unfold absN; omega]
  exact h
theorem zv_not (x : Int) : zv (!decide (x < 0)) (absN x) = -x := by
  unfold zv absN
  by_cases h : x < 0
  · rw [decide_eq_true h]; simp; omega
  · rw [decide_eq_false h]; simp; omega
end Go.Proofs.Ytibdehlmflaodaa
namespace Go.Proofs.Ytibdehlmflaodaa
open Go.RowKit
set_option maxHeartbeats 3200000 in
set_option maxRecDepth 1000000 in
theorem rnegN {va : Value} {x : Int} (w : World) (ha : Num w va x) (fx : fits x) :
    Calls Try.prog 126 #[va] w fun e w' => ∃ v, e = .returned (.tuple #[v, .int .i64 0]) ∧ Num w' v (-x) ∧ Steps w w' := by
  have fn := fits_neg fx
  obtain ⟨aa, ca, rfl, pa⟩ := ha.parts
  have ck : ∀ w', Steps w w' → Calls Try.prog 94 #[.agg #[.bool (decide (x < 0)), .slice aa (limbs (absN x)).length ca]] w' fun e w2 => e = .returned (.int .i64 0) ∧ Steps w' w2 := fun w' h => by
    have := rcheckN (decide (x < 0)) w' (pa.steps h)
    rw [show errC (valid (decide (x < 0)) (limbs (absN x))) = 0 from if_pos (valid_of fx)] at this
    exact this
  have mk : ∀ w', Steps w w' → Calls Try.prog 108 #[.bool (!decide (x < 0)), .slice aa (limbs (absN x)).length ca] w' fun e w2 => ∃ v', e = .returned (.tuple #[v', .int .i64 0]) ∧ Num w2 v' (-x) ∧ Steps w' w2 := fun w' h => by
    have := rmadeN (!decide (x < 0)) w' (pa.steps h) (by unfold fits at fx; unfold few; omega)
    rw [lval_limbs (absN_nonneg x), zv_not, errN_fits fn, clipN_fits fn] at this
    exact this
  obtain ⟨n, hn⟩ : ∃ n, (limbs (absN x)).length = n := ⟨_, rfl⟩
  obtain ⟨gx, hgx⟩ : ∃ b, decide (x < 0) = b := ⟨_, rfl⟩
  rw [hn, hgx] at ck mk ⊢
  clear ha pa hn hgx fx fn
  go_enter Try.func126, Try.ntmps126
  go_wp2_with fail
  refine (ck _ belowB).mono ?_
  rintro e w1 ⟨rfl, hb1⟩
  have st : Steps _ w1 := hb1
  have Bn : Below w.heap.size w w1 := belowA st
  have na : Blk w1 (w.heap.size) 26 #[.bool gx, .slice aa n ca] := Blk.stepsA st
  have nr : Blk w1 (w.heap.size + 1) 26 #[.bool false, .slice none 0 0] := Blk.stepsA st
  clear st
  have B := Bn
  clear Bn
  have oa := na
  clear na
  have ca0 := oa.q0
  have ca1 := oa.q1
  have fa := oa.fr
  have la := oa.lt
  have or := nr
  clear nr
  have cr0 := or.q0
  have cr1 := or.q1
  have fr := or.fr
  have lr := or.lt
  clear ck
  go_wp2_with fail
  refine (mk _ B).mono ?_
  rintro e w2 ⟨v2, rfl, hn2, hb2⟩
  have st : Steps _ w2 := hb2
  have Bn : Below w.heap.size w w2 := belowA st
  have na := oa.stq st
  have nr := or.stq st
  clear B oa or ca0 ca1 fa la cr0 cr1 fr lr
  clear st
  have B := Bn
  clear Bn
  have oa := na
  clear na
  have ca0 := oa.q0
  have ca1 := oa.q1
  have fa := oa.fr
  have la := oa.lt
  have or := nr
  clear nr
  have cr0 := or.q0
  have cr1 := or.q1
  have fr := or.fr
  have lr := or.lt
  clear mk
  obtain ⟨bb, ao, k, c, rfl⟩ := hn2.shape
  have HV := Hid.mk_ hn2
  clear hn2
  go_wp2
  refine bodyPost_ret (by simp [results, Try.results126, go_sem, ca0, ca1, fa, la, cr0, cr1, fr, lr]; rfl) rfl ?_
  exact ⟨_, rfl, HV.out.put2 or, belowB⟩
set_option maxHeartbeats 6400000 in
set_option maxRecDepth 1000000 in
theorem rreduced {va vb : Value} {x y : Int} (w : World) (ha : Num w va x) (hb : Num w vb y) (fx : fits x) (fy : fits y) (hy : y ≠ 0) :
    Calls Try.prog 107 #[va, vb] w fun e w' => ∃ v, e = .returned v ∧ Frc w' v (rdP x y) (rdQ x y) ∧ Steps w w' := by
  have RA := rd_abs (x := x) hy
  have fP : fits (rdP x y) := fits_le RA.1 fx
  have fQ : fits (rdQ x y) := fits_le RA.2.1 fy
  have fG : fits (rg x y) := fits_le RA.2.2 fy
  have g0 := rg_ne (x := x) hy
  have gc := fun (w' : World) (h : Steps w w') => rgcd w' (ha.steps h) (hb.steps h) fx fy
  have d1 : ∀ w' v, Steps w w' → Num w' v (rg x y) → Calls Try.prog 127 #[va, v] w' fun e w2 => ∃ q r, e = .returned (.tuple #[q, r, .int .i64 0]) ∧ Num w2 q (rdP x y) ∧ Num w2 r (modF x (rg x y)) ∧ Steps w' w2 := fun w' v h hv => rdivmod w' (ha.steps h) hv fx fG g0
  have d2 : ∀ w' v, Steps w w' → Num w' v (rg x y) → Calls Try.prog 127 #[vb, v] w' fun e w2 => ∃ q r, e = .returned (.tuple #[q, r, .int .i64 0]) ∧ Num w2 q (rdQ x y) ∧ Num w2 r (modF y (rg x y)) ∧ Steps w' w2 := fun w' v h hv => rdivmod w' (hb.steps h) hv fy fG g0
  have MK := Hid.mk_ (And.intro (rdQ_pos (x := x) hy) (And.intro (rd_gcd (x := x) hy) (And.intro fP fQ)))
  have fg : fits (gcdI x y) := by
    unfold rg at fG
    split at fG
    · have := fits_neg fG; rwa [Int.neg_neg] at this
    · exact fG
  obtain ⟨aa, ca, rfl, -⟩ := ha.parts
  obtain ⟨ab, cb, rfl, -⟩ := hb.parts
  obtain ⟨n, hn⟩ : ∃ n, (limbs (absN x)).length = n := ⟨_, rfl⟩
  obtain ⟨m, hm⟩ : ∃ m, (limbs (absN y)).length = m := ⟨_, rfl⟩
  rw [hn] at gc d1 ⊢
  rw [hm] at gc d2 ⊢
  obtain ⟨gx, hgx⟩ : ∃ b, decide (x < 0) = b := ⟨_, rfl⟩
  rw [hgx] at gc d1 ⊢
  clear ha hb hn hm hgx RA fP fQ fG g0 fx fy
  by_cases hs : y < 0
  · have e := decide_eq_true hs
    rw [e] at gc d2 ⊢
    have HG : rg x y = -gcdI x y := if_pos hs
    rw [HG] at d1 d2
    have ng : ∀ w' v, Num w' v (gcdI x y) → Calls Try.prog 126 #[v] w' fun e w2 => ∃ v', e = .returned (.tuple #[v', .int .i64 0]) ∧ Num w2 v' (-gcdI x y) ∧ Steps w' w2 := fun w' v h => rnegN w' h fg
    clear hs e HG fg hy
    go_enter Try.func107, Try.ntmps107
    go_wp2_with fail
    refine (gc _ belowB).mono ?_
    rintro e w1 ⟨vg, rfl, hg, fg, hb1⟩
    have st : Steps _ w1 := hb1
    have Bn : Below w.heap.size w w1 := belowA st
    have na : Blk w1 (w.heap.size) 26 #[.bool gx, .slice aa n ca] := Blk.stepsA st
    have nb : Blk w1 (w.heap.size + 1) 26 #[.bool true, .slice ab m cb] := Blk.stepsA st
    have nr : Blk w1 (w.heap.size + 1 + 1) 28 #[.bool false, .slice none 0 0, .bool false, .slice none 0 0] := Blk.stepsA st
    clear st
    have B := Bn
    clear Bn
    have oa := na
    clear na
    have ca0 := oa.q0
    have ca1 := oa.q1
    have fa := oa.fr
    have la := oa.lt
    have ob := nb
    clear nb
    have cb0 := ob.q0
    have cb1 := ob.q1
    have fb := ob.fr
    have lb := ob.lt
    have or := nr
    clear nr
    have cr0 := or.q0
    have cr1 := or.q1
    have cr2 := or.q2
    have cr3 := or.q3
    have fr := or.fr
    have lr := or.lt
    clear gc fg
    obtain ⟨bg, ag, ng_, cg, rfl⟩ := hg.shape
    have NG := Hid.mk_ hg
    clear hg
    have z1 : w.heap.size + 1 + 1 < w1.heap.size := or.lt
    go_wp2_with fail
    refine (ng _ _ (NG.out.alloc_ _)).mono ?_
    rintro e w2 ⟨vh, rfl, hh, hb2⟩
    have st : Steps _ w2 := hb2
    have Bn : Below w.heap.size w w2 := belowA st
    have na := oa.stq st
    have nb := ob.stq st
    have nr := or.stq st
    have ng : Blk w2 (w1.heap.size) 26 #[.bool bg, .slice ag ng_ cg] := Blk.stepsA st
    clear B oa ob or ca0 ca1 fa la cb0 cb1 fb lb cr0 cr1 cr2 cr3 fr lr
    clear st
    have B := Bn
    clear Bn
    have oa := na
    clear na
    have ca0 := oa.q0
    have ca1 := oa.q1
    have fa := oa.fr
    have la := oa.lt
    have ob := nb
    clear nb
    have cb0 := ob.q0
    have cb1 := ob.q1
    have fb := ob.fr
    have lb := ob.lt
    have or := nr
    clear nr
    have cr0 := or.q0
    have cr1 := or.q1
    have cr2 := or.q2
    have cr3 := or.q3
    have fr := or.fr
    have lr := or.lt
    have og := ng
    clear ng
    have cg0 := og.q0
    have cg1 := og.q1
    have fg := og.fr
    have lg := og.lt
    clear ng NG
    obtain ⟨bh, ah, nh, ch, rfl⟩ := hh.shape
    have NH := Hid.mk_ hh
    clear hh
    have og' := og
    go_wp2_with fail
    refine (d1 _ _ belowB (NH.out.put2 og')).mono ?_
    rintro e w3 ⟨vp, vr, rfl, hp, hr, hb3⟩
    have st : Steps _ w3 := hb3
    have Bn : Below w.heap.size w w3 := belowA st
    have na := oa.stq st
    have nb := ob.stq st
    have nr := or.stq st
    have ng : Blk w3 (w1.heap.size) 26 #[.bool bh, .slice ah nh ch] := Blk.stepsA st
    clear B oa ob or og ca0 ca1 fa la cb0 cb1 fb lb cr0 cr1 cr2 cr3 fr lr cg0 cg1 fg lg
    clear st
    have B := Bn
    clear Bn
    have oa := na
    clear na
    have ca0 := oa.q0
    have ca1 := oa.q1
    have fa := oa.fr
    have la := oa.lt
    have ob := nb
    clear nb
    have cb0 := ob.q0
    have cb1 := ob.q1
    have fb := ob.fr
    have lb := ob.lt
    have or := nr
    clear nr
    have cr0 := or.q0
    have cr1 := or.q1
    have cr2 := or.q2
    have cr3 := or.q3
    have fr := or.fr
    have lr := or.lt
    have og := ng
    clear ng
    have cg0 := og.q0
    have cg1 := og.q1
    have fg := og.fr
    have lg := og.lt
    clear d1
    have NG2 := Hid.mk_ ((NH.out.put2 og').steps hb3)
    clear NH og'
    obtain ⟨bp_, ap, np, cp, rfl⟩ := hp.shape
    have NP := Hid.mk_ hp
    clear hp
    obtain ⟨br, ar, nr_, cr, rfl⟩ := hr.shape
    clear hr
    have z2 : w1.heap.size < w3.heap.size := og.lt
    go_wp2_with fail
    refine (d2 _ _ belowB ((NG2.out.alloc_ _).alloc_ _)).mono ?_
    rintro e w4 ⟨vq, vt, rfl, hq, ht, hb4⟩
    have st : Steps _ w4 := hb4
    have Bn : Below w.heap.size w w4 := belowA st
    have na := oa.stq st
    have nb := ob.stq st
    have nr := or.stq st
    have ng := og.stq st
    have np : Blk w4 (w3.heap.size) 26 #[.bool bp_, .slice ap np cp] := Blk.stepsA st
    have ns : Blk w4 (w3.heap.size + 1) 26 #[.bool br, .slice ar nr_ cr] := Blk.stepsA st
    clear B oa ob or og ca0 ca1 fa la cb0 cb1 fb lb cr0 cr1 cr2 cr3 fr lr cg0 cg1 fg lg
    clear st
    have B := Bn
    clear Bn
    have oa := na
    clear na
    have ca0 := oa.q0
    have ca1 := oa.q1
    have fa := oa.fr
    have la := oa.lt
    have ob := nb
    clear nb
    have cb0 := ob.q0
    have cb1 := ob.q1
    have fb := ob.fr
    have lb := ob.lt
    have or := nr
    clear nr
    have cr0 := or.q0
    have cr1 := or.q1
    have cr2 := or.q2
    have cr3 := or.q3
    have fr := or.fr
    have lr := or.lt
    have og := ng
    clear ng
    have cg0 := og.q0
    have cg1 := og.q1
    have fg := og.fr
    have lg := og.lt
    have op := np
    clear np
    have cp0 := op.q0
    have cp1 := op.q1
    have fp := op.fr
    have lp := op.lt
    have os := ns
    clear ns
    have cs0 := os.q0
    have cs1 := os.q1
    have fs := os.fr
    have ls := os.lt
    clear d2
    have NP2 := Hid.mk_ (((NP.out.alloc_ (.cells #[.bool bp_, .slice ap np cp] 26)).alloc_ (.cells #[.bool br, .slice ar nr_ cr] 26)).steps hb4)
    clear NP NG2
    obtain ⟨bq, aq, nq, cq, rfl⟩ := hq.shape
    have NQ := Hid.mk_ hq
    clear hq
    obtain ⟨bt, at_', nt_, ct, rfl⟩ := ht.shape
    clear ht
    dsimp only; repeat' (first | go_values | go_skip | go_guarded | go_step | go_upon)
    refine bodyPost_ret (by simp [results, Try.results107, go_sem, ca0, ca1, fa, la, cb0, cb1, fb, lb, cr0, cr1, cr2, cr3, fr, lr, cg0, cg1, fg, lg, cp0, cp1, fp, lp, cs0, cs1, fs, ls]; rfl) rfl ?_
    refine ⟨_, rfl, ?_, belowB⟩
    have HM := MK.out
    exact (((Frc.mk' NP2.out NQ.out HM.1 HM.2.1 HM.2.2.1 HM.2.2.2).only or rfl ((Only.refl _ _).set.set.set.set)).alloc_ _).alloc_ _
  · have e := decide_eq_false hs
    rw [e] at gc d2 ⊢
    have HG : rg x y = gcdI x y := if_neg hs
    rw [HG] at d1 d2
    clear hs e HG fg hy
    go_enter Try.func107, Try.ntmps107
    go_wp2_with fail
    refine (gc _ belowB).mono ?_
    rintro e w1 ⟨vg, rfl, hg, fg, hb1⟩
    have st : Steps _ w1 := hb1
    have Bn : Below w.heap.size w w1 := belowA st
    have na : Blk w1 (w.heap.size) 26 #[.bool gx, .slice aa n ca] := Blk.stepsA st
    have nb : Blk w1 (w.heap.size + 1) 26 #[.bool false, .slice ab m cb] := Blk.stepsA st
    have nr : Blk w1 (w.heap.size + 1 + 1) 28 #[.bool false, .slice none 0 0, .bool false, .slice none 0 0] := Blk.stepsA st
    clear st
    have B := Bn
    clear Bn
    have oa := na
    clear na
    have ca0 := oa.q0
    have ca1 := oa.q1
    have fa := oa.fr
    have la := oa.lt
    have ob := nb
    clear nb
    have cb0 := ob.q0
    have cb1 := ob.q1
    have fb := ob.fr
    have lb := ob.lt
    have or := nr
    clear nr
    have cr0 := or.q0
    have cr1 := or.q1
    have cr2 := or.q2
    have cr3 := or.q3
    have fr := or.fr
    have lr := or.lt
    clear gc fg
    obtain ⟨bg, ag, ng_, cg, rfl⟩ := hg.shape
    have NG := Hid.mk_ hg
    clear hg
    have z1 : w.heap.size + 1 + 1 < w1.heap.size := or.lt
    go_wp2_with fail
    refine (d1 _ _ belowB (NG.out.alloc_ _)).mono ?_
    rintro e w2 ⟨vp, vr, rfl, hp, hr, hb2⟩
    have st : Steps _ w2 := hb2
    have Bn : Below w.heap.size w w2 := belowA st
    have na := oa.stq st
    have nb := ob.stq st
    have nr := or.stq st
    have ng : Blk w2 (w1.heap.size) 26 #[.bool bg, .slice ag ng_ cg] := Blk.stepsA st
    clear B oa ob or ca0 ca1 fa la cb0 cb1 fb lb cr0 cr1 cr2 cr3 fr lr
    clear st
    have B := Bn
    clear Bn
    have oa := na
    clear na
    have ca0 := oa.q0
    have ca1 := oa.q1
    have fa := oa.fr
    have la := oa.lt
    have ob := nb
    clear nb
    have cb0 := ob.q0
    have cb1 := ob.q1
    have fb := ob.fr
    have lb := ob.lt
    have or := nr
    clear nr
    have cr0 := or.q0
    have cr1 := or.q1
    have cr2 := or.q2
    have cr3 := or.q3
    have fr := or.fr
    have lr := or.lt
    have og := ng
    clear ng
    have cg0 := og.q0
    have cg1 := og.q1
    have fg := og.fr
    have lg := og.lt
    clear d1
    have NG2 := Hid.mk_ ((NG.out.alloc_ _).steps hb2)
    clear NG
    obtain ⟨bp_, ap, np, cp, rfl⟩ := hp.shape
    have NP := Hid.mk_ hp
    clear hp
    obtain ⟨br, ar, nr_, cr, rfl⟩ := hr.shape
    clear hr
    have z2 : w1.heap.size < w2.heap.size := og.lt
    go_wp2_with fail
    refine (d2 _ _ belowB ((NG2.out.alloc_ _).alloc_ _)).mono ?_
    rintro e w3 ⟨vq, vt, rfl, hq, ht, hb3⟩
    have st : Steps _ w3 := hb3
    have Bn : Below w.heap.size w w3 := belowA st
    have na := oa.stq st
    have nb := ob.stq st
    have nr := or.stq st
    have ng := og.stq st
    have np : Blk w3 (w2.heap.size) 26 #[.bool bp_, .slice ap np cp] := Blk.stepsA st
    have ns : Blk w3 (w2.heap.size + 1) 26 #[.bool br, .slice ar nr_ cr] := Blk.stepsA st
    clear B oa ob or og ca0 ca1 fa la cb0 cb1 fb lb cr0 cr1 cr2 cr3 fr lr cg0 cg1 fg lg
    clear st
    have B := Bn
    clear Bn
    have oa := na
    clear na
    have ca0 := oa.q0
    have ca1 := oa.q1
    have fa := oa.fr
    have la := oa.lt
    have ob := nb
    clear nb
    have cb0 := ob.q0
    have cb1 := ob.q1
    have fb := ob.fr
    have lb := ob.lt
    have or := nr
    clear nr
    have cr0 := or.q0
    have cr1 := or.q1
    have cr2 := or.q2
    have cr3 := or.q3
    have fr := or.fr
    have lr := or.lt
    have og := ng
    clear ng
    have cg0 := og.q0
    have cg1 := og.q1
    have fg := og.fr
    have lg := og.lt
    have op := np
    clear np
    have cp0 := op.q0
    have cp1 := op.q1
    have fp := op.fr
    have lp := op.lt
    have os := ns
    clear ns
    have cs0 := os.q0
    have cs1 := os.q1
    have fs := os.fr
    have ls := os.lt
    clear d2
    have NP2 := Hid.mk_ (((NP.out.alloc_ (.cells #[.bool bp_, .slice ap np cp] 26)).alloc_ (.cells #[.bool br, .slice ar nr_ cr] 26)).steps hb3)
    clear NP NG2
    obtain ⟨bq, aq, nq, cq, rfl⟩ := hq.shape
    have NQ := Hid.mk_ hq
    clear hq
    obtain ⟨bt, at_', nt_, ct, rfl⟩ := ht.shape
    clear ht
    dsimp only; repeat' (first | go_values | go_skip | go_guarded | go_step | go_upon)
    refine bodyPost_ret (by simp [results, Try.results107, go_sem, ca0, ca1, fa, la, cb0, cb1, fb, lb, cr0, cr1, cr2, cr3, fr, lr, cg0, cg1, fg, lg, cp0, cp1, fp, lp, cs0, cs1, fs, ls]; rfl) rfl ?_
    refine ⟨_, rfl, ?_, belowB⟩
    have HM := MK.out
    exact (((Frc.mk' NP2.out NQ.out HM.1 HM.2.1 HM.2.2.1 HM.2.2.2).only or rfl ((Only.refl _ _).set.set.set.set)).alloc_ _).alloc_ _
set_option maxHeartbeats 6400000 in
set_option maxRecDepth 1000000 in
theorem rmake {va vb : Value} {x y : Int} (w : World) (ha : Num w va x) (hb : Num w vb y) (fx : fits x) (fy : fits y) (hy : y ≠ 0) :
    Calls Try.prog 78 #[va, vb] w fun e w' => ∃ v, e = .returned (.tuple #[v, .int .i64 0]) ∧ Frc w' v (rdP x y) (rdQ x y) ∧ Steps w w' := by
  have cka : ∀ w', Steps w w' → Calls Try.prog 94 #[va] w' fun e w2 => e = .returned (.int .i64 0) ∧ Steps w' w2 := fun w' h => by
    obtain ⟨sa, rfl, la⟩ := ha
    have := rcheckN (decide (x < 0)) w' (la.steps h)
    rw [show errC (valid (decide (x < 0)) (limbs (absN x))) = 0 from if_pos (valid_of fx)] at this
    exact this
  have ckb : ∀ w', Steps w w' → Calls Try.prog 94 #[vb] w' fun e w2 => e = .returned (.int .i64 0) ∧ Steps w' w2 := fun w' h => by
    obtain ⟨sb, rfl, lb⟩ := hb
    have := rcheckN (decide (y < 0)) w' (lb.steps h)
    rw [show errC (valid (decide (y < 0)) (limbs (absN y))) = 0 from if_pos (valid_of fy)] at this
    exact this
  have rd := fun (w' : World) (h : Steps w w') => rreduced w' (ha.steps h) (hb.steps h) fx fy hy
  have y0 : 0 < (limbs (absN y)).length := List.length_pos_iff.2 (fun e => by have := (limbs_nil (absN_nonneg y)).1 e; unfold absN at this; omega)
  obtain ⟨aa, ca, rfl, -⟩ := ha.parts
  obtain ⟨ab, cb, rfl, -⟩ := hb.parts
  obtain ⟨n, hn⟩ : ∃ n, (limbs (absN x)).length = n := ⟨_, rfl⟩
  obtain ⟨m, hm⟩ : ∃ m, (limbs (absN y)).length = m := ⟨_, rfl⟩
  rw [hn] at cka rd ⊢
  rw [hm] at ckb rd y0 ⊢
  obtain ⟨gx, hgx⟩ : ∃ b, decide (x < 0) = b := ⟨_, rfl⟩
  obtain ⟨gy, hgy⟩ : ∃ b, decide (y < 0) = b := ⟨_, rfl⟩
  rw [hgx] at cka rd ⊢
  rw [hgy] at ckb rd ⊢
  clear ha hb hn hm hgx hgy fx fy hy
  go_enter Try.func78, Try.ntmps78
  go_wp2_with fail
  refine (cka _ belowB).mono ?_
  rintro e w1 ⟨rfl, hb1⟩
  have st : Steps _ w1 := hb1
  have Bn : Below w.heap.size w w1 := belowA st
  have na : Blk w1 (w.heap.size) 26 #[.bool gx, .slice aa n ca] := Blk.stepsA st
  have nb : Blk w1 (w.heap.size + 1) 26 #[.bool gy, .slice ab m cb] := Blk.stepsA st
  have nr : Blk w1 (w.heap.size + 1 + 1) 28 #[.bool false, .slice none 0 0, .bool false, .slice none 0 0] := Blk.stepsA st
  clear st
  have B := Bn
  clear Bn
  have oa := na
  clear na
  have ca0 := oa.q0
  have ca1 := oa.q1
  have fa := oa.fr
  have la := oa.lt
  have ob := nb
  clear nb
  have cb0 := ob.q0
  have cb1 := ob.q1
  have fb := ob.fr
  have lb := ob.lt
  have or := nr
  clear nr
  have cr0 := or.q0
  have cr1 := or.q1
  have cr2 := or.q2
  have cr3 := or.q3
  have fr := or.fr
  have lr := or.lt
  clear cka
  go_wp2_with fail
  refine (ckb _ B).mono ?_
  rintro e w2 ⟨rfl, hb2⟩
  have st : Steps _ w2 := hb2
  have Bn : Below w.heap.size w w2 := belowA st
  have na := oa.stq st
  have nb := ob.stq st
  have nr := or.stq st
  clear B oa ob or ca0 ca1 fa la cb0 cb1 fb lb cr0 cr1 cr2 cr3 fr lr
  clear st
  have B := Bn
  clear Bn
  have oa := na
  clear na
  have ca0 := oa.q0
  have ca1 := oa.q1
  have fa := oa.fr
  have la := oa.lt
  have ob := nb
  clear nb
  have cb0 := ob.q0
  have cb1 := ob.q1
  have fb := ob.fr
  have lb := ob.lt
  have or := nr
  clear nr
  have cr0 := or.q0
  have cr1 := or.q1
  have cr2 := or.q2
  have cr3 := or.q3
  have fr := or.fr
  have lr := or.lt
  clear ckb
  go_wp2_with fail
  refine (rd _ B).mono ?_
  rintro e w3 ⟨v3, rfl, hf, hb3⟩
  have st : Steps _ w3 := hb3
  have Bn : Below w.heap.size w w3 := belowA st
  have na := oa.stq st
  have nb := ob.stq st
  have nr := or.stq st
  clear B oa ob or ca0 ca1 fa la cb0 cb1 fb lb cr0 cr1 cr2 cr3 fr lr
  clear st
  have B := Bn
  clear Bn
  have oa := na
  clear na
  have ca0 := oa.q0
  have ca1 := oa.q1
  have fa := oa.fr
  have la := oa.lt
  have ob := nb
  clear nb
  have cb0 := ob.q0
  have cb1 := ob.q1
  have fb := ob.fr
  have lb := ob.lt
  have or := nr
  clear nr
  have cr0 := or.q0
  have cr1 := or.q1
  have cr2 := or.q2
  have cr3 := or.q3
  have fr := or.fr
  have lr := or.lt
  clear rd
  obtain ⟨k1, k2, k3, k4, k5, k6, k7, k8, rfl⟩ := hf.shape
  have HF := Hid.mk_ hf
  clear hf
  go_wp2
  refine bodyPost_ret (by simp [results, Try.results78, go_sem, ca0, ca1, fa, la, cb0, cb1, fb, lb, cr0, cr1, cr2, cr3, fr, lr]; rfl) rfl ?_
  exact ⟨_, rfl, HF.out.only or rfl ((Only.refl _ _).set.set.set.set), belowB⟩
set_option maxHeartbeats 3200000 in
set_option maxRecDepth 1000000 in
theorem rof (x y : Int) (w : World) (x0 : -9223372036854775808 ≤ x) (x1 : x ≤ 9223372036854775807) (y0 : -9223372036854775808 ≤ y) (y1 : y ≤ 9223372036854775807) (hy : y ≠ 0) :
    Calls Try.prog 49 #[.int .i64 x, .int .i64 y] w fun e w' => ∃ v, e = .returned (.tuple #[v, .int .i64 0]) ∧ Frc w' v (rdP x y) (rdQ x y) ∧ Steps w w' := by
  have fx : fits x := fits_small (by unfold absN; omega)
  have fy : fits y := fits_small (by unfold absN; omega)
  go_enter Try.func49, Try.ntmps49
  go_wp2_with fail
  refine (rfrom x _ x0 x1).mono ?_
  rintro e w1 ⟨va, rfl, na, hb1⟩
  have st : Steps _ w1 := hb1
  have Bn : Below w.heap.size w w1 := belowA st
  have nr : Blk w1 (w.heap.size) 28 #[.bool false, .slice none 0 0, .bool false, .slice none 0 0] := Blk.stepsA st
  clear st
  have B := Bn
  clear Bn
  have or := nr
  clear nr
  have cr0 := or.q0
  have cr1 := or.q1
  have cr2 := or.q2
  have cr3 := or.q3
  have fr := or.fr
  have lr := or.lt
  go_wp2_with fail
  refine (rfrom y _ y0 y1).mono ?_
  rintro e w2 ⟨vb, rfl, nb, hb2⟩
  have st : Steps _ w2 := hb2
  have Bn : Below w.heap.size w w2 := belowA st
  have nr := or.stq st
  clear B or cr0 cr1 cr2 cr3 fr lr
  clear st
  have B := Bn
  clear Bn
  have or := nr
  clear nr
  have cr0 := or.q0
  have cr1 := or.q1
  have cr2 := or.q2
  have cr3 := or.q3
  have fr := or.fr
  have lr := or.lt
  have na2 := na.steps hb2
  clear na
  go_wp2_with fail
  refine (rmake _ na2 nb fx fy hy).mono ?_
  rintro e w3 ⟨v3, rfl, hf, hb3⟩
  have st : Steps _ w3 := hb3
  have Bn : Below w.heap.size w w3 := belowA st
  have nr := or.stq st
  clear B or cr0 cr1 cr2 cr3 fr lr
  clear st
  have B := Bn
  clear Bn
  have or := nr
  clear nr
  have cr0 := or.q0
  have cr1 := or.q1
  have cr2 := or.q2
  have cr3 := or.q3
  have fr := or.fr
  have lr := or.lt
  clear na2 nb
  obtain ⟨k1, k2, k3, k4, k5, k6, k7, k8, rfl⟩ := hf.shape
  have HF := Hid.mk_ hf
  clear hf
  go_wp2
  refine bodyPost_ret (by simp [results, Try.results49, go_sem, cr0, cr1, cr2, cr3, fr, lr]; rfl) rfl ?_
  exact ⟨_, rfl, HF.out.only or rfl ((Only.refl _ _).set.set.set.set), belowB⟩
end Go.Proofs.Ytibdehlmflaodaa
