import Derived.Test.YtalnlnpnacfdfaaCNg
import Derived.Test.YtalnlnpnacfdfaaCNi
namespace Go.Proofs.Ytalnlnpnacfdfaa
open Go.RowKit
theorem rdivmod {va vb : Value} {x y : Int} (w : World) (ha : Num w va x) (hb : Num w vb y) (fx : fits x) (fy : fits y) (hy : y ≠ 0) :
    Calls Try.prog 76 #[va, vb] w fun e w' => ∃ q r, e = .returned (.tuple #[q, r, .int .i64 0]) ∧ Num w' q (divF x y) ∧ Num w' r (modF x y) ∧ Steps w w' := by
  by_cases h : decide (x < 0) = decide (y < 0)
  · exact rdivmod_same w ha hb fx fy hy (by simp [h])
  · exact rdivmod_diff w ha hb fx fy hy (by simp [h])
/-- what ref02.Check asks -/
def validF (gx : Bool) (la : List Int) (gy : Bool) (lb : List Int) : Prop := valid gx la ∧ valid gy lb ∧ gy = false ∧ lb ≠ [] ∧ gcdI (zv gx (lval la)) (zv gy (lval lb)) = 1
instance (gx : Bool) (la : List Int) (gy : Bool) (lb : List Int) : Decidable (validF gx la gy lb) := inferInstanceAs (Decidable (_ ∧ _ ∧ _ ∧ _ ∧ _))
set_option maxHeartbeats 6400000 in
set_option maxRecDepth 1000000 in
theorem rfcheck (gx gy : Bool) {sa sb : Value} {la lb : List Int} (w : World) (ha : Lim w sa la) (hb : Lim w sb lb) :
    Calls Try.prog 73 #[.agg #[.bool gx, sa, .bool gy, sb]] w fun e w' => e = .returned (.int .i64 (errC (validF gx la gy lb))) ∧ Steps w w' := by
  have cka : ∀ w', Steps w w' → Calls Try.prog 95 #[.agg #[.bool gx, sa]] w' fun e w2 => e = .returned (.int .i64 (errC (valid gx la))) ∧ Steps w' w2 := fun w' h => rcheckN gx w' (ha.steps h)
  have ckb : ∀ w', Steps w w' → Calls Try.prog 95 #[.agg #[.bool gy, sb]] w' fun e w2 => e = .returned (.int .i64 (errC (valid gy lb))) ∧ Steps w' w2 := fun w' h => rcheckN gy w' (hb.steps h)
  have gc : valid gx la → valid gy lb → ∀ w', Steps w w' → Calls Try.prog 96 #[.agg #[.bool gx, sa], .agg #[.bool gy, sb]] w' fun e w2 => ∃ v, e = .returned (.tuple #[v, .int .i64 0]) ∧ Num w2 v (gcdI (zv gx (lval la)) (zv gy (lval lb))) ∧ fits (gcdI (zv gx (lval la)) (zv gy (lval lb))) ∧ Steps w' w2 := fun va vb w' h =>
    rgcd w' (valid_num (ha.steps h) va) (valid_num (hb.steps h) vb) (valid_fits ha.ok va) (valid_fits hb.ok vb)
  obtain ⟨aa, ca, rfl⟩ := ha.shape
  obtain ⟨ab, cb, rfl⟩ := hb.shape
  obtain ⟨n, hn⟩ : ∃ n, la.length = n := ⟨_, rfl⟩
  obtain ⟨m, hm⟩ : ∃ m, lb.length = m := ⟨_, rfl⟩
  rw [hn] at cka gc ⊢
  rw [hm] at ckb gc ⊢
  have hm0 : m = 0 ↔ lb = [] := by rw [← hm]; exact List.length_eq_zero_iff
  clear ha hb hn hm
  by_cases h1 : valid gx la
  · have E1 : errC (valid gx la) = 0 := if_pos h1
    rw [E1] at cka
    by_cases h2 : valid gy lb
    · have E2 : errC (valid gy lb) = 0 := if_pos h2
      rw [E2] at ckb
      have gc' := gc h1 h2
      clear gc E1 E2
      cases gy with
      | true =>
        have H : Hid (errC (validF gx la true lb) = 8) := if_neg (fun h => by have := h.2.2.1; cases this)
        clear h1 h2 gc' hm0
        go_enter Try.func73, Try.ntmps73
        go_wp2_with fail
        refine (cka _ (show Below _ _ _ from (by (repeat' first | with_reducible assumption | with_reducible exact Below.refl _ _ | with_reducible refine Below.alloc ?_ ?_ _ | with_reducible refine Below.drew ?_ | with_reducible refine belowN ?_ _ | with_reducible refine Below.setCell ?_ ?_ _ | go_size)))).mono ?_
        rintro e w1 ⟨rfl, hb1⟩
        have st : Steps _ w1 := hb1
        have Bn : Below w.heap.size w w1 := below_steps (by (repeat' first | with_reducible assumption | with_reducible exact Below.refl _ _ | with_reducible refine Below.alloc ?_ ?_ _ | with_reducible refine Below.drew ?_ | with_reducible refine belowN ?_ _ | with_reducible refine Below.setCell ?_ ?_ _ | go_size)) (Nat.le_refl _) st
        have nf : Blk w1 (w.heap.size) 53 #[.bool gx, .slice aa n ca, .bool true, .slice ab m cb] := Blk.steps (by (repeat' first | with_reducible assumption | (with_reducible refine Blk.new' ?_; first | with_reducible rfl | (simp only [World.size_alloc, World.size_setCell, World.size_drew]; done)) | with_reducible refine Blk.alloc ?_ _ | with_reducible refine Blk.drew ?_ | with_reducible refine Blk.drewN ?_ _ | with_reducible apply Blk.both | with_reducible refine Blk.far' ?_ ?_ | (show _ ≠ _; omega))) st
        clear st
        have B := Bn
        clear Bn
        have of := nf
        clear nf
        have cf0 : World.cell? w1 ⟨w.heap.size, 0, none⟩ = some (.bool gx) := of.c 0 rfl
        have cf1 : World.cell? w1 ⟨w.heap.size, 1, none⟩ = some (.slice aa n ca) := of.c 1 rfl
        have cf2 : World.cell? w1 ⟨w.heap.size, 2, none⟩ = some (.bool true) := of.c 2 rfl
        have cf3 : World.cell? w1 ⟨w.heap.size, 3, none⟩ = some (.slice ab m cb) := of.c 3 rfl
        have ff := of.fr
        have lf := of.lt
        clear cka
        go_wp2_with fail
        refine (ckb _ B).mono ?_
        rintro e w2 ⟨rfl, hb2⟩
        have st : Steps _ w2 := hb2
        have Bn : Below w.heap.size w w2 := below_steps (by (repeat' first | with_reducible assumption | with_reducible exact Below.refl _ _ | with_reducible refine Below.alloc ?_ ?_ _ | with_reducible refine Below.drew ?_ | with_reducible refine belowN ?_ _ | with_reducible refine Below.setCell ?_ ?_ _ | go_size)) (Nat.le_refl _) st
        have nf : Blk w2 (w.heap.size) 53 #[.bool gx, .slice aa n ca, .bool true, .slice ab m cb] := Blk.steps (by (repeat' first | with_reducible assumption | (with_reducible refine Blk.new' ?_; first | with_reducible rfl | (simp only [World.size_alloc, World.size_setCell, World.size_drew]; done)) | with_reducible refine Blk.alloc ?_ _ | with_reducible refine Blk.drew ?_ | with_reducible refine Blk.drewN ?_ _ | with_reducible apply Blk.both | with_reducible refine Blk.far' ?_ ?_ | (show _ ≠ _; omega))) st
        clear B of cf0 cf1 cf2 cf3 ff lf
        clear st
        have B := Bn
        clear Bn
        have of := nf
        clear nf
        have cf0 : World.cell? w2 ⟨w.heap.size, 0, none⟩ = some (.bool gx) := of.c 0 rfl
        have cf1 : World.cell? w2 ⟨w.heap.size, 1, none⟩ = some (.slice aa n ca) := of.c 1 rfl
        have cf2 : World.cell? w2 ⟨w.heap.size, 2, none⟩ = some (.bool true) := of.c 2 rfl
        have cf3 : World.cell? w2 ⟨w.heap.size, 3, none⟩ = some (.slice ab m cb) := of.c 3 rfl
        have ff := of.fr
        have lf := of.lt
        clear ckb
        go_wp2
        go_returns
        exact ⟨retI H.out.symm, (show Below _ _ _ from (by (repeat' first | with_reducible assumption | with_reducible exact Below.refl _ _ | with_reducible refine Below.alloc ?_ ?_ _ | with_reducible refine Below.drew ?_ | with_reducible refine belowN ?_ _ | with_reducible refine Below.setCell ?_ ?_ _ | go_size)))⟩
      | false =>
        rcases Nat.eq_zero_or_pos m with h0 | h0
        · have H : Hid (errC (validF gx la false lb) = 8) := if_neg (fun h => h.2.2.2.1 (hm0.1 h0))
          subst h0
          clear h1 h2 gc' hm0
          go_enter Try.func73, Try.ntmps73
          go_wp2_with fail
          refine (cka _ (show Below _ _ _ from (by (repeat' first | with_reducible assumption | with_reducible exact Below.refl _ _ | with_reducible refine Below.alloc ?_ ?_ _ | with_reducible refine Below.drew ?_ | with_reducible refine belowN ?_ _ | with_reducible refine Below.setCell ?_ ?_ _ | go_size)))).mono ?_
          rintro e w1 ⟨rfl, hb1⟩
          have st : Steps _ w1 := hb1
          have Bn : Below w.heap.size w w1 := below_steps (by (repeat' first | with_reducible assumption | with_reducible exact Below.refl _ _ | with_reducible refine Below.alloc ?_ ?_ _ | with_reducible refine Below.drew ?_ | with_reducible refine belowN ?_ _ | with_reducible refine Below.setCell ?_ ?_ _ | go_size)) (Nat.le_refl _) st
          have nf : Blk w1 (w.heap.size) 53 #[.bool gx, .slice aa n ca, .bool false, .slice ab 0 cb] := Blk.steps (by (repeat' first | with_reducible assumption | (with_reducible refine Blk.new' ?_; first | with_reducible rfl | (simp only [World.size_alloc, World.size_setCell, World.size_drew]; done)) | with_reducible refine Blk.alloc ?_ _ | with_reducible refine Blk.drew ?_ | with_reducible refine Blk.drewN ?_ _ | with_reducible apply Blk.both | with_reducible refine Blk.far' ?_ ?_ | (show _ ≠ _; omega))) st
          clear st
          have B := Bn
          clear Bn
          have of := nf
          clear nf
          have cf0 : World.cell? w1 ⟨w.heap.size, 0, none⟩ = some (.bool gx) := of.c 0 rfl
          have cf1 : World.cell? w1 ⟨w.heap.size, 1, none⟩ = some (.slice aa n ca) := of.c 1 rfl
          have cf2 : World.cell? w1 ⟨w.heap.size, 2, none⟩ = some (.bool false) := of.c 2 rfl
          have cf3 : World.cell? w1 ⟨w.heap.size, 3, none⟩ = some (.slice ab 0 cb) := of.c 3 rfl
          have ff := of.fr
          have lf := of.lt
          clear cka
          go_wp2_with fail
          refine (ckb _ B).mono ?_
          rintro e w2 ⟨rfl, hb2⟩
          have st : Steps _ w2 := hb2
          have Bn : Below w.heap.size w w2 := below_steps (by (repeat' first | with_reducible assumption | with_reducible exact Below.refl _ _ | with_reducible refine Below.alloc ?_ ?_ _ | with_reducible refine Below.drew ?_ | with_reducible refine belowN ?_ _ | with_reducible refine Below.setCell ?_ ?_ _ | go_size)) (Nat.le_refl _) st
          have nf : Blk w2 (w.heap.size) 53 #[.bool gx, .slice aa n ca, .bool false, .slice ab 0 cb] := Blk.steps (by (repeat' first | with_reducible assumption | (with_reducible refine Blk.new' ?_; first | with_reducible rfl | (simp only [World.size_alloc, World.size_setCell, World.size_drew]; done)) | with_reducible refine Blk.alloc ?_ _ | with_reducible refine Blk.drew ?_ | with_reducible refine Blk.drewN ?_ _ | with_reducible apply Blk.both | with_reducible refine Blk.far' ?_ ?_ | (show _ ≠ _; omega))) st
          clear B of cf0 cf1 cf2 cf3 ff lf
          clear st
          have B := Bn
          clear Bn
          have of := nf
          clear nf
          have cf0 : World.cell? w2 ⟨w.heap.size, 0, none⟩ = some (.bool gx) := of.c 0 rfl
          have cf1 : World.cell? w2 ⟨w.heap.size, 1, none⟩ = some (.slice aa n ca) := of.c 1 rfl
          have cf2 : World.cell? w2 ⟨w.heap.size, 2, none⟩ = some (.bool false) := of.c 2 rfl
          have cf3 : World.cell? w2 ⟨w.heap.size, 3, none⟩ = some (.slice ab 0 cb) := of.c 3 rfl
          have ff := of.fr
          have lf := of.lt
          clear ckb
          go_wp2
          go_returns
          exact ⟨retI H.out.symm, (show Below _ _ _ from (by (repeat' first | with_reducible assumption | with_reducible exact Below.refl _ _ | with_reducible refine Below.alloc ?_ ?_ _ | with_reducible refine Below.drew ?_ | with_reducible refine belowN ?_ _ | with_reducible refine Below.setCell ?_ ?_ _ | go_size)))⟩
        · have hne : lb ≠ [] := fun e => by have := hm0.2 e; omega
          have HV : Hid (errC (validF gx la false lb) = if gcdI (zv gx (lval la)) (zv false (lval lb)) = 1 then 0 else 8) := by
            show errC (validF gx la false lb) = _
            by_cases hg : gcdI (zv gx (lval la)) (zv false (lval lb)) = 1
            · rw [if_pos hg]; exact if_pos ⟨h1, h2, rfl, hne, hg⟩
            · rw [if_neg hg]; exact if_neg (fun h => hg h.2.2.2.2)
          obtain ⟨G, hG⟩ : ∃ G, gcdI (zv gx (lval la)) (zv false (lval lb)) = G := ⟨_, rfl⟩
          rw [hG] at gc' HV
          clear h1 h2 hm0 hG hne
          go_enter Try.func73, Try.ntmps73
          go_wp2_with fail
          refine (cka _ (show Below _ _ _ from (by (repeat' first | with_reducible assumption | with_reducible exact Below.refl _ _ | with_reducible refine Below.alloc ?_ ?_ _ | with_reducible refine Below.drew ?_ | with_reducible refine belowN ?_ _ | with_reducible refine Below.setCell ?_ ?_ _ | go_size)))).mono ?_
          rintro e w1 ⟨rfl, hb1⟩
          have st : Steps _ w1 := hb1
          have Bn : Below w.heap.size w w1 := below_steps (by (repeat' first | with_reducible assumption | with_reducible exact Below.refl _ _ | with_reducible refine Below.alloc ?_ ?_ _ | with_reducible refine Below.drew ?_ | with_reducible refine belowN ?_ _ | with_reducible refine Below.setCell ?_ ?_ _ | go_size)) (Nat.le_refl _) st
          have nf : Blk w1 (w.heap.size) 53 #[.bool gx, .slice aa n ca, .bool false, .slice ab m cb] := Blk.steps (by (repeat' first | with_reducible assumption | (with_reducible refine Blk.new' ?_; first | with_reducible rfl | (simp only [World.size_alloc, World.size_setCell, World.size_drew]; done)) | with_reducible refine Blk.alloc ?_ _ | with_reducible refine Blk.drew ?_ | with_reducible refine Blk.drewN ?_ _ | with_reducible apply Blk.both | with_reducible refine Blk.far' ?_ ?_ | (show _ ≠ _; omega))) st
          clear st
          have B := Bn
          clear Bn
          have of := nf
          clear nf
          have cf0 : World.cell? w1 ⟨w.heap.size, 0, none⟩ = some (.bool gx) := of.c 0 rfl
          have cf1 : World.cell? w1 ⟨w.heap.size, 1, none⟩ = some (.slice aa n ca) := of.c 1 rfl
          have cf2 : World.cell? w1 ⟨w.heap.size, 2, none⟩ = some (.bool false) := of.c 2 rfl
          have cf3 : World.cell? w1 ⟨w.heap.size, 3, none⟩ = some (.slice ab m cb) := of.c 3 rfl
          have ff := of.fr
          have lf := of.lt
          clear cka
          go_wp2_with fail
          refine (ckb _ B).mono ?_
          rintro e w2 ⟨rfl, hb2⟩
          have st : Steps _ w2 := hb2
          have Bn : Below w.heap.size w w2 := below_steps (by (repeat' first | with_reducible assumption | with_reducible exact Below.refl _ _ | with_reducible refine Below.alloc ?_ ?_ _ | with_reducible refine Below.drew ?_ | with_reducible refine belowN ?_ _ | with_reducible refine Below.setCell ?_ ?_ _ | go_size)) (Nat.le_refl _) st
          have nf : Blk w2 (w.heap.size) 53 #[.bool gx, .slice aa n ca, .bool false, .slice ab m cb] := Blk.steps (by (repeat' first | with_reducible assumption | (with_reducible refine Blk.new' ?_; first | with_reducible rfl | (simp only [World.size_alloc, World.size_setCell, World.size_drew]; done)) | with_reducible refine Blk.alloc ?_ _ | with_reducible refine Blk.drew ?_ | with_reducible refine Blk.drewN ?_ _ | with_reducible apply Blk.both | with_reducible refine Blk.far' ?_ ?_ | (show _ ≠ _; omega))) st
          clear B of cf0 cf1 cf2 cf3 ff lf
          clear st
          have B := Bn
          clear Bn
          have of := nf
          clear nf
          have cf0 : World.cell? w2 ⟨w.heap.size, 0, none⟩ = some (.bool gx) := of.c 0 rfl
          have cf1 : World.cell? w2 ⟨w.heap.size, 1, none⟩ = some (.slice aa n ca) := of.c 1 rfl
          have cf2 : World.cell? w2 ⟨w.heap.size, 2, none⟩ = some (.bool false) := of.c 2 rfl
          have cf3 : World.cell? w2 ⟨w.heap.size, 3, none⟩ = some (.slice ab m cb) := of.c 3 rfl
          have ff := of.fr
          have lf := of.lt
          clear ckb
          go_wp2_with fail
          refine (gc' _ B).mono ?_
          rintro e w3 ⟨vg, rfl, hng, fitG, hb3⟩
          have st : Steps _ w3 := hb3
          have Bn : Below w.heap.size w w3 := below_steps (by (repeat' first | with_reducible assumption | with_reducible exact Below.refl _ _ | with_reducible refine Below.alloc ?_ ?_ _ | with_reducible refine Below.drew ?_ | with_reducible refine belowN ?_ _ | with_reducible refine Below.setCell ?_ ?_ _ | go_size)) (Nat.le_refl _) st
          have nf : Blk w3 (w.heap.size) 53 #[.bool gx, .slice aa n ca, .bool false, .slice ab m cb] := Blk.steps (by (repeat' first | with_reducible assumption | (with_reducible refine Blk.new' ?_; first | with_reducible rfl | (simp only [World.size_alloc, World.size_setCell, World.size_drew]; done)) | with_reducible refine Blk.alloc ?_ _ | with_reducible refine Blk.drew ?_ | with_reducible refine Blk.drewN ?_ _ | with_reducible apply Blk.both | with_reducible refine Blk.far' ?_ ?_ | (show _ ≠ _; omega))) st
          clear B of cf0 cf1 cf2 cf3 ff lf
          clear st
          have B := Bn
          clear Bn
          have of := nf
          clear nf
          have cf0 : World.cell? w3 ⟨w.heap.size, 0, none⟩ = some (.bool gx) := of.c 0 rfl
          have cf1 : World.cell? w3 ⟨w.heap.size, 1, none⟩ = some (.slice aa n ca) := of.c 1 rfl
          have cf2 : World.cell? w3 ⟨w.heap.size, 2, none⟩ = some (.bool false) := of.c 2 rfl
          have cf3 : World.cell? w3 ⟨w.heap.size, 3, none⟩ = some (.slice ab m cb) := of.c 3 rfl
          have ff := of.fr
          have lf := of.lt
          clear gc'
          obtain ⟨bg, ag, ng, cg, rfl⟩ := hng.shape
          have NG := Hid.mk_ hng
          clear hng
          go_wp2_with fail
          have hf3 : w.heap.size < w3.heap.size := of.lt
          go_region_with (first
            | (go_at_call 98; refine (rfrom 1 _ (by omega) (by omega)).mono ?_; rintro e wv ⟨vo, rfl, hno, hbv⟩; go_must (have NG5 := Hid.mk_ ((NG.out.steps (show Below _ _ _ from (by (repeat' first | with_reducible assumption | with_reducible exact Below.refl _ _ | with_reducible refine Below.alloc ?_ ?_ _ | with_reducible refine Below.drew ?_ | with_reducible refine belowN ?_ _ | with_reducible refine Below.setCell ?_ ?_ _ | go_size)))).steps hbv); obtain ⟨bo', ao', no', co', rfl⟩ := hno.shape; have NO := Hid.mk_ hno; clear hno; have st : Steps _ wv := hbv; have Bn : Below w.heap.size w wv := below_steps (by (repeat' first | with_reducible assumption | with_reducible exact Below.refl _ _ | with_reducible refine Below.alloc ?_ ?_ _ | with_reducible refine Below.drew ?_ | with_reducible refine belowN ?_ _ | with_reducible refine Below.setCell ?_ ?_ _ | go_size)) (Nat.le_refl _) st; have nf : Blk wv (w.heap.size) 53 #[.bool gx, .slice aa n ca, .bool false, .slice ab m cb] := Blk.steps (by (repeat' first | with_reducible assumption | (with_reducible refine Blk.new' ?_; first | with_reducible rfl | (simp only [World.size_alloc, World.size_setCell, World.size_drew]; done)) | with_reducible refine Blk.alloc ?_ _ | with_reducible refine Blk.drew ?_ | with_reducible refine Blk.drewN ?_ _ | with_reducible apply Blk.both | with_reducible refine Blk.far' ?_ ?_ | (show _ ≠ _; omega))) st; have ng : Blk wv (w3.heap.size) 51 #[.bool bg, .slice ag ng cg] := Blk.steps (by (repeat' first | with_reducible assumption | (with_reducible refine Blk.new' ?_; first | with_reducible rfl | (simp only [World.size_alloc, World.size_setCell, World.size_drew]; done)) | with_reducible refine Blk.alloc ?_ _ | with_reducible refine Blk.drew ?_ | with_reducible refine Blk.drewN ?_ _ | with_reducible apply Blk.both | with_reducible refine Blk.far' ?_ ?_ | (show _ ≠ _; omega))) st; clear B of cf0 cf1 cf2 cf3 ff lf; clear st; have B := Bn; clear Bn; have of := nf; clear nf; have cf0 : World.cell? wv ⟨w.heap.size, 0, none⟩ = some (.bool gx) := of.c 0 rfl; have cf1 : World.cell? wv ⟨w.heap.size, 1, none⟩ = some (.slice aa n ca) := of.c 1 rfl; have cf2 : World.cell? wv ⟨w.heap.size, 2, none⟩ = some (.bool false) := of.c 2 rfl; have cf3 : World.cell? wv ⟨w.heap.size, 3, none⟩ = some (.slice ab m cb) := of.c 3 rfl; have ff := of.fr; have lf := of.lt; have og := ng; clear ng; have cg0 : World.cell? wv ⟨w3.heap.size, 0, none⟩ = some (.bool bg) := og.c 0 rfl; have cg1 : World.cell? wv ⟨w3.heap.size, 1, none⟩ = some (.slice ag ng cg) := og.c 1 rfl; have fg := og.fr; have lg := og.lt))
            | (go_at_call 97; refine (rsame _ NG5.out NO.out fitG (fits_small (by unfold absN; omega))).mono ?_; rintro e wv ⟨rfl, hbv⟩; go_must (have st : Steps _ wv := hbv; have Bn : Below w.heap.size w wv := below_steps (by (repeat' first | with_reducible assumption | with_reducible exact Below.refl _ _ | with_reducible refine Below.alloc ?_ ?_ _ | with_reducible refine Below.drew ?_ | with_reducible refine belowN ?_ _ | with_reducible refine Below.setCell ?_ ?_ _ | go_size)) (Nat.le_refl _) st; have nf : Blk wv (w.heap.size) 53 #[.bool gx, .slice aa n ca, .bool false, .slice ab m cb] := Blk.steps (by (repeat' first | with_reducible assumption | (with_reducible refine Blk.new' ?_; first | with_reducible rfl | (simp only [World.size_alloc, World.size_setCell, World.size_drew]; done)) | with_reducible refine Blk.alloc ?_ _ | with_reducible refine Blk.drew ?_ | with_reducible refine Blk.drewN ?_ _ | with_reducible apply Blk.both | with_reducible refine Blk.far' ?_ ?_ | (show _ ≠ _; omega))) st; have ng : Blk wv (w3.heap.size) 51 #[.bool bg, .slice ag ng cg] := Blk.steps (by (repeat' first | with_reducible assumption | (with_reducible refine Blk.new' ?_; first | with_reducible rfl | (simp only [World.size_alloc, World.size_setCell, World.size_drew]; done)) | with_reducible refine Blk.alloc ?_ _ | with_reducible refine Blk.drew ?_ | with_reducible refine Blk.drewN ?_ _ | with_reducible apply Blk.both | with_reducible refine Blk.far' ?_ ?_ | (show _ ≠ _; omega))) st; clear B of og cf0 cf1 cf2 cf3 ff lf cg0 cg1 fg lg; clear st; have B := Bn; clear Bn; have of := nf; clear nf; have cf0 : World.cell? wv ⟨w.heap.size, 0, none⟩ = some (.bool gx) := of.c 0 rfl; have cf1 : World.cell? wv ⟨w.heap.size, 1, none⟩ = some (.slice aa n ca) := of.c 1 rfl; have cf2 : World.cell? wv ⟨w.heap.size, 2, none⟩ = some (.bool false) := of.c 2 rfl; have cf3 : World.cell? wv ⟨w.heap.size, 3, none⟩ = some (.slice ab m cb) := of.c 3 rfl; have ff := of.fr; have lf := of.lt; have og := ng; clear ng; have cg0 : World.cell? wv ⟨w3.heap.size, 0, none⟩ = some (.bool bg) := og.c 0 rfl; have cg1 : World.cell? wv ⟨w3.heap.size, 1, none⟩ = some (.slice ag ng cg) := og.c 1 rfl; have fg := og.fr; have lg := og.lt)))
          all_goals
            go_wp2
            all_goals go_returns
            · first
                | (have h : (!decide (G = 1)) = true := by assumption
                   have hn : ¬ G = 1 := by simpa using h
                   exact ⟨retI (HV.out.trans (if_neg hn)).symm, (show Below _ _ _ from (by (repeat' first | with_reducible assumption | with_reducible exact Below.refl _ _ | with_reducible refine Below.alloc ?_ ?_ _ | with_reducible refine Below.drew ?_ | with_reducible refine belowN ?_ _ | with_reducible refine Below.setCell ?_ ?_ _ | go_size)))⟩)
            · first
                | (have h : (!decide (G = 1)) = false := by assumption
                   have hn : G = 1 := by simpa using h
                   exact ⟨retI (HV.out.trans (if_pos hn)).symm, (show Below _ _ _ from (by (repeat' first | with_reducible assumption | with_reducible exact Below.refl _ _ | with_reducible refine Below.alloc ?_ ?_ _ | with_reducible refine Below.drew ?_ | with_reducible refine belowN ?_ _ | with_reducible refine Below.setCell ?_ ?_ _ | go_size)))⟩)
    · have E2 : errC (valid gy lb) = 8 := if_neg h2
      rw [E2] at ckb
      have H : Hid (errC (validF gx la gy lb) = 8) := if_neg (fun h => h2 h.2.1)
      clear h1 h2 gc hm0 E1 E2
      go_enter Try.func73, Try.ntmps73
      go_wp2_with fail
      refine (cka _ (show Below _ _ _ from (by (repeat' first | with_reducible assumption | with_reducible exact Below.refl _ _ | with_reducible refine Below.alloc ?_ ?_ _ | with_reducible refine Below.drew ?_ | with_reducible refine belowN ?_ _ | with_reducible refine Below.setCell ?_ ?_ _ | go_size)))).mono ?_
      rintro e w1 ⟨rfl, hb1⟩
      have st : Steps _ w1 := hb1
      have Bn : Below w.heap.size w w1 := below_steps (by (repeat' first | with_reducible assumption | with_reducible exact Below.refl _ _ | with_reducible refine Below.alloc ?_ ?_ _ | with_reducible refine Below.drew ?_ | with_reducible refine belowN ?_ _ | with_reducible refine Below.setCell ?_ ?_ _ | go_size)) (Nat.le_refl _) st
      have nf : Blk w1 (w.heap.size) 53 #[.bool gx, .slice aa n ca, .bool gy, .slice ab m cb] := Blk.steps (by (repeat' first | with_reducible assumption | (with_reducible refine Blk.new' ?_; first | with_reducible rfl | (simp only [World.size_alloc, World.size_setCell, World.size_drew]; done)) | with_reducible refine Blk.alloc ?_ _ | with_reducible refine Blk.drew ?_ | with_reducible refine Blk.drewN ?_ _ | with_reducible apply Blk.both | with_reducible refine Blk.far' ?_ ?_ | (show _ ≠ _; omega))) st
      clear st
      have B := Bn
      clear Bn
      have of := nf
      clear nf
      have cf0 : World.cell? w1 ⟨w.heap.size, 0, none⟩ = some (.bool gx) := of.c 0 rfl
      have cf1 : World.cell? w1 ⟨w.heap.size, 1, none⟩ = some (.slice aa n ca) := of.c 1 rfl
      have cf2 : World.cell? w1 ⟨w.heap.size, 2, none⟩ = some (.bool gy) := of.c 2 rfl
      have cf3 : World.cell? w1 ⟨w.heap.size, 3, none⟩ = some (.slice ab m cb) := of.c 3 rfl
      have ff := of.fr
      have lf := of.lt
      clear cka
      go_wp2_with fail
      refine (ckb _ B).mono ?_
      rintro e w2 ⟨rfl, hb2⟩
      have st : Steps _ w2 := hb2
      have Bn : Below w.heap.size w w2 := below_steps (by (repeat' first | with_reducible assumption | with_reducible exact Below.refl _ _ | with_reducible refine Below.alloc ?_ ?_ _ | with_reducible refine Below.drew ?_ | with_reducible refine belowN ?_ _ | with_reducible refine Below.setCell ?_ ?_ _ | go_size)) (Nat.le_refl _) st
      have nf : Blk w2 (w.heap.size) 53 #[.bool gx, .slice aa n ca, .bool gy, .slice ab m cb] := Blk.steps (by (repeat' first | with_reducible assumption | (with_reducible refine Blk.new' ?_; first | with_reducible rfl | (simp only [World.size_alloc, World.size_setCell, World.size_drew]; done)) | with_reducible refine Blk.alloc ?_ _ | with_reducible refine Blk.drew ?_ | with_reducible refine Blk.drewN ?_ _ | with_reducible apply Blk.both | with_reducible refine Blk.far' ?_ ?_ | (show _ ≠ _; omega))) st
      clear B of cf0 cf1 cf2 cf3 ff lf
      clear st
      have B := Bn
      clear Bn
      have of := nf
      clear nf
      have cf0 : World.cell? w2 ⟨w.heap.size, 0, none⟩ = some (.bool gx) := of.c 0 rfl
      have cf1 : World.cell? w2 ⟨w.heap.size, 1, none⟩ = some (.slice aa n ca) := of.c 1 rfl
      have cf2 : World.cell? w2 ⟨w.heap.size, 2, none⟩ = some (.bool gy) := of.c 2 rfl
      have cf3 : World.cell? w2 ⟨w.heap.size, 3, none⟩ = some (.slice ab m cb) := of.c 3 rfl
      have ff := of.fr
      have lf := of.lt
      clear ckb
      go_wp2
      go_returns
      exact ⟨retI H.out.symm, (show Below _ _ _ from (by (repeat' first | with_reducible assumption | with_reducible exact Below.refl _ _ | with_reducible refine Below.alloc ?_ ?_ _ | with_reducible refine Below.drew ?_ | with_reducible refine belowN ?_ _ | with_reducible refine Below.setCell ?_ ?_ _ | go_size)))⟩
  · have E1 : errC (valid gx la) = 8 := if_neg h1
    rw [E1] at cka
    have H : Hid (errC (validF gx la gy lb) = 8) := if_neg (fun h => h1 h.1)
    clear h1 gc hm0 E1 ckb
    go_enter Try.func73, Try.ntmps73
    go_wp2_with fail
    refine (cka _ (show Below _ _ _ from (by (repeat' first | with_reducible assumption | with_reducible exact Below.refl _ _ | with_reducible refine Below.alloc ?_ ?_ _ | with_reducible refine Below.drew ?_ | with_reducible refine belowN ?_ _ | with_reducible refine Below.setCell ?_ ?_ _ | go_size)))).mono ?_
    rintro e w1 ⟨rfl, hb1⟩
    have st : Steps _ w1 := hb1
    have Bn : Below w.heap.size w w1 := below_steps (by (repeat' first | with_reducible assumption | with_reducible exact Below.refl _ _ | with_reducible refine Below.alloc ?_ ?_ _ | with_reducible refine Below.drew ?_ | with_reducible refine belowN ?_ _ | with_reducible refine Below.setCell ?_ ?_ _ | go_size)) (Nat.le_refl _) st
    have nf : Blk w1 (w.heap.size) 53 #[.bool gx, .slice aa n ca, .bool gy, .slice ab m cb] := Blk.steps (by (repeat' first | with_reducible assumption | (with_reducible refine Blk.new' ?_; first | with_reducible rfl | (simp only [World.size_alloc, World.size_setCell, World.size_drew]; done)) | with_reducible refine Blk.alloc ?_ _ | with_reducible refine Blk.drew ?_ | with_reducible refine Blk.drewN ?_ _ | with_reducible apply Blk.both | with_reducible refine Blk.far' ?_ ?_ | (show _ ≠ _; omega))) st
    clear st
    have B := Bn
    clear Bn
    have of := nf
    clear nf
    have cf0 : World.cell? w1 ⟨w.heap.size, 0, none⟩ = some (.bool gx) := of.c 0 rfl
    have cf1 : World.cell? w1 ⟨w.heap.size, 1, none⟩ = some (.slice aa n ca) := of.c 1 rfl
    have cf2 : World.cell? w1 ⟨w.heap.size, 2, none⟩ = some (.bool gy) := of.c 2 rfl
    have cf3 : World.cell? w1 ⟨w.heap.size, 3, none⟩ = some (.slice ab m cb) := of.c 3 rfl
    have ff := of.fr
    have lf := of.lt
    clear cka
    go_wp2
    go_returns
    exact ⟨retI H.out.symm, (show Below _ _ _ from (by (repeat' first | with_reducible assumption | with_reducible exact Below.refl _ _ | with_reducible refine Below.alloc ?_ ?_ _ | with_reducible refine Below.drew ?_ | with_reducible refine belowN ?_ _ | with_reducible refine Below.setCell ?_ ?_ _ | go_size)))⟩
end Go.Proofs.Ytalnlnpnacfdfaa
