import Derived.Test.YtalnlnpnacfdfaaCSa
import Derived.Test.YtalnlnpnacfdfaaCNl
namespace Go.Proofs.Ytalnlnpnacfdfaa
open Go.RowKit
set_option maxHeartbeats 3200000 in
set_option maxRecDepth 1000000 in
theorem sOf_bad (gx gy : Bool) {sa sb : Value} {la lb : List Int} (w : World) (ha : Lim w sa la) (hb : Lim w sb lb) (hv : ¬ validF gx la gy lb) : Calls Try.prog 42 #[.agg #[.bool gx, sa, .bool gy, sb]] w (G3 w (0, 0, 8)) := by
  have ck : ∀ w', Steps w w' → Calls Try.prog 67 #[.agg #[.bool gx, sa, .bool gy, sb]] w' fun e w2 => e = .returned (.int .i64 8) ∧ Steps w' w2 := fun w' h => by
    have := fcheck gx gy w' (ha.steps h) (hb.steps h)
    rw [errC_eq, if_neg hv] at this
    exact this
  obtain ⟨aa, ca, rfl⟩ := ha.shape
  obtain ⟨ab, cb, rfl⟩ := hb.shape
  obtain ⟨n, hn⟩ : ∃ n, la.length = n := ⟨_, rfl⟩
  obtain ⟨m, hm⟩ : ∃ m, lb.length = m := ⟨_, rfl⟩
  rw [hn, hm] at ck ⊢
  clear ha hb hn hm hv
  go_enter Try.func42, Try.ntmps42
  go_wp2_with fail
  refine (ck _ belowB).mono ?_
  rintro e w1 ⟨rfl, hb1⟩
  have st : Steps _ w1 := hb1
  have Bn : Below w.heap.size w w1 := belowA st
  have nf : Blk w1 (w.heap.size) 53 #[.bool gx, .slice aa n ca, .bool gy, .slice ab m cb] := Blk.stepsA st
  have nr : Blk w1 (w.heap.size + 1) 23 #[.int .i64 0, .int .i64 0] := Blk.stepsA st
  clear st
  have B := Bn
  clear Bn
  have of := nf
  clear nf
  have cf0 : World.cell? w1 ⟨w.heap.size, 0, none⟩ = some (.bool gx) := of.c 0 rfl
  have cf1 : World.cell? w1 ⟨w.heap.size, 1, none⟩ = some (.slice aa n ca) := of.c 1 rfl
  have cf2 : World.cell? w1 ⟨w.heap.size, 2, none⟩ = some (.bool gy) := of.c 2 rfl
  have cf3 : World.cell? w1 ⟨w.heap.size, 3, none⟩ = some (.slice ab m cb) := of.c 3 rfl
  have ff := of.fr
  have lf := of.lt
  have or := nr
  clear nr
  have cr0 : World.cell? w1 ⟨w.heap.size + 1, 0, none⟩ = some (.int .i64 0) := or.c 0 rfl
  have cr1 : World.cell? w1 ⟨w.heap.size + 1, 1, none⟩ = some (.int .i64 0) := or.c 1 rfl
  have fr := or.fr
  have lr := or.lt
  clear ck
  go_wp2
  refine bodyPost_ret (by simp [results, Try.results42, go_sem, cf0, cf1, cf2, cf3, ff, lf, cr0, cr1, fr, lr]; rfl) rfl ?_
  exact G3_eq rfl belowB
set_option maxHeartbeats 3200000 in
set_option maxRecDepth 1000000 in
theorem rOf_bad (gx gy : Bool) {sa sb : Value} {la lb : List Int} (w : World) (ha : Lim w sa la) (hb : Lim w sb lb) (hv : ¬ validF gx la gy lb) : Calls Try.prog 43 #[.agg #[.bool gx, sa, .bool gy, sb]] w (G3 w (0, 0, 8)) := by
  have ck : ∀ w', Steps w w' → Calls Try.prog 73 #[.agg #[.bool gx, sa, .bool gy, sb]] w' fun e w2 => e = .returned (.int .i64 8) ∧ Steps w' w2 := fun w' h => by
    have := rfcheck gx gy w' (ha.steps h) (hb.steps h)
    rw [errC_eq, if_neg hv] at this
    exact this
  obtain ⟨aa, ca, rfl⟩ := ha.shape
  obtain ⟨ab, cb, rfl⟩ := hb.shape
  obtain ⟨n, hn⟩ : ∃ n, la.length = n := ⟨_, rfl⟩
  obtain ⟨m, hm⟩ : ∃ m, lb.length = m := ⟨_, rfl⟩
  rw [hn, hm] at ck ⊢
  clear ha hb hn hm hv
  go_enter Try.func43, Try.ntmps43
  go_wp2_with fail
  refine (ck _ belowB).mono ?_
  rintro e w1 ⟨rfl, hb1⟩
  have st : Steps _ w1 := hb1
  have Bn : Below w.heap.size w w1 := belowA st
  have nf : Blk w1 (w.heap.size) 53 #[.bool gx, .slice aa n ca, .bool gy, .slice ab m cb] := Blk.stepsA st
  have nr : Blk w1 (w.heap.size + 1) 23 #[.int .i64 0, .int .i64 0] := Blk.stepsA st
  clear st
  have B := Bn
  clear Bn
  have of := nf
  clear nf
  have cf0 : World.cell? w1 ⟨w.heap.size, 0, none⟩ = some (.bool gx) := of.c 0 rfl
  have cf1 : World.cell? w1 ⟨w.heap.size, 1, none⟩ = some (.slice aa n ca) := of.c 1 rfl
  have cf2 : World.cell? w1 ⟨w.heap.size, 2, none⟩ = some (.bool gy) := of.c 2 rfl
  have cf3 : World.cell? w1 ⟨w.heap.size, 3, none⟩ = some (.slice ab m cb) := of.c 3 rfl
  have ff := of.fr
  have lf := of.lt
  have or := nr
  clear nr
  have cr0 : World.cell? w1 ⟨w.heap.size + 1, 0, none⟩ = some (.int .i64 0) := or.c 0 rfl
  have cr1 : World.cell? w1 ⟨w.heap.size + 1, 1, none⟩ = some (.int .i64 0) := or.c 1 rfl
  have fr := or.fr
  have lr := or.lt
  go_wp2_with fail
  refine (ck _ B).mono ?_
  rintro e w2 ⟨rfl, hb2⟩
  have st : Steps _ w2 := hb2
  have Bn : Below w.heap.size w w2 := belowA st
  have nf : Blk w2 (w.heap.size) 53 #[.bool gx, .slice aa n ca, .bool gy, .slice ab m cb] := Blk.stepsA st
  have nr : Blk w2 (w.heap.size + 1) 23 #[.int .i64 0, .int .i64 0] := Blk.stepsA st
  clear B of or cf0 cf1 cf2 cf3 ff lf cr0 cr1 fr lr
  clear st
  have B := Bn
  clear Bn
  have of := nf
  clear nf
  have cf0 : World.cell? w2 ⟨w.heap.size, 0, none⟩ = some (.bool gx) := of.c 0 rfl
  have cf1 : World.cell? w2 ⟨w.heap.size, 1, none⟩ = some (.slice aa n ca) := of.c 1 rfl
  have cf2 : World.cell? w2 ⟨w.heap.size, 2, none⟩ = some (.bool gy) := of.c 2 rfl
  have cf3 : World.cell? w2 ⟨w.heap.size, 3, none⟩ = some (.slice ab m cb) := of.c 3 rfl
  have ff := of.fr
  have lf := of.lt
  have or := nr
  clear nr
  have cr0 : World.cell? w2 ⟨w.heap.size + 1, 0, none⟩ = some (.int .i64 0) := or.c 0 rfl
  have cr1 : World.cell? w2 ⟨w.heap.size + 1, 1, none⟩ = some (.int .i64 0) := or.c 1 rfl
  have fr := or.fr
  have lr := or.lt
  clear ck
  go_wp2
  refine bodyPost_ret (by simp [results, Try.results43, go_sem, cf0, cf1, cf2, cf3, ff, lf, cr0, cr1, fr, lr]; rfl) rfl ?_
  exact G3_eq rfl belowB
set_option maxHeartbeats 3200000 in
set_option maxRecDepth 1000000 in
theorem makes_walk (gx gy : Bool) {sa sb : Value} {la lb : List Int} {z : Int} (w : World) (ha : Lim w sa la) (hb : Lim w sb lb) :
    Calls Try.prog 5 #[.agg #[.bool gx, sa, .bool gy, sb], .int .i64 z] w fun e w' => e = .returned (.bool true) ∧ Below w.heap.size w w' := by
  have bo : la.length ≤ 260 → ∃ a b e, (∀ w', Steps w w' → Calls Try.prog 42 #[.agg #[.bool gx, sa, .bool gy, sb]] w' (G3 w' (a, b, e))) ∧ (∀ w', Steps w w' → Calls Try.prog 43 #[.agg #[.bool gx, sa, .bool gy, sb]] w' (G3 w' (a, b, e))) := fun h => by
    by_cases hv : validF gx la gy lb
    · have F : ∀ w', Steps w w' → Frc w' (.agg #[.bool gx, sa, .bool gy, sb]) (zv gx (lval la)) (lval lb) := fun w' h => Frc.of_valid (ha.steps h) (hb.steps h) hv
      have L : (limbs (absN (zv gx (lval la)))).length ≤ 300 := by
        rw [absN_zv gx (lval_nonneg ha.ok), limbs_lval ha.ok]
        have := ltrim_le la
        omega
      exact ⟨_, _, _, fun w' h => sOf w' (F w' h), fun w' h => rOf w' (F w' h) L⟩
    · exact ⟨0, 0, 8, fun w' h => sOf_bad gx gy w' (ha.steps h) (hb.steps h) hv, fun w' h => rOf_bad gx gy w' (ha.steps h) (hb.steps h) hv⟩
  obtain ⟨wa, wb, we, hwh⟩ : ∃ a b e, whI z = (a, b, e) := ⟨_, _, _, rfl⟩
  have c1 := fun w' => sWhole z w'
  have c2 := fun w' => rWhole z w'
  rw [hwh] at c1 c2
  obtain ⟨aa, ca, rfl⟩ := ha.shape
  obtain ⟨ab, cb, rfl⟩ := hb.shape
  obtain ⟨n, hn⟩ : ∃ n, la.length = n := ⟨_, rfl⟩
  obtain ⟨m, hm⟩ : ∃ m, lb.length = m := ⟨_, rfl⟩
  rw [hn, hm] at bo ⊢
  clear ha hb hn hm hwh
  rcases Nat.lt_or_ge 260 n with h1 | h1
  · go_enter Try.func5, Try.ntmps5
    go_wp2
    go_returns
    exact ⟨rfl, belowB⟩
  rcases Nat.lt_or_ge 260 m with h2 | h2
  · clear bo
    go_enter Try.func5, Try.ntmps5
    go_wp2
    go_returns
    exact ⟨rfl, belowB⟩
  obtain ⟨a, b, e, o1, o2⟩ := bo h1
  clear bo
  go_enter Try.func5, Try.ntmps5
  go_wp2_with fail
  refine (o1 _ belowB).mono ?_
  rintro e w1 ⟨rfl, hb1⟩
  have st : Steps _ w1 := hb1
  have Bn : Below w.heap.size w w1 := belowA st
  have nf : Blk w1 (w.heap.size) 53 #[.bool gx, .slice aa n ca, .bool gy, .slice ab m cb] := Blk.stepsA st
  clear st
  have B := Bn
  clear Bn
  have of := nf
  clear nf
  have cf0 : World.cell? w1 ⟨w.heap.size, 0, none⟩ = some (.bool gx) := of.c 0 rfl
  have cf1 : World.cell? w1 ⟨w.heap.size, 1, none⟩ = some (.slice aa n ca) := of.c 1 rfl
  have cf2 : World.cell? w1 ⟨w.heap.size, 2, none⟩ = some (.bool gy) := of.c 2 rfl
  have cf3 : World.cell? w1 ⟨w.heap.size, 3, none⟩ = some (.slice ab m cb) := of.c 3 rfl
  have ff := of.fr
  have lf := of.lt
  clear o1
  have z1 : w.heap.size < w1.heap.size := of.lt
  go_wp2_with fail
  refine (o2 _ belowB).mono ?_
  rintro e w2 ⟨rfl, hb2⟩
  have st : Steps _ w2 := hb2
  have Bn : Below w.heap.size w w2 := belowA st
  have nf : Blk w2 (w.heap.size) 53 #[.bool gx, .slice aa n ca, .bool gy, .slice ab m cb] := Blk.stepsA st
  have np : Blk w2 (w1.heap.size) 23 #[.int .i64 a, .int .i64 b] := Blk.stepsA st
  clear B of cf0 cf1 cf2 cf3 ff lf
  clear st
  have B := Bn
  clear Bn
  have of := nf
  clear nf
  have cf0 : World.cell? w2 ⟨w.heap.size, 0, none⟩ = some (.bool gx) := of.c 0 rfl
  have cf1 : World.cell? w2 ⟨w.heap.size, 1, none⟩ = some (.slice aa n ca) := of.c 1 rfl
  have cf2 : World.cell? w2 ⟨w.heap.size, 2, none⟩ = some (.bool gy) := of.c 2 rfl
  have cf3 : World.cell? w2 ⟨w.heap.size, 3, none⟩ = some (.slice ab m cb) := of.c 3 rfl
  have ff := of.fr
  have lf := of.lt
  have op := np
  clear np
  have cp0 : World.cell? w2 ⟨w1.heap.size, 0, none⟩ = some (.int .i64 a) := op.c 0 rfl
  have cp1 : World.cell? w2 ⟨w1.heap.size, 1, none⟩ = some (.int .i64 b) := op.c 1 rfl
  have fp := op.fr
  have lp := op.lt
  clear o2
  have z2 : w1.heap.size < w2.heap.size := op.lt
  go_wp2_with fail
  refine (c1 _).mono ?_
  rintro e w3 ⟨rfl, hb3⟩
  have st : Steps _ w3 := hb3
  have Bn : Below w.heap.size w w3 := belowA st
  have nf : Blk w3 (w.heap.size) 53 #[.bool gx, .slice aa n ca, .bool gy, .slice ab m cb] := Blk.stepsA st
  have np : Blk w3 (w1.heap.size) 23 #[.int .i64 a, .int .i64 b] := Blk.stepsA st
  have nq : Blk w3 (w2.heap.size) 23 #[.int .i64 a, .int .i64 b] := Blk.stepsA st
  clear B of op cf0 cf1 cf2 cf3 ff lf cp0 cp1 fp lp
  clear st
  have B := Bn
  clear Bn
  have of := nf
  clear nf
  have cf0 : World.cell? w3 ⟨w.heap.size, 0, none⟩ = some (.bool gx) := of.c 0 rfl
  have cf1 : World.cell? w3 ⟨w.heap.size, 1, none⟩ = some (.slice aa n ca) := of.c 1 rfl
  have cf2 : World.cell? w3 ⟨w.heap.size, 2, none⟩ = some (.bool gy) := of.c 2 rfl
  have cf3 : World.cell? w3 ⟨w.heap.size, 3, none⟩ = some (.slice ab m cb) := of.c 3 rfl
  have ff := of.fr
  have lf := of.lt
  have op := np
  clear np
  have cp0 : World.cell? w3 ⟨w1.heap.size, 0, none⟩ = some (.int .i64 a) := op.c 0 rfl
  have cp1 : World.cell? w3 ⟨w1.heap.size, 1, none⟩ = some (.int .i64 b) := op.c 1 rfl
  have fp := op.fr
  have lp := op.lt
  have oq := nq
  clear nq
  have cq0 : World.cell? w3 ⟨w2.heap.size, 0, none⟩ = some (.int .i64 a) := oq.c 0 rfl
  have cq1 : World.cell? w3 ⟨w2.heap.size, 1, none⟩ = some (.int .i64 b) := oq.c 1 rfl
  have fq := oq.fr
  have lq := oq.lt
  clear c1
  have z3 : w2.heap.size < w3.heap.size := oq.lt
  go_wp2_with fail
  refine (c2 _).mono ?_
  rintro e w4 ⟨rfl, hb4⟩
  have st : Steps _ w4 := hb4
  have Bn : Below w.heap.size w w4 := belowA st
  have nf : Blk w4 (w.heap.size) 53 #[.bool gx, .slice aa n ca, .bool gy, .slice ab m cb] := Blk.stepsA st
  have np : Blk w4 (w1.heap.size) 23 #[.int .i64 a, .int .i64 b] := Blk.stepsA st
  have nq : Blk w4 (w2.heap.size) 23 #[.int .i64 a, .int .i64 b] := Blk.stepsA st
  have ns : Blk w4 (w3.heap.size) 23 #[.int .i64 wa, .int .i64 wb] := Blk.stepsA st
  clear B of op oq cf0 cf1 cf2 cf3 ff lf cp0 cp1 fp lp cq0 cq1 fq lq
  clear st
  have B := Bn
  clear Bn
  have of := nf
  clear nf
  have cf0 : World.cell? w4 ⟨w.heap.size, 0, none⟩ = some (.bool gx) := of.c 0 rfl
  have cf1 : World.cell? w4 ⟨w.heap.size, 1, none⟩ = some (.slice aa n ca) := of.c 1 rfl
  have cf2 : World.cell? w4 ⟨w.heap.size, 2, none⟩ = some (.bool gy) := of.c 2 rfl
  have cf3 : World.cell? w4 ⟨w.heap.size, 3, none⟩ = some (.slice ab m cb) := of.c 3 rfl
  have ff := of.fr
  have lf := of.lt
  have op := np
  clear np
  have cp0 : World.cell? w4 ⟨w1.heap.size, 0, none⟩ = some (.int .i64 a) := op.c 0 rfl
  have cp1 : World.cell? w4 ⟨w1.heap.size, 1, none⟩ = some (.int .i64 b) := op.c 1 rfl
  have fp := op.fr
  have lp := op.lt
  have oq := nq
  clear nq
  have cq0 : World.cell? w4 ⟨w2.heap.size, 0, none⟩ = some (.int .i64 a) := oq.c 0 rfl
  have cq1 : World.cell? w4 ⟨w2.heap.size, 1, none⟩ = some (.int .i64 b) := oq.c 1 rfl
  have fq := oq.fr
  have lq := oq.lt
  have os := ns
  clear ns
  have cs0 : World.cell? w4 ⟨w3.heap.size, 0, none⟩ = some (.int .i64 wa) := os.c 0 rfl
  have cs1 : World.cell? w4 ⟨w3.heap.size, 1, none⟩ = some (.int .i64 wb) := os.c 1 rfl
  have fs := os.fr
  have ls := os.lt
  clear c2
  go_wp2
  go_returns
  exact ⟨rfl, belowB⟩
end Go.Proofs.Ytalnlnpnacfdfaa
