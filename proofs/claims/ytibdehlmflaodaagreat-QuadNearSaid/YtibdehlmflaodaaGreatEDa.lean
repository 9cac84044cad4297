import Derived.Test.YtibdehlmflaodaaGreatEVi
import Derived.Test.YtibdehlmflaodaaGreatEVg
import Derived.Test.YtibdehlmflaodaaGreatEQu
/- QuadNear without the program: Find's answers with two limits, the greedy look for one in the other. -/
set_option linter.unusedVariables false
set_option linter.unusedSimpArgs false
set_option maxHeartbeats 6400000
set_option maxRecDepth 1000000
namespace Go.Proofs.YtibdehlmflaodaaGreat
open Go.RowKit
theorem fours6 : ∀ n, n ≤ 6 → (fours n).length ≤ 15 ∧ ∀ x ∈ fours n, good4 n x = true := by
 intro n hn
 rcases (show n = 0 ∨ n = 1 ∨ n = 2 ∨ n = 3 ∨ n = 4 ∨ n = 5 ∨ n = 6 by omega) with rfl | rfl | rfl | rfl | rfl | rfl | rfl <;> decide
theorem all6 {l : PL} (hl : l.length ≤ 6) : (allS l 6).1 = 8 ∨ ((allS l 6).1 = 0 ∧ (allS l 6).2.length ≤ 15 ∧ ∀ t, t < (allS l 6).2.length → ∀ i, sz (rA ((allS l 6).2.getD t noArr) i) 2) := by
 have hc : chkP l = 0 ∨ chkP l = 8 := by unfold chkP; rw [if_neg (by omega)]; split <;> simp
 rcases hc with hc | hc
 ·
  right
  have e : allS l 6 = (0, qs l (fours (min 6 (l.length : Int)).toNat)) := by unfold allS; rw [hc]; rfl
  rw [e]
  obtain ⟨h1, h2⟩ := fours6 (min 6 (l.length : Int)).toNat (by omega)
  refine ⟨rfl, Nat.le_trans (qs_len l _) h1, fun t ht i => ?_⟩
  have hm : (qs l (fours (min 6 (l.length : Int)).toNat)).getD t noArr ∈ qs l (fours (min 6 (l.length : Int)).toNat) := by
   replace ht : t < (qs l (fours (min 6 (l.length : Int)).toNat)).length := ht
   rw [List.getD, List.getElem?_eq_getElem ht]
   exact List.getElem_mem ht
  generalize (qs l (fours (min 6 (l.length : Int)).toNat)).getD t noArr = a at hm
  obtain ⟨x, hx, hq⟩ := List.mem_filterMap.1 hm
  have hg := h2 x hx
  have hkl : ∀ i, K4 x i < l.length := K4_lt hg (by omega)
  have hpk : ∀ i, okp (pt l (K4 x i)).1 (pt l (K4 x i)).2 := fun i => chk_pts hc _ (hkl i)
  split at hq
  ·
   rename_i hw
   obtain rfl : bestOf l (K4 x) = a := by simpa using hq
   exact rA_sz (bestOf_num hpk hw) (by rw [(bestOf_spec l _ hw).2.1]; exact hw) i
  · cases hq
 ·
  left
  unfold allS
  rw [hc]; rfl
theorem wholeQ_some (f : Nat → Rat) : ∀ n, wholeQ (fun i => some (f i)) n = true
 | 0 => rfl
 | n + 1 => by unfold wholeQ; rw [wholeQ_some f n]; rfl
theorem wholeL_some (f : Nat → Nat → Rat) : ∀ n, wholeL (fun t i => some (f t i)) n = true
 | 0 => rfl
 | n + 1 => by unfold wholeL; rw [wholeL_some f n, wholeQ_some]; rfl
theorem limB_some {r : Rat} (h : 0 ≤ r) : limB (some r) = true := by
 have : ¬ r < 0 := Rat.not_lt.2 h
 simp [limB, this]
theorem findS_some {n : Nat} {f : Nat → Nat → Rat} {g : Nat → Rat} {r : Rat} (hn : n ≤ 500) (h : 0 ≤ r) : findS n (fun t i => some (f t i)) (fun i => some (g i)) (some r) = (found (fun t i => some (f t i)) (fun i => some (g i)) r n, 0) := by
 unfold findS
 rw [if_neg (by omega), wholeL_some, wholeQ_some, limB_some h]; rfl
theorem nearS_some {f g : Nat → Rat} {r : Rat} (h : 0 ≤ r) : nearS (fun i => some (f i)) (fun i => some (g i)) (some r) = (nearQ f g r 4, 0) := by
 unfold nearS
 rw [wholeQ_some, wholeQ_some, limB_some h]; rfl
theorem found_mem {R : Nat → Nat → Option Rat} {q : Nat → Option Rat} {off : Rat} : ∀ {n : Nat} {z : Int}, z ∈ found R q off n → ∃ t : Nat, z = t ∧ t < n ∧ nearQ (rq (R t)) (rq q) off 4 = true
 | 0, z, h => by cases h
 | n + 1, z, h => by
  unfold found at h
  split at h
  ·
   rename_i hn
   rcases List.mem_append.1 h with h | h
   · obtain ⟨t, e, h1, h2⟩ := found_mem h; exact ⟨t, e, by omega, h2⟩
   ·
    obtain rfl : z = (n : Int) := by simpa using h
    exact ⟨n, rfl, by omega, hn⟩
  · obtain ⟨t, e, h1, h2⟩ := found_mem h; exact ⟨t, e, by omega, h2⟩
theorem found_filter {R : Nat → Nat → Option Rat} {q : Nat → Option Rat} {off more : Rat} (h : off ≤ more) : ∀ n, found R q off n = (found R q more n).filter fun z => nearQ (rq (R z.toNat)) (rq q) off 4
 | 0 => rfl
 | n + 1 => by
  unfold found
  by_cases h1 : nearQ (rq (R n)) (rq q) off 4 = true
  ·
   rw [if_pos h1, if_pos (nearQ_more h 4 h1), List.filter_append, ← found_filter h n]
   simp [h1]
  ·
   rw [if_neg h1]
   split
   ·
    rw [List.filter_append, ← found_filter h n]
    simp [h1]
   · exact found_filter h n
def cntF (p : Int → Bool) (L : List Int) (s : Nat) : Nat := ((L.take s).filter p).length
theorem filt_step (p : Int → Bool) (L : List Int) (s : Nat) (hs : s < L.length) :
  (cntF p L s < (L.filter p).length ∧ (L.filter p).getD (cntF p L s) 0 = L.getD s 0 ∧ cntF p L (s + 1) = cntF p L s + 1) ∨
  (cntF p L (s + 1) = cntF p L s ∧ (cntF p L s < (L.filter p).length → (L.filter p).getD (cntF p L s) 0 ≠ L.getD s 0)) := by
 have e1 : L.take (s + 1) = L.take s ++ [L[s]] := by rw [List.take_succ_eq_append_getElem hs]
 have e2 : L = L.take s ++ (L[s] :: L.drop (s + 1)) := by rw [List.getElem_cons_drop, List.take_append_drop]
 have e3 : L.getD s 0 = L[s] := by rw [List.getD, List.getElem?_eq_getElem hs]; rfl
 have e4 : L.filter p = (L.take s).filter p ++ (L[s] :: L.drop (s + 1)).filter p := by rw [← List.filter_append, ← e2]
 unfold cntF
 rw [e3, e1, List.filter_append, e4, List.length_append, List.length_append]
 clear e1 e2 e3 e4
 generalize (L.take s).filter p = A
 generalize L.drop (s + 1) = D
 generalize L[s] = x
 by_cases hp : p x = true
 ·
  left
  simp [List.filter_cons, hp, List.getD]
 ·
  right
  refine ⟨by simp [hp], fun h he => hp ?_⟩
  simp only [List.filter_cons, hp, if_false, Bool.false_eq_true] at h he
  have : ∀ z ∈ D.filter p, p z = true := fun z hz => (List.mem_filter.1 hz).2
  rw [← he]
  refine this _ ?_
  rw [List.getD, List.getElem?_append_right (Nat.le_refl _), Nat.sub_self]
  cases hq : D.filter p with
  | nil => rw [hq] at h; simp at h
  | cons y ys => simp
theorem cntF_all (p : Int → Bool) (L : List Int) : cntF p L L.length = (L.filter p).length := by unfold cntF; rw [List.take_length]
theorem cntF_le (p : Int → Bool) (L : List Int) (s : Nat) : cntF p L s ≤ (L.filter p).length := by
 unfold cntF
 have : L.filter p = (L.take s).filter p ++ (L.drop s).filter p := by rw [← List.filter_append, List.take_append_drop]
 rw [this, List.length_append]; omega
structure Greedy (A N : List Int) (ns : Nat → Nat) : Prop where
 zero : ns 0 = 0
 all : ns A.length = N.length
 le : ∀ s, ns s ≤ N.length
 step : ∀ s, s < A.length → (ns s < N.length ∧ N.getD (ns s) 0 = A.getD s 0 ∧ ns (s + 1) = ns s + 1) ∨ (ns (s + 1) = ns s ∧ (ns s < N.length → N.getD (ns s) 0 ≠ A.getD s 0))
theorem found_greedy {R : Nat → Nat → Option Rat} {q : Nat → Option Rat} {off more : Rat} (h : off ≤ more) (n : Nat) : ∃ ns, Greedy (found R q more n) (found R q off n) ns := by
 rw [found_filter h n]
 exact ⟨cntF _ _, rfl, cntF_all _ _, cntF_le _ _, filt_step _ _⟩
theorem found_get {f : Nat → Nat → Rat} {g : Nat → Rat} {off : Rat} {n : Nat} (s : Nat) (hs : s < (found (fun t i => some (f t i)) (fun i => some (g i)) off n).length) :
  ∃ t : Nat, (found (fun t i => some (f t i)) (fun i => some (g i)) off n).getD s 0 = t ∧ t < n ∧ nearQ (f t) g off 4 = true ∧ nearQ g (f t) off 4 = true := by
 have hm : (found (fun t i => some (f t i)) (fun i => some (g i)) off n).getD s 0 ∈ found (fun t i => some (f t i)) (fun i => some (g i)) off n := by
  rw [List.getD, List.getElem?_eq_getElem hs]
  exact List.getElem_mem hs
 obtain ⟨t, e, h1, h2⟩ := found_mem hm
 exact ⟨t, e, h1, h2, by rw [nearQ_sym]; exact h2⟩
def IsInt (n : Nat) (x : Value) : Prop := ∃ (a : Option Addr) (c : Nat), x = .tuple #[.slice a n c, .int .i64 0]
def GInt (n : Nat) (l : List Int) (x : Value) (W : World) : Prop := ∃ (a : Option Addr) (c : Nat), x = .tuple #[.slice a n c, .int .i64 0] ∧ IntsR W (.slice a n c) l
theorem GInt.get {n : Nat} {l : List Int} {a : Option Addr} {c : Nat} {W : World} (h : GInt n l (.tuple #[.slice a n c, .int .i64 0]) W) : IntsR W (.slice a n c) l := by
 obtain ⟨a', c', e, h⟩ := h
 simp only [Value.tuple.injEq, Array.mk.injEq, List.cons.injEq, and_true, Value.slice.injEq, true_and] at e
 obtain ⟨rfl, rfl⟩ := e
 exact h
structure NearW (w4 : World) (aa ab : Option Addr) (na nb ca cb : Nat) (CA CB : Nat → Array Value) (vo vw : Value) (LN LW : Nat → List Int) : Prop where
 n15 : na ≤ 15
 l15 : ∀ i, i < na → (LN i).length ≤ 15 ∧ (LW i).length ≤ 15
 atA : ∀ t, t < na → ∃ b o, aa = some ⟨b, o, none⟩ ∧ b < w4.heap.size ∧ (CA t).size = 20 ∧ ∀ j, j < 20 → w4.cell? ⟨b, o + t * 20 + j, none⟩ = (CA t)[j]?
 atB : ∀ t, t < nb → ∃ b o, ab = some ⟨b, o, none⟩ ∧ b < w4.heap.size ∧ (CB t).size = 20 ∧ ∀ j, j < 20 → w4.cell? ⟨b, o + t * 20 + j, none⟩ = (CB t)[j]?
 self : ∀ i, i < na → ∀ W z, Steps w4 W → FR W z (0 : Rat) → Calls Tryz.prog 8 #[.agg (CA i), .agg (CA i), z] W fun e w2 => e = .returned (.tuple #[.bool true, .int .i64 0]) ∧ Steps W w2
 near : ∀ i, i < na → ∀ W, Steps w4 W → Calls Tryz.prog 9 #[.slice ab nb cb, .agg (CA i), vo] W fun e w2 => ∃ a c, e = .returned (.tuple #[.slice a (LN i).length c, .int .i64 0]) ∧ IntsR w2 (.slice a (LN i).length c) (LN i) ∧ Steps W w2
 wide : ∀ i, i < na → ∀ W, Steps w4 W → Calls Tryz.prog 9 #[.slice ab nb cb, .agg (CA i), vw] W fun e w2 => ∃ a c, e = .returned (.tuple #[.slice a (LW i).length c, .int .i64 0]) ∧ IntsR w2 (.slice a (LW i).length c) (LW i) ∧ Steps W w2
 greedy : ∀ i, i < na → ∃ ns, Greedy (LW i) (LN i) ns
 got : ∀ i, i < na → ∀ s, s < (LN i).length → ∃ t : Nat, (LN i).getD s 0 = t ∧ t < nb ∧
  (∀ W, Steps w4 W → Calls Tryz.prog 8 #[.agg (CB t), .agg (CA i), vo] W fun e w2 => e = .returned (.tuple #[.bool true, .int .i64 0]) ∧ Steps W w2) ∧
  (∀ W, Steps w4 W → Calls Tryz.prog 8 #[.agg (CA i), .agg (CB t), vo] W fun e w2 => e = .returned (.tuple #[.bool true, .int .i64 0]) ∧ Steps W w2)
theorem near_build {w4 : World} {va vb vo vw : Value} {qa qb : List Arr} {r s : Rat} (ha : QAs w4 va qa) (hb : QAs w4 vb qb) (la : qa.length ≤ 15) (lb : qb.length ≤ 15)
  (sa : ∀ t, t < qa.length → ∀ i, sz (rA (qa.getD t noArr) i) 2) (sb : ∀ t, t < qb.length → ∀ i, sz (rA (qb.getD t noArr) i) 2) (fo : FR w4 vo r) (fw : FR w4 vw s) (r0 : 0 ≤ r) (rs : r ≤ s) (sr : sz r 500) (ss : sz s 500) :
  ∃ aa ca ab cb CA CB LN LW, va = .slice aa qa.length ca ∧ vb = .slice ab qb.length cb ∧ NearW w4 aa ab qa.length qb.length ca cb CA CB vo vw LN LW := by
 obtain ⟨CA, ⟨qA, aa, ca, rfl, hca, pA⟩, fA⟩ := ha.qsl
 have hbq := hb.qsl
 obtain ⟨CB, hB, fB⟩ := hbq
 obtain ⟨qB, ab, cb, rfl, hcb, pB⟩ := hB
 have hBs : QSl w4 (.slice ab qb.length cb) qb.length CB (fun t i => some (rA (qb.getD t noArr) i)) := ⟨qB, ab, cb, rfl, hcb, pB⟩
 have s0 : 0 ≤ s := Rat.le_trans r0 rs
 have zA : ∀ i, i < qa.length → ∀ j, j < 4 → sz (rq (fun j => some (rA (qa.getD i noArr) j)) j) 500 := fun i hi j _ => (sa i hi j).mono (by omega)
 have zB : ∀ i, i < qb.length → ∀ j, j < 4 → sz (rq (fun j => some (rA (qb.getD i noArr) j)) j) 500 := fun i hi j _ => (sb i hi j).mono (by omega)
 have z00 : sz (0 : Rat) 500 := (sz_int (x := 0) (k := 1) (by decide)).mono (by omega)
 refine ⟨aa, ca, ab, cb, CA, CB, fun i => found (fun t j => some (rA (qb.getD t noArr) j)) (fun j => some (rA (qa.getD i noArr) j)) r qb.length, fun i => found (fun t j => some (rA (qb.getD t noArr) j)) (fun j => some (rA (qa.getD i noArr) j)) s qb.length, rfl, rfl, la, fun i hi => ⟨Nat.le_trans (found_len _ _ _ _) lb, Nat.le_trans (found_len _ _ _ _) lb⟩, ?_, ?_, ?_, ?_, ?_, ?_, ?_⟩
 ·
  intro t ht
  obtain ⟨b, o, e, hb', hc⟩ := pA (by omega)
  exact ⟨b, o, e, hb', (qA t ht).1, hc t ht⟩
 ·
  intro t ht
  obtain ⟨b, o, e, hb', hc⟩ := pB (by omega)
  exact ⟨b, o, e, hb', (qB t ht).1, hc t ht⟩
 ·
  intro i hi W z st hz
  have := qNear (o := some 0) W ((qA i hi).steps st) ((qA i hi).steps st) hz (zA i hi) (zA i hi) z00
  rw [nearS_some Rat.le_refl, nearQ_self _ Rat.le_refl] at this
  exact this
 ·
  intro i hi W st
  have := qFind (o := some r) W (hBs.steps st) (by omega) ((qA i hi).steps st) (FR.keeps fo (Keeps.steps st)) zB (zA i hi) sr
  rw [findS_some (by omega) r0] at this
  refine this.mono ?_
  rintro e w2 ⟨u, rfl, hu, hs⟩
  obtain ⟨a, c, rfl⟩ := hu.shape
  exact ⟨a, c, rfl, hu, hs⟩
 ·
  intro i hi W st
  have := qFind (o := some s) W (hBs.steps st) (by omega) ((qA i hi).steps st) (FR.keeps fw (Keeps.steps st)) zB (zA i hi) ss
  rw [findS_some (by omega) s0] at this
  refine this.mono ?_
  rintro e w2 ⟨u, rfl, hu, hs⟩
  obtain ⟨a, c, rfl⟩ := hu.shape
  exact ⟨a, c, rfl, hu, hs⟩
 ·
  intro i hi
  exact found_greedy rs _
 ·
  intro i hi k hk
  obtain ⟨t, e, ht, h1, h2⟩ := found_get k hk
  refine ⟨t, e, ht, fun W st => ?_, fun W st => ?_⟩
  ·
   have := qNear (o := some r) W ((qB t ht).steps st) ((qA i hi).steps st) (FR.keeps fo (Keeps.steps st)) (zB t ht) (zA i hi) sr
   rw [nearS_some r0, h1] at this
   exact this
  ·
   have := qNear (o := some r) W ((qA i hi).steps st) ((qB t ht).steps st) (FR.keeps fo (Keeps.steps st)) (zA i hi) (zB t ht) sr
   rw [nearS_some r0, h2] at this
   exact this
theorem near_bad0 {vl vm : Value} {l m : PL} {t1 t5 : Bool} {t2 t6 : Option Addr} {p t4 p' t8 : Nat} {u1 u5 : Bool} {u2 u6 : Option Addr} {r u4 r' u8 : Nat} {o o' : Option Rat} (w : World) (hl : Pts w vl l) (hm : Pts w vm m)
  (hf : FB w (.agg #[.bool t1, .slice t2 p t4, .bool t5, .slice t6 p' t8]) o) (hg : FB w (.agg #[.bool u1, .slice u2 r u4, .bool u5, .slice u6 r' u8]) o') (h0 : ¬ l.length ≤ 6) :
  Calls Tryz.prog 4 #[vl, vm, .agg #[.bool t1, .slice t2 p t4, .bool t5, .slice t6 p' t8], .agg #[.bool u1, .slice u2 r u4, .bool u5, .slice u6 r' u8]] w fun e w' => e = .returned (.bool true) ∧ Steps w w' := by
 have LO : ∀ w', Steps w w' → Calls Tryz.prog 14 #[.agg #[.bool t1, .slice t2 p t4, .bool t5, .slice t6 p' t8]] w' fun e w2 => e = .returned (.bool (limB o)) ∧ Steps w' w2 := fun w' s => rLimit w' (hf.keeps (Keeps.steps s))
 have LM : ∀ w', Steps w w' → Calls Tryz.prog 14 #[.agg #[.bool u1, .slice u2 r u4, .bool u5, .slice u6 r' u8]] w' fun e w2 => e = .returned (.bool (limB o')) ∧ Steps w' w2 := fun w' s => rLimit w' (hg.keeps (Keeps.steps s))
 obtain ⟨la, lc, rfl⟩ := hl.shape
 obtain ⟨ma, mc, rfl⟩ := hm.shape
 have d1 : (6 : Int) < (l.length : Int) := by omega
 clear hl hm hf hg h0
 go_enter Tryz.func4, Tryz.ntmps4
 go_wp2_with fail
 refine (lalive20 _).mono ?_
 rintro e w1 ⟨rfl, hs1⟩
 have op : Blk w1 (w.heap.size) 30 #[.bool t1, .slice t2 p t4, .bool t5, .slice t6 p' t8] := Blk.stepsK hs1
 have oq : Blk w1 (w.heap.size + 1) 30 #[.bool u1, .slice u2 r u4, .bool u5, .slice u6 r' u8] := Blk.stepsK hs1
 have B : Below w.heap.size w w1 := belowA hs1
 clear hs1
 dsimp only
 repeat' (first | go_values | go_skip | go_guarded | go_step | go_upon)
 go_returns
 exact ⟨rfl, belowB⟩
theorem near_bad1 {vl vm : Value} {l m : PL} {t1 t5 : Bool} {t2 t6 : Option Addr} {p t4 p' t8 : Nat} {u1 u5 : Bool} {u2 u6 : Option Addr} {r u4 r' u8 : Nat} {o o' : Option Rat} (w : World) (hl : Pts w vl l) (hm : Pts w vm m)
  (hf : FB w (.agg #[.bool t1, .slice t2 p t4, .bool t5, .slice t6 p' t8]) o) (hg : FB w (.agg #[.bool u1, .slice u2 r u4, .bool u5, .slice u6 r' u8]) o') (h0 : l.length ≤ 6) (h1 : ¬ m.length ≤ 6) :
  Calls Tryz.prog 4 #[vl, vm, .agg #[.bool t1, .slice t2 p t4, .bool t5, .slice t6 p' t8], .agg #[.bool u1, .slice u2 r u4, .bool u5, .slice u6 r' u8]] w fun e w' => e = .returned (.bool true) ∧ Steps w w' := by
 have LO : ∀ w', Steps w w' → Calls Tryz.prog 14 #[.agg #[.bool t1, .slice t2 p t4, .bool t5, .slice t6 p' t8]] w' fun e w2 => e = .returned (.bool (limB o)) ∧ Steps w' w2 := fun w' s => rLimit w' (hf.keeps (Keeps.steps s))
 have LM : ∀ w', Steps w w' → Calls Tryz.prog 14 #[.agg #[.bool u1, .slice u2 r u4, .bool u5, .slice u6 r' u8]] w' fun e w2 => e = .returned (.bool (limB o')) ∧ Steps w' w2 := fun w' s => rLimit w' (hg.keeps (Keeps.steps s))
 obtain ⟨la, lc, rfl⟩ := hl.shape
 obtain ⟨ma, mc, rfl⟩ := hm.shape
 have d1 : ¬ (6 : Int) < (l.length : Int) := by omega
 have d2 : (6 : Int) < (m.length : Int) := by omega
 clear hl hm hf hg h0 h1
 go_enter Tryz.func4, Tryz.ntmps4
 go_wp2_with fail
 refine (lalive20 _).mono ?_
 rintro e w1 ⟨rfl, hs1⟩
 have op : Blk w1 (w.heap.size) 30 #[.bool t1, .slice t2 p t4, .bool t5, .slice t6 p' t8] := Blk.stepsK hs1
 have oq : Blk w1 (w.heap.size + 1) 30 #[.bool u1, .slice u2 r u4, .bool u5, .slice u6 r' u8] := Blk.stepsK hs1
 have B : Below w.heap.size w w1 := belowA hs1
 clear hs1
 dsimp only
 repeat' (first | go_values | go_skip | go_guarded | go_step | go_upon)
 go_returns
 exact ⟨rfl, belowB⟩
theorem near_bad2 {vl vm : Value} {l m : PL} {t1 t5 : Bool} {t2 t6 : Option Addr} {p t4 p' t8 : Nat} {u1 u5 : Bool} {u2 u6 : Option Addr} {r u4 r' u8 : Nat} {o o' : Option Rat} (w : World) (hl : Pts w vl l) (hm : Pts w vm m)
  (hf : FB w (.agg #[.bool t1, .slice t2 p t4, .bool t5, .slice t6 p' t8]) o) (hg : FB w (.agg #[.bool u1, .slice u2 r u4, .bool u5, .slice u6 r' u8]) o') (h0 : l.length ≤ 6) (h1 : m.length ≤ 6) (h2 : limB o = false) :
  Calls Tryz.prog 4 #[vl, vm, .agg #[.bool t1, .slice t2 p t4, .bool t5, .slice t6 p' t8], .agg #[.bool u1, .slice u2 r u4, .bool u5, .slice u6 r' u8]] w fun e w' => e = .returned (.bool true) ∧ Steps w w' := by
 have LO : ∀ w', Steps w w' → Calls Tryz.prog 14 #[.agg #[.bool t1, .slice t2 p t4, .bool t5, .slice t6 p' t8]] w' fun e w2 => e = .returned (.bool (limB o)) ∧ Steps w' w2 := fun w' s => rLimit w' (hf.keeps (Keeps.steps s))
 have LM : ∀ w', Steps w w' → Calls Tryz.prog 14 #[.agg #[.bool u1, .slice u2 r u4, .bool u5, .slice u6 r' u8]] w' fun e w2 => e = .returned (.bool (limB o')) ∧ Steps w' w2 := fun w' s => rLimit w' (hg.keeps (Keeps.steps s))
 obtain ⟨la, lc, rfl⟩ := hl.shape
 obtain ⟨ma, mc, rfl⟩ := hm.shape
 have d1 : ¬ (6 : Int) < (l.length : Int) := by omega
 have d2 : ¬ (6 : Int) < (m.length : Int) := by omega
 rw [h2] at LO
 clear hl hm hf hg h0 h1 h2
 go_enter Tryz.func4, Tryz.ntmps4
 go_wp2_with fail
 refine (lalive20 _).mono ?_
 rintro e w1 ⟨rfl, hs1⟩
 have op : Blk w1 (w.heap.size) 30 #[.bool t1, .slice t2 p t4, .bool t5, .slice t6 p' t8] := Blk.stepsK hs1
 have oq : Blk w1 (w.heap.size + 1) 30 #[.bool u1, .slice u2 r u4, .bool u5, .slice u6 r' u8] := Blk.stepsK hs1
 have B : Below w.heap.size w w1 := belowA hs1
 clear hs1
 dsimp only
 have cp0 := op.c 0 rfl
 have cp1 := op.c 1 rfl
 have cp2 := op.c 2 rfl
 have cp3 := op.c 3 rfl
 repeat' (first | go_values | go_skip | go_guarded | go_step | go_upon)
 refine (LO _ B).mono ?_
 rintro e w2 ⟨rfl, hs2⟩
 have op2 : Blk w2 (w.heap.size) 30 #[.bool t1, .slice t2 p t4, .bool t5, .slice t6 p' t8] := op.steps hs2
 have oq2 : Blk w2 (w.heap.size + 1) 30 #[.bool u1, .slice u2 r u4, .bool u5, .slice u6 r' u8] := oq.steps hs2
 have B2 : Below w.heap.size w w2 := below_steps B (Nat.le_refl _) hs2
 clear hs2 op oq B LO cp0 cp1 cp2 cp3
 dsimp only
 repeat' (first | go_values | go_skip | go_guarded | go_step | go_upon)
 go_returns
 exact ⟨rfl, belowB⟩
theorem near_bad3 {vl vm : Value} {l m : PL} {t1 t5 : Bool} {t2 t6 : Option Addr} {p t4 p' t8 : Nat} {u1 u5 : Bool} {u2 u6 : Option Addr} {r u4 r' u8 : Nat} {o o' : Option Rat} (w : World) (hl : Pts w vl l) (hm : Pts w vm m)
  (hf : FB w (.agg #[.bool t1, .slice t2 p t4, .bool t5, .slice t6 p' t8]) o) (hg : FB w (.agg #[.bool u1, .slice u2 r u4, .bool u5, .slice u6 r' u8]) o') (h0 : l.length ≤ 6) (h1 : m.length ≤ 6) (h2 : limB o = true) (h3 : limB o' = false) :
  Calls Tryz.prog 4 #[vl, vm, .agg #[.bool t1, .slice t2 p t4, .bool t5, .slice t6 p' t8], .agg #[.bool u1, .slice u2 r u4, .bool u5, .slice u6 r' u8]] w fun e w' => e = .returned (.bool true) ∧ Steps w w' := by
 have LO : ∀ w', Steps w w' → Calls Tryz.prog 14 #[.agg #[.bool t1, .slice t2 p t4, .bool t5, .slice t6 p' t8]] w' fun e w2 => e = .returned (.bool (limB o)) ∧ Steps w' w2 := fun w' s => rLimit w' (hf.keeps (Keeps.steps s))
 have LM : ∀ w', Steps w w' → Calls Tryz.prog 14 #[.agg #[.bool u1, .slice u2 r u4, .bool u5, .slice u6 r' u8]] w' fun e w2 => e = .returned (.bool (limB o')) ∧ Steps w' w2 := fun w' s => rLimit w' (hg.keeps (Keeps.steps s))
 obtain ⟨la, lc, rfl⟩ := hl.shape
 obtain ⟨ma, mc, rfl⟩ := hm.shape
 have d1 : ¬ (6 : Int) < (l.length : Int) := by omega
 have d2 : ¬ (6 : Int) < (m.length : Int) := by omega
 rw [h2] at LO
 rw [h3] at LM
 clear hl hm hf hg h0 h1 h2 h3
 go_enter Tryz.func4, Tryz.ntmps4
 go_wp2_with fail
 refine (lalive20 _).mono ?_
 rintro e w1 ⟨rfl, hs1⟩
 have op : Blk w1 (w.heap.size) 30 #[.bool t1, .slice t2 p t4, .bool t5, .slice t6 p' t8] := Blk.stepsK hs1
 have oq : Blk w1 (w.heap.size + 1) 30 #[.bool u1, .slice u2 r u4, .bool u5, .slice u6 r' u8] := Blk.stepsK hs1
 have B : Below w.heap.size w w1 := belowA hs1
 clear hs1
 dsimp only
 have cp0 := op.c 0 rfl
 have cp1 := op.c 1 rfl
 have cp2 := op.c 2 rfl
 have cp3 := op.c 3 rfl
 repeat' (first | go_values | go_skip | go_guarded | go_step | go_upon)
 refine (LO _ B).mono ?_
 rintro e w2 ⟨rfl, hs2⟩
 have op2 : Blk w2 (w.heap.size) 30 #[.bool t1, .slice t2 p t4, .bool t5, .slice t6 p' t8] := op.steps hs2
 have oq2 : Blk w2 (w.heap.size + 1) 30 #[.bool u1, .slice u2 r u4, .bool u5, .slice u6 r' u8] := oq.steps hs2
 have B2 : Below w.heap.size w w2 := below_steps B (Nat.le_refl _) hs2
 clear hs2 op oq B LO cp0 cp1 cp2 cp3
 dsimp only
 have cq0 := oq2.c 0 rfl
 have cq1 := oq2.c 1 rfl
 have cq2 := oq2.c 2 rfl
 have cq3 := oq2.c 3 rfl
 repeat' (first | go_values | go_skip | go_guarded | go_step | go_upon)
 refine (LM _ B2).mono ?_
 rintro e w3 ⟨rfl, hs3⟩
 have op3 : Blk w3 (w.heap.size) 30 #[.bool t1, .slice t2 p t4, .bool t5, .slice t6 p' t8] := op2.steps hs3
 have oq3 : Blk w3 (w.heap.size + 1) 30 #[.bool u1, .slice u2 r u4, .bool u5, .slice u6 r' u8] := oq2.steps hs3
 have B3 : Below w.heap.size w w3 := below_steps B2 (Nat.le_refl _) hs3
 clear hs3 op2 oq2 B2 LM cq0 cq1 cq2 cq3
 dsimp only
 repeat' (first | go_values | go_skip | go_guarded | go_step | go_upon)
 go_returns
 exact ⟨rfl, belowB⟩
theorem near_bad4 {vl vm : Value} {l m : PL} {t1 t5 : Bool} {t2 t6 : Option Addr} {p t4 p' t8 : Nat} {u1 u5 : Bool} {u2 u6 : Option Addr} {r u4 r' u8 : Nat} {o o' : Option Rat} (w : World) (hl : Pts w vl l) (hm : Pts w vm m)
  (hf : FB w (.agg #[.bool t1, .slice t2 p t4, .bool t5, .slice t6 p' t8]) o) (hg : FB w (.agg #[.bool u1, .slice u2 r u4, .bool u5, .slice u6 r' u8]) o') (h0 : l.length ≤ 6) (h1 : m.length ≤ 6) (h2 : limB o = true) (h3 : limB o' = true) (h4 : ¬ p ≤ 4) :
  Calls Tryz.prog 4 #[vl, vm, .agg #[.bool t1, .slice t2 p t4, .bool t5, .slice t6 p' t8], .agg #[.bool u1, .slice u2 r u4, .bool u5, .slice u6 r' u8]] w fun e w' => e = .returned (.bool true) ∧ Steps w w' := by
 have LO : ∀ w', Steps w w' → Calls Tryz.prog 14 #[.agg #[.bool t1, .slice t2 p t4, .bool t5, .slice t6 p' t8]] w' fun e w2 => e = .returned (.bool (limB o)) ∧ Steps w' w2 := fun w' s => rLimit w' (hf.keeps (Keeps.steps s))
 have LM : ∀ w', Steps w w' → Calls Tryz.prog 14 #[.agg #[.bool u1, .slice u2 r u4, .bool u5, .slice u6 r' u8]] w' fun e w2 => e = .returned (.bool (limB o')) ∧ Steps w' w2 := fun w' s => rLimit w' (hg.keeps (Keeps.steps s))
 obtain ⟨la, lc, rfl⟩ := hl.shape
 obtain ⟨ma, mc, rfl⟩ := hm.shape
 have d1 : ¬ (6 : Int) < (l.length : Int) := by omega
 have d2 : ¬ (6 : Int) < (m.length : Int) := by omega
 rw [h2] at LO
 rw [h3] at LM
 have d3 : (4 : Int) < (p : Int) := by omega
 clear hl hm hf hg h0 h1 h2 h3 h4
 go_enter Tryz.func4, Tryz.ntmps4
 go_wp2_with fail
 refine (lalive20 _).mono ?_
 rintro e w1 ⟨rfl, hs1⟩
 have op : Blk w1 (w.heap.size) 30 #[.bool t1, .slice t2 p t4, .bool t5, .slice t6 p' t8] := Blk.stepsK hs1
 have oq : Blk w1 (w.heap.size + 1) 30 #[.bool u1, .slice u2 r u4, .bool u5, .slice u6 r' u8] := Blk.stepsK hs1
 have B : Below w.heap.size w w1 := belowA hs1
 clear hs1
 dsimp only
 have cp0 := op.c 0 rfl
 have cp1 := op.c 1 rfl
 have cp2 := op.c 2 rfl
 have cp3 := op.c 3 rfl
 repeat' (first | go_values | go_skip | go_guarded | go_step | go_upon)
 refine (LO _ B).mono ?_
 rintro e w2 ⟨rfl, hs2⟩
 have op2 : Blk w2 (w.heap.size) 30 #[.bool t1, .slice t2 p t4, .bool t5, .slice t6 p' t8] := op.steps hs2
 have oq2 : Blk w2 (w.heap.size + 1) 30 #[.bool u1, .slice u2 r u4, .bool u5, .slice u6 r' u8] := oq.steps hs2
 have B2 : Below w.heap.size w w2 := below_steps B (Nat.le_refl _) hs2
 clear hs2 op oq B LO cp0 cp1 cp2 cp3
 dsimp only
 have cq0 := oq2.c 0 rfl
 have cq1 := oq2.c 1 rfl
 have cq2 := oq2.c 2 rfl
 have cq3 := oq2.c 3 rfl
 repeat' (first | go_values | go_skip | go_guarded | go_step | go_upon)
 refine (LM _ B2).mono ?_
 rintro e w3 ⟨rfl, hs3⟩
 have op3 : Blk w3 (w.heap.size) 30 #[.bool t1, .slice t2 p t4, .bool t5, .slice t6 p' t8] := op2.steps hs3
 have oq3 : Blk w3 (w.heap.size + 1) 30 #[.bool u1, .slice u2 r u4, .bool u5, .slice u6 r' u8] := oq2.steps hs3
 have B3 : Below w.heap.size w w3 := below_steps B2 (Nat.le_refl _) hs3
 clear hs3 op2 oq2 B2 LM cq0 cq1 cq2 cq3
 dsimp only
 have cp1 := op3.c 1 rfl
 have cp3 := op3.c 3 rfl
 have cq1 := oq3.c 1 rfl
 have cq3 := oq3.c 3 rfl
 repeat' (first | go_values | go_skip | go_guarded | go_step | go_upon)
 go_returns
 exact ⟨rfl, belowB⟩
theorem near_bad5 {vl vm : Value} {l m : PL} {t1 t5 : Bool} {t2 t6 : Option Addr} {p t4 p' t8 : Nat} {u1 u5 : Bool} {u2 u6 : Option Addr} {r u4 r' u8 : Nat} {o o' : Option Rat} (w : World) (hl : Pts w vl l) (hm : Pts w vm m)
  (hf : FB w (.agg #[.bool t1, .slice t2 p t4, .bool t5, .slice t6 p' t8]) o) (hg : FB w (.agg #[.bool u1, .slice u2 r u4, .bool u5, .slice u6 r' u8]) o') (h0 : l.length ≤ 6) (h1 : m.length ≤ 6) (h2 : limB o = true) (h3 : limB o' = true) (h4 : p ≤ 4) (h5 : ¬ p' ≤ 4) :
  Calls Tryz.prog 4 #[vl, vm, .agg #[.bool t1, .slice t2 p t4, .bool t5, .slice t6 p' t8], .agg #[.bool u1, .slice u2 r u4, .bool u5, .slice u6 r' u8]] w fun e w' => e = .returned (.bool true) ∧ Steps w w' := by
 have LO : ∀ w', Steps w w' → Calls Tryz.prog 14 #[.agg #[.bool t1, .slice t2 p t4, .bool t5, .slice t6 p' t8]] w' fun e w2 => e = .returned (.bool (limB o)) ∧ Steps w' w2 := fun w' s => rLimit w' (hf.keeps (Keeps.steps s))
 have LM : ∀ w', Steps w w' → Calls Tryz.prog 14 #[.agg #[.bool u1, .slice u2 r u4, .bool u5, .slice u6 r' u8]] w' fun e w2 => e = .returned (.bool (limB o')) ∧ Steps w' w2 := fun w' s => rLimit w' (hg.keeps (Keeps.steps s))
 obtain ⟨la, lc, rfl⟩ := hl.shape
 obtain ⟨ma, mc, rfl⟩ := hm.shape
 have d1 : ¬ (6 : Int) < (l.length : Int) := by omega
 have d2 : ¬ (6 : Int) < (m.length : Int) := by omega
 rw [h2] at LO
 rw [h3] at LM
 have d3 : ¬ (4 : Int) < (p : Int) := by omega
 have d4 : (4 : Int) < (p' : Int) := by omega
 clear hl hm hf hg h0 h1 h2 h3 h4 h5
 go_enter Tryz.func4, Tryz.ntmps4
 go_wp2_with fail
 refine (lalive20 _).mono ?_
 rintro e w1 ⟨rfl, hs1⟩
 have op : Blk w1 (w.heap.size) 30 #[.bool t1, .slice t2 p t4, .bool t5, .slice t6 p' t8] := Blk.stepsK hs1
 have oq : Blk w1 (w.heap.size + 1) 30 #[.bool u1, .slice u2 r u4, .bool u5, .slice u6 r' u8] := Blk.stepsK hs1
 have B : Below w.heap.size w w1 := belowA hs1
 clear hs1
 dsimp only
 have cp0 := op.c 0 rfl
 have cp1 := op.c 1 rfl
 have cp2 := op.c 2 rfl
 have cp3 := op.c 3 rfl
 repeat' (first | go_values | go_skip | go_guarded | go_step | go_upon)
 refine (LO _ B).mono ?_
 rintro e w2 ⟨rfl, hs2⟩
 have op2 : Blk w2 (w.heap.size) 30 #[.bool t1, .slice t2 p t4, .bool t5, .slice t6 p' t8] := op.steps hs2
 have oq2 : Blk w2 (w.heap.size + 1) 30 #[.bool u1, .slice u2 r u4, .bool u5, .slice u6 r' u8] := oq.steps hs2
 have B2 : Below w.heap.size w w2 := below_steps B (Nat.le_refl _) hs2
 clear hs2 op oq B LO cp0 cp1 cp2 cp3
 dsimp only
 have cq0 := oq2.c 0 rfl
 have cq1 := oq2.c 1 rfl
 have cq2 := oq2.c 2 rfl
 have cq3 := oq2.c 3 rfl
 repeat' (first | go_values | go_skip | go_guarded | go_step | go_upon)
 refine (LM _ B2).mono ?_
 rintro e w3 ⟨rfl, hs3⟩
 have op3 : Blk w3 (w.heap.size) 30 #[.bool t1, .slice t2 p t4, .bool t5, .slice t6 p' t8] := op2.steps hs3
 have oq3 : Blk w3 (w.heap.size + 1) 30 #[.bool u1, .slice u2 r u4, .bool u5, .slice u6 r' u8] := oq2.steps hs3
 have B3 : Below w.heap.size w w3 := below_steps B2 (Nat.le_refl _) hs3
 clear hs3 op2 oq2 B2 LM cq0 cq1 cq2 cq3
 dsimp only
 have cp1 := op3.c 1 rfl
 have cp3 := op3.c 3 rfl
 have cq1 := oq3.c 1 rfl
 have cq3 := oq3.c 3 rfl
 repeat' (first | go_values | go_skip | go_guarded | go_step | go_upon)
 go_returns
 exact ⟨rfl, belowB⟩
theorem near_bad6 {vl vm : Value} {l m : PL} {t1 t5 : Bool} {t2 t6 : Option Addr} {p t4 p' t8 : Nat} {u1 u5 : Bool} {u2 u6 : Option Addr} {r u4 r' u8 : Nat} {o o' : Option Rat} (w : World) (hl : Pts w vl l) (hm : Pts w vm m)
  (hf : FB w (.agg #[.bool t1, .slice t2 p t4, .bool t5, .slice t6 p' t8]) o) (hg : FB w (.agg #[.bool u1, .slice u2 r u4, .bool u5, .slice u6 r' u8]) o') (h0 : l.length ≤ 6) (h1 : m.length ≤ 6) (h2 : limB o = true) (h3 : limB o' = true) (h4 : p ≤ 4) (h5 : p' ≤ 4) (h6 : ¬ r ≤ 4) :
  Calls Tryz.prog 4 #[vl, vm, .agg #[.bool t1, .slice t2 p t4, .bool t5, .slice t6 p' t8], .agg #[.bool u1, .slice u2 r u4, .bool u5, .slice u6 r' u8]] w fun e w' => e = .returned (.bool true) ∧ Steps w w' := by
 have LO : ∀ w', Steps w w' → Calls Tryz.prog 14 #[.agg #[.bool t1, .slice t2 p t4, .bool t5, .slice t6 p' t8]] w' fun e w2 => e = .returned (.bool (limB o)) ∧ Steps w' w2 := fun w' s => rLimit w' (hf.keeps (Keeps.steps s))
 have LM : ∀ w', Steps w w' → Calls Tryz.prog 14 #[.agg #[.bool u1, .slice u2 r u4, .bool u5, .slice u6 r' u8]] w' fun e w2 => e = .returned (.bool (limB o')) ∧ Steps w' w2 := fun w' s => rLimit w' (hg.keeps (Keeps.steps s))
 obtain ⟨la, lc, rfl⟩ := hl.shape
 obtain ⟨ma, mc, rfl⟩ := hm.shape
 have d1 : ¬ (6 : Int) < (l.length : Int) := by omega
 have d2 : ¬ (6 : Int) < (m.length : Int) := by omega
 rw [h2] at LO
 rw [h3] at LM
 have d3 : ¬ (4 : Int) < (p : Int) := by omega
 have d4 : ¬ (4 : Int) < (p' : Int) := by omega
 have d5 : (4 : Int) < (r : Int) := by omega
 clear hl hm hf hg h0 h1 h2 h3 h4 h5 h6
 go_enter Tryz.func4, Tryz.ntmps4
 go_wp2_with fail
 refine (lalive20 _).mono ?_
 rintro e w1 ⟨rfl, hs1⟩
 have op : Blk w1 (w.heap.size) 30 #[.bool t1, .slice t2 p t4, .bool t5, .slice t6 p' t8] := Blk.stepsK hs1
 have oq : Blk w1 (w.heap.size + 1) 30 #[.bool u1, .slice u2 r u4, .bool u5, .slice u6 r' u8] := Blk.stepsK hs1
 have B : Below w.heap.size w w1 := belowA hs1
 clear hs1
 dsimp only
 have cp0 := op.c 0 rfl
 have cp1 := op.c 1 rfl
 have cp2 := op.c 2 rfl
 have cp3 := op.c 3 rfl
 repeat' (first | go_values | go_skip | go_guarded | go_step | go_upon)
 refine (LO _ B).mono ?_
 rintro e w2 ⟨rfl, hs2⟩
 have op2 : Blk w2 (w.heap.size) 30 #[.bool t1, .slice t2 p t4, .bool t5, .slice t6 p' t8] := op.steps hs2
 have oq2 : Blk w2 (w.heap.size + 1) 30 #[.bool u1, .slice u2 r u4, .bool u5, .slice u6 r' u8] := oq.steps hs2
 have B2 : Below w.heap.size w w2 := below_steps B (Nat.le_refl _) hs2
 clear hs2 op oq B LO cp0 cp1 cp2 cp3
 dsimp only
 have cq0 := oq2.c 0 rfl
 have cq1 := oq2.c 1 rfl
 have cq2 := oq2.c 2 rfl
 have cq3 := oq2.c 3 rfl
 repeat' (first | go_values | go_skip | go_guarded | go_step | go_upon)
 refine (LM _ B2).mono ?_
 rintro e w3 ⟨rfl, hs3⟩
 have op3 : Blk w3 (w.heap.size) 30 #[.bool t1, .slice t2 p t4, .bool t5, .slice t6 p' t8] := op2.steps hs3
 have oq3 : Blk w3 (w.heap.size + 1) 30 #[.bool u1, .slice u2 r u4, .bool u5, .slice u6 r' u8] := oq2.steps hs3
 have B3 : Below w.heap.size w w3 := below_steps B2 (Nat.le_refl _) hs3
 clear hs3 op2 oq2 B2 LM cq0 cq1 cq2 cq3
 dsimp only
 have cp1 := op3.c 1 rfl
 have cp3 := op3.c 3 rfl
 have cq1 := oq3.c 1 rfl
 have cq3 := oq3.c 3 rfl
 repeat' (first | go_values | go_skip | go_guarded | go_step | go_upon)
 go_returns
 exact ⟨rfl, belowB⟩
theorem near_bad7 {vl vm : Value} {l m : PL} {t1 t5 : Bool} {t2 t6 : Option Addr} {p t4 p' t8 : Nat} {u1 u5 : Bool} {u2 u6 : Option Addr} {r u4 r' u8 : Nat} {o o' : Option Rat} (w : World) (hl : Pts w vl l) (hm : Pts w vm m)
  (hf : FB w (.agg #[.bool t1, .slice t2 p t4, .bool t5, .slice t6 p' t8]) o) (hg : FB w (.agg #[.bool u1, .slice u2 r u4, .bool u5, .slice u6 r' u8]) o') (h0 : l.length ≤ 6) (h1 : m.length ≤ 6) (h2 : limB o = true) (h3 : limB o' = true) (h4 : p ≤ 4) (h5 : p' ≤ 4) (h6 : r ≤ 4) (h7 : ¬ r' ≤ 4) :
  Calls Tryz.prog 4 #[vl, vm, .agg #[.bool t1, .slice t2 p t4, .bool t5, .slice t6 p' t8], .agg #[.bool u1, .slice u2 r u4, .bool u5, .slice u6 r' u8]] w fun e w' => e = .returned (.bool true) ∧ Steps w w' := by
 have LO : ∀ w', Steps w w' → Calls Tryz.prog 14 #[.agg #[.bool t1, .slice t2 p t4, .bool t5, .slice t6 p' t8]] w' fun e w2 => e = .returned (.bool (limB o)) ∧ Steps w' w2 := fun w' s => rLimit w' (hf.keeps (Keeps.steps s))
 have LM : ∀ w', Steps w w' → Calls Tryz.prog 14 #[.agg #[.bool u1, .slice u2 r u4, .bool u5, .slice u6 r' u8]] w' fun e w2 => e = .returned (.bool (limB o')) ∧ Steps w' w2 := fun w' s => rLimit w' (hg.keeps (Keeps.steps s))
 obtain ⟨la, lc, rfl⟩ := hl.shape
 obtain ⟨ma, mc, rfl⟩ := hm.shape
 have d1 : ¬ (6 : Int) < (l.length : Int) := by omega
 have d2 : ¬ (6 : Int) < (m.length : Int) := by omega
 rw [h2] at LO
 rw [h3] at LM
 have d3 : ¬ (4 : Int) < (p : Int) := by omega
 have d4 : ¬ (4 : Int) < (p' : Int) := by omega
 have d5 : ¬ (4 : Int) < (r : Int) := by omega
 have d6 : (4 : Int) < (r' : Int) := by omega
 clear hl hm hf hg h0 h1 h2 h3 h4 h5 h6 h7
 go_enter Tryz.func4, Tryz.ntmps4
 go_wp2_with fail
 refine (lalive20 _).mono ?_
 rintro e w1 ⟨rfl, hs1⟩
 have op : Blk w1 (w.heap.size) 30 #[.bool t1, .slice t2 p t4, .bool t5, .slice t6 p' t8] := Blk.stepsK hs1
 have oq : Blk w1 (w.heap.size + 1) 30 #[.bool u1, .slice u2 r u4, .bool u5, .slice u6 r' u8] := Blk.stepsK hs1
 have B : Below w.heap.size w w1 := belowA hs1
 clear hs1
 dsimp only
 have cp0 := op.c 0 rfl
 have cp1 := op.c 1 rfl
 have cp2 := op.c 2 rfl
 have cp3 := op.c 3 rfl
 repeat' (first | go_values | go_skip | go_guarded | go_step | go_upon)
 refine (LO _ B).mono ?_
 rintro e w2 ⟨rfl, hs2⟩
 have op2 : Blk w2 (w.heap.size) 30 #[.bool t1, .slice t2 p t4, .bool t5, .slice t6 p' t8] := op.steps hs2
 have oq2 : Blk w2 (w.heap.size + 1) 30 #[.bool u1, .slice u2 r u4, .bool u5, .slice u6 r' u8] := oq.steps hs2
 have B2 : Below w.heap.size w w2 := below_steps B (Nat.le_refl _) hs2
 clear hs2 op oq B LO cp0 cp1 cp2 cp3
 dsimp only
 have cq0 := oq2.c 0 rfl
 have cq1 := oq2.c 1 rfl
 have cq2 := oq2.c 2 rfl
 have cq3 := oq2.c 3 rfl
 repeat' (first | go_values | go_skip | go_guarded | go_step | go_upon)
 refine (LM _ B2).mono ?_
 rintro e w3 ⟨rfl, hs3⟩
 have op3 : Blk w3 (w.heap.size) 30 #[.bool t1, .slice t2 p t4, .bool t5, .slice t6 p' t8] := op2.steps hs3
 have oq3 : Blk w3 (w.heap.size + 1) 30 #[.bool u1, .slice u2 r u4, .bool u5, .slice u6 r' u8] := oq2.steps hs3
 have B3 : Below w.heap.size w w3 := below_steps B2 (Nat.le_refl _) hs3
 clear hs3 op2 oq2 B2 LM cq0 cq1 cq2 cq3
 dsimp only
 have cp1 := op3.c 1 rfl
 have cp3 := op3.c 3 rfl
 have cq1 := oq3.c 1 rfl
 have cq3 := oq3.c 3 rfl
 repeat' (first | go_values | go_skip | go_guarded | go_step | go_upon)
 go_returns
 exact ⟨rfl, belowB⟩
theorem near_ok {vl vm : Value} {l m : PL} {t1 t5 : Bool} {t2 t6 : Option Addr} {p t4 p' t8 : Nat} {u1 u5 : Bool} {u2 u6 : Option Addr} {r u4 r' u8 : Nat} {o o' : Option Rat} (w : World) (hl : Pts w vl l) (hm : Pts w vm m)
  (hf : FB w (.agg #[.bool t1, .slice t2 p t4, .bool t5, .slice t6 p' t8]) o) (ho : ∀ z, o = some z → absN z.num ≤ bp p ∧ (z.den : Int) ≤ bp p') (hg : FB w (.agg #[.bool u1, .slice u2 r u4, .bool u5, .slice u6 r' u8]) o') (ho' : ∀ z, o' = some z → absN z.num ≤ bp r ∧ (z.den : Int) ≤ bp r') (h0 : l.length ≤ 6) (h1 : m.length ≤ 6) (h2 : limB o = true) (h3 : limB o' = true) (h4 : p ≤ 4) (h5 : p' ≤ 4) (h6 : r ≤ 4) (h7 : r' ≤ 4) :
  Calls Tryz.prog 4 #[vl, vm, .agg #[.bool t1, .slice t2 p t4, .bool t5, .slice t6 p' t8], .agg #[.bool u1, .slice u2 r u4, .bool u5, .slice u6 r' u8]] w fun e w' => e = .returned (.bool true) ∧ Steps w w' := by
 have HL := Hid.mk_ hl
 have HM := Hid.mk_ hm
 have HF := Hid.mk_ hf
 have HG := Hid.mk_ hg
 have LO : ∀ w', Steps w w' → Calls Tryz.prog 14 #[.agg #[.bool t1, .slice t2 p t4, .bool t5, .slice t6 p' t8]] w' fun e w2 => e = .returned (.bool (limB o)) ∧ Steps w' w2 := fun w' s => rLimit w' (hf.keeps (Keeps.steps s))
 have LM : ∀ w', Steps w w' → Calls Tryz.prog 14 #[.agg #[.bool u1, .slice u2 r u4, .bool u5, .slice u6 r' u8]] w' fun e w2 => e = .returned (.bool (limB o')) ∧ Steps w' w2 := fun w' s => rLimit w' (hg.keeps (Keeps.steps s))
 have aL : l.length ≤ 6 → ∀ w', Steps w w' → Calls Tryz.prog 7 #[vl, .int .i64 6] w' (AllP w' l 6) := fun h w' s => qAll 6 w' (hl.steps s) (by omega) (fun _ _ => by omega)
 have aM : m.length ≤ 6 → ∀ w', Steps w w' → Calls Tryz.prog 7 #[vm, .int .i64 6] w' (AllP w' m 6) := fun h w' s => qAll 6 w' (hm.steps s) (by omega) (fun _ _ => by omega)
 have e6 := @all6 l
 have f6 := @all6 m
 have AD : ∀ q q' : Rat, o = some q → o' = some q' → p ≤ 4 → p' ≤ 4 → r ≤ 4 → r' ≤ 4 → (∀ w', Steps w w' → Calls Tryz.prog 15 #[.agg #[.bool t1, .slice t2 p t4, .bool t5, .slice t6 p' t8], .agg #[.bool u1, .slice u2 r u4, .bool u5, .slice u6 r' u8]] w' fun e w2 => ∃ v, e = .returned (.tuple #[v, .int .i64 0]) ∧ FR w2 v (q + q') ∧ Steps w' w2) ∧ sz q 500 ∧ sz (q + q') 500 ∧ FR w (.agg #[.bool t1, .slice t2 p t4, .bool t5, .slice t6 p' t8]) q := fun q q' e1 e2 h1 h2 h3 h4 => by
  have z1 : sz q 4 := ⟨Int.le_trans (ho q e1).1 (bp_mono h1), Int.le_trans (ho q e1).2 (bp_mono h2)⟩
  have z2 : sz q' 4 := ⟨Int.le_trans (ho' q' e2).1 (bp_mono h3), Int.le_trans (ho' q' e2).2 (bp_mono h4)⟩
  subst e1
  subst e2
  exact ⟨fun w' s => fAddQ w' (FR.keeps hf (Keeps.steps s)) (FR.keeps hg (Keeps.steps s)) z1 z2 (by omega), z1.mono (by omega), (z1.add z2).mono (by omega), hf⟩
 obtain ⟨la, lc, rfl⟩ := hl.shape
 obtain ⟨ma, mc, rfl⟩ := hm.shape
 unfold AllP at aL aM
 obtain ⟨LA, hLA⟩ : ∃ z, (allS l 6).2 = z := ⟨_, rfl⟩
 obtain ⟨LM_, hLM⟩ : ∃ z, (allS m 6).2 = z := ⟨_, rfl⟩
 rw [hLA] at aL e6
 rw [hLM] at aM f6
 obtain ⟨E1, hE1⟩ : ∃ z, (allS l 6).1 = z := ⟨_, rfl⟩
 obtain ⟨E2, hE2⟩ : ∃ z, (allS m 6).1 = z := ⟨_, rfl⟩
 rw [hE1] at aL e6
 rw [hE2] at aM f6
 obtain ⟨N, hN⟩ : ∃ n, l.length = n := ⟨_, rfl⟩
 obtain ⟨M, hM⟩ : ∃ n, m.length = n := ⟨_, rfl⟩
 rw [hN] at aL e6 h0 ⊢
 rw [hM] at aM f6 h1 ⊢
 have HE := Hid.mk_ (And.intro @e6 @f6)
 have HAD := Hid.mk_ AD
 have HaL := Hid.mk_ aL
 have HaM := Hid.mk_ aM
 clear hl hm hf hg ho ho' hLA hLM hE1 hE2 hN hM e6 f6 AD aL aM HL HM HF HG
 have lo1 : ∀ q : Option Rat, limB q = true → ∃ z, q = some z ∧ 0 ≤ z := fun q h => lim_some h
 have HLS := Hid.mk_ lo1
 clear lo1
 rw [h2] at LO
 rw [h3] at LM
 have HbO := Hid.mk_ h2
 have HbM := Hid.mk_ h3
 have d1 : ¬ (6 : Int) < (N : Int) := by omega
 have d2 : ¬ (6 : Int) < (M : Int) := by omega
 have d3 : ¬ (4 : Int) < (p : Int) := by omega
 have d4 : ¬ (4 : Int) < (p' : Int) := by omega
 have d5 : ¬ (4 : Int) < (r : Int) := by omega
 have d6 : ¬ (4 : Int) < (r' : Int) := by omega
 have HN6 := Hid.mk_ h0
 have HM6 := Hid.mk_ h1
 clear h0 h1 h2 h3
 go_enter Tryz.func4, Tryz.ntmps4
 go_wp2_with fail
 refine (lalive20 _).mono ?_
 rintro e w1 ⟨rfl, hs1⟩
 have op : Blk w1 (w.heap.size) 30 #[.bool t1, .slice t2 p t4, .bool t5, .slice t6 p' t8] := Blk.stepsK hs1
 have oq : Blk w1 (w.heap.size + 1) 30 #[.bool u1, .slice u2 r u4, .bool u5, .slice u6 r' u8] := Blk.stepsK hs1
 have B : Below w.heap.size w w1 := belowA hs1
 clear hs1
 dsimp only
 have cp0 := op.c 0 rfl
 have cp1 := op.c 1 rfl
 have cp2 := op.c 2 rfl
 have cp3 := op.c 3 rfl
 repeat' (first | go_values | go_skip | go_guarded | go_step | go_upon)
 refine (LO _ B).mono ?_
 rintro e w2 ⟨rfl, hs2⟩
 have op2 : Blk w2 (w.heap.size) 30 #[.bool t1, .slice t2 p t4, .bool t5, .slice t6 p' t8] := op.steps hs2
 have oq2 : Blk w2 (w.heap.size + 1) 30 #[.bool u1, .slice u2 r u4, .bool u5, .slice u6 r' u8] := oq.steps hs2
 have B2 : Below w.heap.size w w2 := below_steps B (Nat.le_refl _) hs2
 clear hs2 op oq B LO cp0 cp1 cp2 cp3
 dsimp only
 have cq0 := oq2.c 0 rfl
 have cq1 := oq2.c 1 rfl
 have cq2 := oq2.c 2 rfl
 have cq3 := oq2.c 3 rfl
 repeat' (first | go_values | go_skip | go_guarded | go_step | go_upon)
 refine (LM _ B2).mono ?_
 rintro e w3 ⟨rfl, hs3⟩
 have op3 : Blk w3 (w.heap.size) 30 #[.bool t1, .slice t2 p t4, .bool t5, .slice t6 p' t8] := op2.steps hs3
 have oq3 : Blk w3 (w.heap.size + 1) 30 #[.bool u1, .slice u2 r u4, .bool u5, .slice u6 r' u8] := oq2.steps hs3
 have B3 : Below w.heap.size w w3 := below_steps B2 (Nat.le_refl _) hs3
 clear hs3 op2 oq2 B2 LM cq0 cq1 cq2 cq3
 dsimp only
 have cp1 := op3.c 1 rfl
 have cp3 := op3.c 3 rfl
 have cq1 := oq3.c 1 rfl
 have cq3 := oq3.c 3 rfl
 have op := op3
 have oq := oq3
 have B := B3
 clear op3 oq3 B3
 ·
  repeat' (first | go_values | go_skip | go_guarded | go_step | go_upon)
  clear cp1 cp3 cq1 cq3
  refine (HaL.out HN6.out _ B).mono ?_
  rintro e w2 ⟨u, rfl, hu, hs2⟩
  have op2 : Blk w2 (w.heap.size) 30 #[.bool t1, .slice t2 p t4, .bool t5, .slice t6 p' t8] := op.steps hs2
  have oq2 : Blk w2 (w.heap.size + 1) 30 #[.bool u1, .slice u2 r u4, .bool u5, .slice u6 r' u8] := oq.steps hs2
  have B2 : Below w.heap.size w w2 := below_steps B (Nat.le_refl _) hs2
  clear hs2 op oq B
  obtain ⟨aa0, ca0, rfl⟩ := hu.shape
  have HU := Hid.mk_ hu
  clear hu
  dsimp only
  repeat' (first | go_values | go_skip | go_guarded | go_step | go_upon)
  refine (HaM.out HM6.out _ B2).mono ?_
  rintro e w3 ⟨v, rfl, hv, hs3⟩
  have op3 : Blk w3 (w.heap.size) 30 #[.bool t1, .slice t2 p t4, .bool t5, .slice t6 p' t8] := op2.steps hs3
  have oq3 : Blk w3 (w.heap.size + 1) 30 #[.bool u1, .slice u2 r u4, .bool u5, .slice u6 r' u8] := oq2.steps hs3
  have B3 : Below w.heap.size w w3 := below_steps B2 (Nat.le_refl _) hs3
  have HU3 := Hid.mk_ (HU.out.steps hs3)
  clear hs3 op2 oq2 B2 HU
  obtain ⟨ab0, cb0, rfl⟩ := hv.shape
  have HV := Hid.mk_ hv
  clear hv
  have z1 := HE.out.1 HN6.out
  have z2 := HE.out.2 HM6.out
  rcases z1 with rfl | ⟨rfl, a15, sA⟩
  ·
   rcases z2 with rfl | ⟨rfl, b15, sB⟩
   ·
    dsimp only
    repeat' (first | go_values | go_skip | go_guarded | go_step | go_upon)
    go_returns
    exact ⟨rfl, belowB⟩
   ·
    dsimp only
    repeat' (first | go_values | go_skip | go_guarded | go_step | go_upon)
    go_returns
    exact ⟨rfl, belowB⟩
  ·
   rcases z2 with rfl | ⟨rfl, b15, sB⟩
   ·
    dsimp only
    repeat' (first | go_values | go_skip | go_guarded | go_step | go_upon)
    go_returns
    exact ⟨rfl, belowB⟩
   ·
    obtain ⟨q, rfl, q0⟩ := HLS.out o HbO.out
    obtain ⟨q', rfl, q0'⟩ := HLS.out o' HbM.out
    obtain ⟨AD, zq, zw, fo⟩ := HAD.out q q' rfl rfl h4 h5 h6 h7
    have fo3 := Hid.mk_ (FR.keeps fo (Keeps.steps B3))
    have qle : q ≤ q + q' := by
     have e := Rat.add_le_add_left (c := q) |>.2 q0'
     rwa [Rat.add_zero] at e
    have cp0 := op3.c 0 rfl
    have cp1 := op3.c 1 rfl
    have cp2 := op3.c 2 rfl
    have cp3 := op3.c 3 rfl
    have cq0 := oq3.c 0 rfl
    have cq1 := oq3.c 1 rfl
    have cq2 := oq3.c 2 rfl
    have cq3 := oq3.c 3 rfl
    have HSZ := Hid.mk_ (And.intro a15 (And.intro b15 (And.intro sA sB)))
    have HQ := Hid.mk_ (And.intro q0 (And.intro qle (And.intro zq zw)))
    clear HaL HaM HE HLS HbO HbM HAD q0 q0' qle zq zw fo a15 b15 sA sB
    dsimp only
    repeat' (first | go_values | go_skip | go_guarded | go_step | go_upon)
    refine (AD _ B3).mono ?_
    rintro e w4 ⟨vw, rfl, hw, hs4⟩
    have op4 : Blk w4 (w.heap.size) 30 #[.bool t1, .slice t2 p t4, .bool t5, .slice t6 p' t8] := op3.steps hs4
    have B4 : Below w.heap.size w w4 := below_steps B3 (Nat.le_refl _) hs4
    have hu4 := HU3.out.steps hs4
    have hv4 := HV.out.steps hs4
    have fo4 := FR.keeps fo3.out (Keeps.steps hs4)
    clear hs4 op3 oq3 B3 HU3 HV fo3 AD cp0 cp1 cp2 cp3 cq0 cq1 cq2 cq3
    obtain ⟨x1, x2, x3, x4, x5, x6, x7, x8, rfl⟩ := hw.shape
    obtain ⟨aa, ca, ab, cb, CA, CB, LN, LW, ea, eb, NW⟩ := near_build hu4 hv4 HSZ.out.1 HSZ.out.2.1 HSZ.out.2.2.1 HSZ.out.2.2.2 fo4 hw HQ.out.1 HQ.out.2.1 HQ.out.2.2.1 HQ.out.2.2.2
    generalize LA.length = na at *
    generalize LM_.length = nb at *
    simp only [Value.slice.injEq, true_and] at ea eb
    obtain ⟨rfl, rfl⟩ := ea
    obtain ⟨rfl, rfl⟩ := eb
    have NWH := Hid.mk_ NW
    clear hu4 hv4 fo4 hw NW HSZ HQ
    dsimp only
    repeat' (first | go_values | go_skip | go_guarded | go_step | go_upon)
    go_loopw [16] (fun kk wr => ∃ i : Nat, i ≤ na ∧ kk = .int .i64 i ∧ Blk wr (w4.heap.size) 30 #[.bool x1, .slice x2 x3 x4, .bool x5, .slice x6 x7 x8] ∧ Below w4.heap.size w4 wr) (fun kk _ => na - (intOf kk).toNat)
    case atStart => exact ⟨0, by omega, rfl, ownK, belowB⟩
    case round =>
     obtain ⟨i, hi, rfl, ow, B⟩ := hrel
     rcases Nat.lt_or_ge i na with i4 | i4
     ·
      have hlt : decide ((i : Int) < (na : Int)) = true := decide_eq_true (by omega)
      have hlt20 : decide ((i : Int) < 20) = true := decide_eq_true (by have := NWH.out.n15; omega)
      obtain ⟨ba, oa, rfl, hba, za, hca⟩ := NWH.out.atA i i4
      have na15 : na ≤ 15 := NWH.out.n15
      obtain ⟨ln15, lw15⟩ := NWH.out.l15 i i4
      have nself := NWH.out.self i i4
      have nnear := NWH.out.near i i4
      have nwide := NWH.out.wide i i4
      obtain ⟨ns, G⟩ := NWH.out.greedy i i4
      have ngot := NWH.out.got i i4
      have natB := NWH.out.atB
      generalize CA i = C at *
      generalize LN i = ln at *
      generalize LW i = lw at *
      have hC : ∀ W, Steps w4 W → ∀ j, j < C.size → W.cell? ⟨ba, oa + i * 20 + j, none⟩ = C[j]? := fun W s j hj => (s.cell (p := ⟨ba, _, none⟩) hba).trans (hca j (by omega))
      have ia : (Tryz.prog.info? 33).map (·.size) = some C.size := by rw [za]; kernel_rfl
      have OF : ∀ W, Calls Tryz.prog 6 #[.int .i64 0, .int .i64 1] W fun e w2 => ∃ v, e = .returned v ∧ FR w2 v (0 : Rat) ∧ Steps W w2 := fun W => by
       have := lof 0 1 W (by decide) (by decide) (by decide) (by decide) (by decide)
       rw [show ((0 : Int) : Rat) / ((1 : Int) : Rat) = 0 from by decide +kernel] at this
       exact this
      have GH := Hid.mk_ G
      have gotH := Hid.mk_ ngot
      have atBH := Hid.mk_ natB
      have WH : w4.heap.size < wr.heap.size := ow.lt
      clear NWH hca za G ngot natB
      repeat' (first | go_values | go_skip | go_guarded | go_step | go_upon)
      refine Reg.wp_chain (fun D v W => Below wr.heap.size wr W ∧ True) (Reg.inl [8, 9]) (Reg.gv [(8, IsFr), (9, fun z_ => z_ = .tuple #[.bool true, .int .i64 0])]) (gw [(8, GFr (0 : Rat))]) (fun _ => Keeps) (fun _ _ => False) (Reg.pl [(9, [(8, some 143)]), (15, [(8, some 143)])]) (Reg.pl [])
       (by kernel_rfl) (by kernel_rfl) (by kernel_rfl) (Reg.gv_some _ (by intro p hp; simp only [List.mem_cons, List.not_mem_nil, or_false] at hp; rcases hp with rfl | rfl <;> first | exact ⟨_, rfl⟩ | exact ⟨_, none, 0, 0, rfl⟩ | exact ⟨_, false, none, 0, 0, rfl⟩ | exact ⟨_, false, none, 0, 0, false, none, 0, 0, rfl⟩)) (fun _ => ⟨belowB, trivial⟩) (fun _ _ _ _ _ h => h) (fun _ _ _ _ _ _ _ _ _ _ _ hk hg => gw_keeps _ (by intro p hp; simp only [List.mem_cons, List.not_mem_nil, or_false] at hp; rcases hp with rfl <;> first | exact GFr.keeps | exact GFrE.keeps | exact GNu.keeps | exact GNuE.keeps) hk hg) (fun _ _ _ _ h => h.elim) (fun ops' Q' hops hQ => ?_)
      apply Reg.RP rfl rfl rfl 135 rfl rfl
      ·
       intro D v W hc hj hf K' hK'
       go_step
       exact hK'.out
      · rfl
      apply Reg.RP rfl rfl rfl 136 rfl rfl
      ·
       intro D v W hc hj hf K' hK'
       go_step
       exact hK'.out
      · rfl
      apply Reg.RP rfl rfl rfl 137 rfl rfl
      ·
       intro D v W hc hj hf K' hK'
       go_step
       exact hK'.out
      · rfl
      apply Reg.RP rfl rfl rfl 138 rfl rfl
      ·
       intro D v W hc hj hf K' hK'
       obtain ⟨j0, _⟩ := hj
       exact wp_load_at 33 (.tmp 137) rfl ba (oa + i * 20) rfl C _ (hC W (below_steps B (Nat.le_refl _) j0)) Tryz.underlying33 rfl ia hK'.out
      · rfl
      apply Reg.RP rfl rfl rfl 139 rfl rfl
      ·
       intro D v W hc hj hf K' hK'
       go_step
       exact hK'.out
      · rfl
      apply Reg.RP rfl rfl rfl 140 rfl rfl
      ·
       intro D v W hc hj hf K' hK'
       go_step
       exact hK'.out
      · rfl
      apply Reg.RP rfl rfl rfl 141 rfl rfl
      ·
       intro D v W hc hj hf K' hK'
       go_step
       exact hK'.out
      · rfl
      apply Reg.RP rfl rfl rfl 142 rfl rfl
      ·
       intro D v W hc hj hf K' hK'
       obtain ⟨j0, _⟩ := hj
       exact wp_load_at 33 (.tmp 141) rfl ba (oa + i * 20) rfl C _ (hC W (below_steps B (Nat.le_refl _) j0)) Tryz.underlying33 rfl ia hK'.out
      · rfl
      refine Reg.RC_call rfl (tlt rfl) rfl (fun D v W hc hj hf K' hK' => ?_) ?_
      ·
       obtain ⟨j0, _⟩ := hj
       go_step
       refine (OF _).mono ?_
       rintro e W2 ⟨v, rfl, hv, hs⟩
       exact hK'.out _ W2 (Keeps.steps hs) ⟨jst j0 hs, trivial⟩ hv hv.shape
      rintro _ ⟨z1, z2, z3, z4, z5, z6, z7, z8, rfl⟩
      refine Reg.at275 rfl ?_
      refine Reg.RC_call rfl (tlt rfl) rfl (fun D v W hc hj hf K' hK' => ?_) ?_
      ·
       obtain ⟨j0, _⟩ := hj
       have g8 := (hf (8, some 143) (.head _) rfl).2.2
       have g8 : FR W (.agg #[.bool z1, .slice z2 z3 z4, .bool z5, .slice z6 z7 z8]) (0 : Rat) := g8
       go_step
       refine (nself _ _ (below_steps B (Nat.le_refl _) j0) g8).mono ?_
       rintro e W2 ⟨rfl, hs⟩
       exact hK'.out _ W2 (Keeps.steps hs) ⟨jst j0 hs, trivial⟩ trivial rfl
      rintro _ rfl
      refine Reg.at275 rfl ?_
      apply Reg.RP rfl rfl rfl 134 rfl rfl
      ·
       intro D v W hc hj hf K' hK'
       go_step
       exact hK'.out
      · rfl
      apply Reg.RP rfl rfl rfl 145 rfl rfl
      ·
       intro D v W hc hj hf K' hK'
       go_step
       exact hK'.out
      · rfl
      apply Reg.RP rfl rfl rfl 146 rfl rfl
      ·
       intro D v W hc hj hf K' hK'
       go_step
       exact hK'.out
      · rfl
      apply Reg.RP rfl rfl rfl 17 rfl rfl
      ·
       intro D v W hc hj hf K' hK'
       go_step
       exact hK'.out
      · rfl
      apply Reg.RP rfl rfl rfl 18 rfl rfl
      ·
       intro D v W hc hj hf K' hK'
       go_step
       exact hK'.out
      · rfl
      refine Reg.RC_end (fun D v w9 hd hj hf => ?_)
      obtain ⟨j0, _⟩ := hj
      have g8 : FR w9 (.agg #[.bool z1, .slice z2 z3 z4, .bool z5, .slice z6 z7 z8]) (0 : Rat) := (hf (8, some 143) (.head _) rfl).2.2
      have st9 := j0
      clear hd hf j0
      refine hQ _ _ ?_
      clear hQ hops Q' ops'
      have B9 := below_steps B (Nat.le_refl _) st9
      have ow9 := ow.steps st9
      clear g8 nself OF B ow st9 WH
      have B := B9
      clear B9
      repeat' (first | go_values | go_skip | go_guarded | go_step | go_upon)
      refine Reg.wp_chain (fun D v W => Below w9.heap.size w9 W ∧ True) (Reg.inl [6]) (Reg.gv [(6, IsInt ln.length)]) (gw [(6, GInt ln.length ln)]) (fun _ => Keeps) (fun _ _ => False) (Reg.pl [(12, [(6, some 154)])]) (Reg.pl [])
       (by kernel_rfl) (by kernel_rfl) (by kernel_rfl) (Reg.gv_some _ (by intro p hp; simp only [List.mem_cons, List.not_mem_nil, or_false] at hp; rcases hp with rfl <;> first | exact ⟨_, rfl⟩ | exact ⟨_, none, 0, 0, rfl⟩ | exact ⟨_, false, none, 0, 0, rfl⟩ | exact ⟨_, false, none, 0, 0, false, none, 0, 0, rfl⟩ | exact ⟨_, none, 0, rfl⟩)) (fun _ => ⟨belowB, trivial⟩) (fun _ _ _ _ _ h => h) (fun _ _ k j _ _ _ hne hj hk _ _ _ => absurd ((show j = 6 by simpa [Reg.inl] using hj).trans (show k = 6 by simpa [Reg.inl] using hk).symm) hne) (fun _ _ _ _ h => h.elim) (fun ops' Q' hops hQ => ?_)
      apply Reg.RP rfl rfl rfl 148 rfl rfl
      ·
       intro D v W hc hj hf K' hK'
       go_step
       exact hK'.out
      · rfl
      apply Reg.RP rfl rfl rfl 149 rfl rfl
      ·
       intro D v W hc hj hf K' hK'
       go_step
       exact hK'.out
      · rfl
      apply Reg.RP rfl rfl rfl 150 rfl rfl
      ·
       intro D v W hc hj hf K' hK'
       go_step
       exact hK'.out
      · rfl
      apply Reg.RP rfl rfl rfl 151 rfl rfl
      ·
       intro D v W hc hj hf K' hK'
       go_step
       exact hK'.out
      · rfl
      apply Reg.RP rfl rfl rfl 152 rfl rfl
      ·
       intro D v W hc hj hf K' hK'
       obtain ⟨j0, _⟩ := hj
       exact wp_load_at 33 (.tmp 151) rfl ba (oa + i * 20) rfl C _ (hC W (below_steps B (Nat.le_refl _) j0)) Tryz.underlying33 rfl ia hK'.out
      · rfl
      apply Reg.RP rfl rfl rfl 153 rfl rfl
      ·
       intro D v W hc hj hf K' hK'
       obtain ⟨j0, _⟩ := hj
       have od := op4.steps (below_steps B (Nat.le_refl _) j0)
       have cd0 := od.c 0 rfl
       have cd1 := od.c 1 rfl
       have cd2 := od.c 2 rfl
       have cd3 := od.c 3 rfl
       go_step
       exact hK'.out
      · rfl
      refine Reg.RC_call rfl (tlt rfl) rfl (fun D v W hc hj hf K' hK' => ?_) ?_
      ·
       obtain ⟨j0, _⟩ := hj
       go_step
       refine (nnear _ (below_steps B (Nat.le_refl _) j0)).mono ?_
       rintro e W2 ⟨a, c, rfl, hv, hs⟩
       exact hK'.out _ W2 (Keeps.steps hs) ⟨jst j0 hs, trivial⟩ ⟨a, c, rfl, hv⟩ ⟨a, c, rfl⟩
      rintro _ ⟨na, nc, rfl⟩
      refine Reg.at275 rfl ?_
      apply Reg.RP rfl rfl rfl 147 rfl rfl
      ·
       intro D v W hc hj hf K' hK'
       go_step
       exact hK'.out
      · rfl
      apply Reg.RP rfl rfl rfl 155 rfl rfl
      ·
       intro D v W hc hj hf K' hK'
       go_step
       exact hK'.out
      · rfl
      apply Reg.RP rfl rfl rfl 156 rfl rfl
      ·
       intro D v W hc hj hf K' hK'
       go_step
       exact hK'.out
      · rfl
      apply Reg.RP rfl rfl rfl 19 rfl rfl
      ·
       intro D v W hc hj hf K' hK'
       go_step
       exact hK'.out
      · rfl
      apply Reg.RP rfl rfl rfl 20 rfl rfl
      ·
       intro D v W hc hj hf K' hK'
       go_step
       exact hK'.out
      · rfl
      refine Reg.RC_end (fun D v w10 hd hj hf => ?_)
      obtain ⟨j0, _⟩ := hj
      have g6 : GInt ln.length ln (.tuple #[.slice na ln.length nc, .int .i64 0]) w10 := (hf (6, some 154) (.head _) rfl).2.2
      have st10 := j0
      clear hd hf j0
      refine hQ _ _ ?_
      clear hQ hops Q' ops'
      have hn := GInt.get g6
      have B10 := below_steps B (Nat.le_refl _) st10
      have ow10 := ow9.steps st10
      clear g6 nnear B ow9 st10
      have B := B10
      clear B10
      repeat' (first | go_values | go_skip | go_guarded | go_step | go_upon)
      refine Reg.wp_chain (fun D v W => Below w10.heap.size w10 W ∧ True) (Reg.inl [6]) (Reg.gv [(6, IsInt lw.length)]) (gw [(6, GInt lw.length lw)]) (fun _ => Keeps) (fun _ _ => False) (Reg.pl [(12, [(6, some 164)])]) (Reg.pl [])
       (by kernel_rfl) (by kernel_rfl) (by kernel_rfl) (Reg.gv_some _ (by intro p hp; simp only [List.mem_cons, List.not_mem_nil, or_false] at hp; rcases hp with rfl <;> first | exact ⟨_, rfl⟩ | exact ⟨_, none, 0, 0, rfl⟩ | exact ⟨_, false, none, 0, 0, rfl⟩ | exact ⟨_, false, none, 0, 0, false, none, 0, 0, rfl⟩ | exact ⟨_, none, 0, rfl⟩)) (fun _ => ⟨belowB, trivial⟩) (fun _ _ _ _ _ h => h) (fun _ _ k j _ _ _ hne hj hk _ _ _ => absurd ((show j = 6 by simpa [Reg.inl] using hj).trans (show k = 6 by simpa [Reg.inl] using hk).symm) hne) (fun _ _ _ _ h => h.elim) (fun ops' Q' hops hQ => ?_)
      apply Reg.RP rfl rfl rfl 158 rfl rfl
      ·
       intro D v W hc hj hf K' hK'
       go_step
       exact hK'.out
      · rfl
      apply Reg.RP rfl rfl rfl 159 rfl rfl
      ·
       intro D v W hc hj hf K' hK'
       go_step
       exact hK'.out
      · rfl
      apply Reg.RP rfl rfl rfl 160 rfl rfl
      ·
       intro D v W hc hj hf K' hK'
       go_step
       exact hK'.out
      · rfl
      apply Reg.RP rfl rfl rfl 161 rfl rfl
      ·
       intro D v W hc hj hf K' hK'
       go_step
       exact hK'.out
      · rfl
      apply Reg.RP rfl rfl rfl 162 rfl rfl
      ·
       intro D v W hc hj hf K' hK'
       obtain ⟨j0, _⟩ := hj
       exact wp_load_at 33 (.tmp 161) rfl ba (oa + i * 20) rfl C _ (hC W (below_steps B (Nat.le_refl _) j0)) Tryz.underlying33 rfl ia hK'.out
      · rfl
      apply Reg.RP rfl rfl rfl 163 rfl rfl
      ·
       intro D v W hc hj hf K' hK'
       obtain ⟨j0, _⟩ := hj
       have od := ow10.steps j0
       have cd0 := od.c 0 rfl
       have cd1 := od.c 1 rfl
       have cd2 := od.c 2 rfl
       have cd3 := od.c 3 rfl
       go_step
       exact hK'.out
      · rfl
      refine Reg.RC_call rfl (tlt rfl) rfl (fun D v W hc hj hf K' hK' => ?_) ?_
      ·
       obtain ⟨j0, _⟩ := hj
       go_step
       refine (nwide _ (below_steps B (Nat.le_refl _) j0)).mono ?_
       rintro e W2 ⟨a, c, rfl, hv, hs⟩
       exact hK'.out _ W2 (Keeps.steps hs) ⟨jst j0 hs, trivial⟩ ⟨a, c, rfl, hv⟩ ⟨a, c, rfl⟩
      rintro _ ⟨ma, mc, rfl⟩
      refine Reg.at275 rfl ?_
      apply Reg.RP rfl rfl rfl 157 rfl rfl
      ·
       intro D v W hc hj hf K' hK'
       go_step
       exact hK'.out
      · rfl
      apply Reg.RP rfl rfl rfl 165 rfl rfl
      ·
       intro D v W hc hj hf K' hK'
       go_step
       exact hK'.out
      · rfl
      apply Reg.RP rfl rfl rfl 166 rfl rfl
      ·
       intro D v W hc hj hf K' hK'
       go_step
       exact hK'.out
      · rfl
      apply Reg.RP rfl rfl rfl 21 rfl rfl
      ·
       intro D v W hc hj hf K' hK'
       go_step
       exact hK'.out
      · rfl
      apply Reg.RP rfl rfl rfl 22 rfl rfl
      ·
       intro D v W hc hj hf K' hK'
       go_step
       exact hK'.out
      · rfl
      refine Reg.RC_end (fun D v w11 hd hj hf => ?_)
      obtain ⟨j0, _⟩ := hj
      have g6 : GInt lw.length lw (.tuple #[.slice ma lw.length mc, .int .i64 0]) w11 := (hf (6, some 164) (.head _) rfl).2.2
      have st11 := j0
      clear hd hf j0
      refine hQ _ _ ?_
      clear hQ hops Q' ops'
      have hm := GInt.get g6
      have B11 := below_steps B (Nat.le_refl _) st11
      have ow11 := ow10.steps st11
      have hn11 := hn.steps st11
      clear g6 nwide B ow10 st11 hn
      have B := B11
      have HNN := Hid.mk_ hn11
      have HWW := Hid.mk_ hm
      clear B11 hn11 hm
      obtain ⟨nn, hnn⟩ : ∃ n, ln.length = n := ⟨_, rfl⟩
      obtain ⟨nw, hnw⟩ : ∃ n, lw.length = n := ⟨_, rfl⟩
      have HnN := Hid.mk_ hnn
      have HnW := Hid.mk_ hnw
      rw [hnn] at ln15
      rw [hnw] at lw15
      rw [hnn, hnw]
      clear hnn hnw
      repeat' (first | go_values | go_skip | go_guarded | go_step | go_upon)
      go_loopw [23, 24] (fun kn ks wq => ∃ s : Nat, s ≤ nw ∧ ks = .int .i64 s ∧ kn = .int .i64 (ns s : Nat) ∧ Below w11.heap.size w11 wq) (fun _ ks _ => nw - (intOf ks).toNat)
      case atStart => exact ⟨0, by omega, rfl, (by rw [GH.out.zero]; rfl), belowB⟩
      case round =>
       rename World => wq
       obtain ⟨s, hs, rfl, rfl, Bq⟩ := hrel
       rcases Nat.lt_or_ge s nw with s4 | s4
       ·
        have hltw : decide ((s : Int) < (nw : Int)) = true := decide_eq_true (by omega)
        have gst := GH.out.step s (by have := HnW.out; omega)
        obtain ⟨bw, ow_, rfl, hbw, hw0⟩ := HWW.out.at (t := s) (by have := HnW.out; omega)
        rw [HnN.out] at gst
        obtain ⟨y, hy⟩ : ∃ y, lw.getD s 0 = y := ⟨_, rfl⟩
        rw [hy] at hw0 gst
        have gle := GH.out.le s
        rw [HnN.out] at gle
        obtain ⟨k, hk⟩ : ∃ k, ns s = k := ⟨_, rfl⟩
        rw [hk] at gst gle
        rw [hk]
        clear hy
        by_cases kn : k < nn
        ·
         have hltn : decide ((k : Int) < (nn : Int)) = true := decide_eq_true (by omega)
         obtain ⟨bn, on_, rfl, hbn, hn0⟩ := HNN.out.at (t := k) (by have := HnN.out; omega)
         obtain ⟨x, hx⟩ : ∃ x, ln.getD k 0 = x := ⟨_, rfl⟩
         rw [hx] at hn0 gst
         clear hx
         by_cases exy : y = x
         ·
          subst exy
          have exx : (y == y) = true := by simp
          have en : ns (s + 1) = k + 1 := by
           rcases gst with g | g
           · exact g.2.2
           · exact absurd rfl (g.2 kn)
          repeat' (first | go_values | go_skip | go_guarded | go_step | go_upon)
          refine Reg.wp_chain (fun D v W => Below wq.heap.size wq W ∧ True) (Reg.inl []) (Reg.gv []) Reg.None_ (fun _ => Reg.Any) (fun _ _ => False) (Reg.pl []) (Reg.pl [])
           (by kernel_rfl) (by kernel_rfl) (by kernel_rfl) (Reg.gv_some _ (by intro p hp; cases hp)) (fun _ => ⟨belowB, trivial⟩) (fun _ _ _ _ _ h => h) (fun _ _ _ _ _ _ _ _ _ _ _ _ _ => Reg.none_) (fun _ _ _ _ h => h.elim) (fun ops' Q' hops hQ => ?_)
          apply Reg.RP rfl rfl rfl 187 rfl rfl
          ·
           intro D v W hc hj hf K' hK'
           go_step
           exact hK'.out
          · rfl
          apply Reg.RP rfl rfl rfl 188 rfl rfl
          ·
           intro D v W hc hj hf K' hK'
           go_step
           exact hK'.out
          · rfl
          apply Reg.RP rfl rfl rfl 189 rfl rfl
          ·
           intro D v W hc hj hf K' hK'
           go_step
           exact hK'.out
          · rfl
          apply Reg.RP rfl rfl rfl 190 rfl rfl
          ·
           intro D v W hc hj hf K' hK'
           go_step
           exact hK'.out
          · rfl
          apply Reg.RP rfl rfl rfl 191 rfl rfl
          ·
           intro D v W hc hj hf K' hK'
           go_step
           exact hK'.out
          · rfl
          apply Reg.RP rfl rfl (by rw [hops]; rfl) 192 rfl rfl
          ·
           intro D v W hc hj hf K' hK'
           go_step
           exact hK'.out
          · rfl
          apply Reg.RP rfl rfl (by rw [hops]; rfl) 193 rfl rfl
          ·
           intro D v W hc hj hf K' hK'
           go_step
           exact hK'.out
          · rfl
          apply Reg.RP rfl rfl (by rw [hops]; rfl) 194 rfl rfl
          ·
           intro D v W hc hj hf K' hK'
           go_step
           exact hK'.out
          · rfl
          apply Reg.RP rfl rfl (by rw [hops]; rfl) 195 rfl rfl
          ·
           intro D v W hc hj hf K' hK'
           obtain ⟨j0, _⟩ := hj
           have c0 : W.cell? ⟨bw, ow_ + s, none⟩ = some (.int .i64 y) := ((below_steps Bq (Nat.le_refl _) j0).cell (p := ⟨bw, _, none⟩) hbw).trans hw0
           go_step
           exact hK'.out
          · rfl
          apply Reg.RP rfl rfl (by rw [hops]; rfl) 196 rfl rfl
          ·
           intro D v W hc hj hf K' hK'
           go_step
           exact hK'.out
          · rfl
          apply Reg.RP rfl rfl (by rw [hops]; rfl) 197 rfl rfl
          ·
           intro D v W hc hj hf K' hK'
           go_step
           exact hK'.out
          · rfl
          apply Reg.RP rfl rfl (by rw [hops]; rfl) 198 rfl rfl
          ·
           intro D v W hc hj hf K' hK'
           go_step
           exact hK'.out
          · rfl
          apply Reg.RP rfl rfl (by rw [hops]; rfl) 199 rfl rfl
          ·
           intro D v W hc hj hf K' hK'
           obtain ⟨j0, _⟩ := hj
           have c0 : W.cell? ⟨bn, on_ + k, none⟩ = some (.int .i64 y) := ((below_steps Bq (Nat.le_refl _) j0).cell (p := ⟨bn, _, none⟩) hbn).trans hn0
           go_step
           exact hK'.out
          · rfl
          apply Reg.RP rfl rfl (by rw [hops]; rfl) 200 rfl rfl
          ·
           intro D v W hc hj hf K' hK'
           go_step
           exact hK'.out
          · rfl
          apply Reg.RP rfl rfl rfl 201 rfl rfl
          ·
           intro D v W hc hj hf K' hK'
           go_step
           exact hK'.out
          · rfl
          refine Reg.RC_end (fun D v w12 hd hj hf => ?_)
          obtain ⟨j0, _⟩ := hj
          have st12 := j0
          clear hd hf j0
          refine hQ _ _ ?_
          clear hQ hops Q' ops'
          have B12 := below_steps Bq (Nat.le_refl _) st12
          repeat' (first | go_values | go_skip | go_guarded | go_step | go_upon)
          go_roundw
          case rel => exact ⟨s + 1, by omega, by go_num, (by first | (rw [en]; done) | (rw [en]; first | rfl | go_num)), B12⟩
          case measure => simp [intOf]; omega
         ·
          have exx : (y == x) = false := by simpa using exy
          have en : ns (s + 1) = k := by
           rcases gst with g | g
           · exact absurd g.2.1.symm exy
           · exact g.1
          repeat' (first | go_values | go_skip | go_guarded | go_step | go_upon)
          refine Reg.wp_chain (fun D v W => Below wq.heap.size wq W ∧ True) (Reg.inl []) (Reg.gv []) Reg.None_ (fun _ => Reg.Any) (fun _ _ => False) (Reg.pl []) (Reg.pl [])
           (by kernel_rfl) (by kernel_rfl) (by kernel_rfl) (Reg.gv_some _ (by intro p hp; cases hp)) (fun _ => ⟨belowB, trivial⟩) (fun _ _ _ _ _ h => h) (fun _ _ _ _ _ _ _ _ _ _ _ _ _ => Reg.none_) (fun _ _ _ _ h => h.elim) (fun ops' Q' hops hQ => ?_)
          apply Reg.RP rfl rfl rfl 187 rfl rfl
          ·
           intro D v W hc hj hf K' hK'
           go_step
           exact hK'.out
          · rfl
          apply Reg.RP rfl rfl rfl 188 rfl rfl
          ·
           intro D v W hc hj hf K' hK'
           go_step
           exact hK'.out
          · rfl
          apply Reg.RP rfl rfl rfl 189 rfl rfl
          ·
           intro D v W hc hj hf K' hK'
           go_step
           exact hK'.out
          · rfl
          apply Reg.RP rfl rfl rfl 190 rfl rfl
          ·
           intro D v W hc hj hf K' hK'
           go_step
           exact hK'.out
          · rfl
          apply Reg.RP rfl rfl rfl 191 rfl rfl
          ·
           intro D v W hc hj hf K' hK'
           go_step
           exact hK'.out
          · rfl
          apply Reg.RP rfl rfl (by rw [hops]; rfl) 192 rfl rfl
          ·
           intro D v W hc hj hf K' hK'
           go_step
           exact hK'.out
          · rfl
          apply Reg.RP rfl rfl (by rw [hops]; rfl) 193 rfl rfl
          ·
           intro D v W hc hj hf K' hK'
           go_step
           exact hK'.out
          · rfl
          apply Reg.RP rfl rfl (by rw [hops]; rfl) 194 rfl rfl
          ·
           intro D v W hc hj hf K' hK'
           go_step
           exact hK'.out
          · rfl
          apply Reg.RP rfl rfl (by rw [hops]; rfl) 195 rfl rfl
          ·
           intro D v W hc hj hf K' hK'
           obtain ⟨j0, _⟩ := hj
           have c0 : W.cell? ⟨bw, ow_ + s, none⟩ = some (.int .i64 y) := ((below_steps Bq (Nat.le_refl _) j0).cell (p := ⟨bw, _, none⟩) hbw).trans hw0
           go_step
           exact hK'.out
          · rfl
          apply Reg.RP rfl rfl (by rw [hops]; rfl) 196 rfl rfl
          ·
           intro D v W hc hj hf K' hK'
           go_step
           exact hK'.out
          · rfl
          apply Reg.RP rfl rfl (by rw [hops]; rfl) 197 rfl rfl
          ·
           intro D v W hc hj hf K' hK'
           go_step
           exact hK'.out
          · rfl
          apply Reg.RP rfl rfl (by rw [hops]; rfl) 198 rfl rfl
          ·
           intro D v W hc hj hf K' hK'
           go_step
           exact hK'.out
          · rfl
          apply Reg.RP rfl rfl (by rw [hops]; rfl) 199 rfl rfl
          ·
           intro D v W hc hj hf K' hK'
           obtain ⟨j0, _⟩ := hj
           have c0 : W.cell? ⟨bn, on_ + k, none⟩ = some (.int .i64 x) := ((below_steps Bq (Nat.le_refl _) j0).cell (p := ⟨bn, _, none⟩) hbn).trans hn0
           go_step
           exact hK'.out
          · rfl
          apply Reg.RP rfl rfl (by rw [hops]; rfl) 200 rfl rfl
          ·
           intro D v W hc hj hf K' hK'
           go_step
           exact hK'.out
          · rfl
          apply Reg.RP rfl rfl rfl 201 rfl rfl
          ·
           intro D v W hc hj hf K' hK'
           go_step
           exact hK'.out
          · rfl
          refine Reg.RC_end (fun D v w12 hd hj hf => ?_)
          obtain ⟨j0, _⟩ := hj
          have st12 := j0
          clear hd hf j0
          refine hQ _ _ ?_
          clear hQ hops Q' ops'
          have B12 := below_steps Bq (Nat.le_refl _) st12
          repeat' (first | go_values | go_skip | go_guarded | go_step | go_upon)
          go_roundw
          case rel => exact ⟨s + 1, by omega, by go_num, (by first | (rw [en]; done) | (rw [en]; first | rfl | go_num)), B12⟩
          case measure => simp [intOf]; omega
        ·
         have hltn : decide ((k : Int) < (nn : Int)) = false := decide_eq_false (by omega)
         have en : ns (s + 1) = k := by
          rcases gst with g | g
          · exact absurd g.1 kn
          · exact g.1
         repeat' (first | go_values | go_skip | go_guarded | go_step | go_upon)
         refine Reg.wp_chain (fun D v W => Below wq.heap.size wq W ∧ True) (Reg.inl []) (Reg.gv []) Reg.None_ (fun _ => Reg.Any) (fun _ _ => False) (Reg.pl []) (Reg.pl [])
          (by kernel_rfl) (by kernel_rfl) (by kernel_rfl) (Reg.gv_some _ (by intro p hp; cases hp)) (fun _ => ⟨belowB, trivial⟩) (fun _ _ _ _ _ h => h) (fun _ _ _ _ _ _ _ _ _ _ _ _ _ => Reg.none_) (fun _ _ _ _ h => h.elim) (fun ops' Q' hops hQ => ?_)
         apply Reg.RP rfl rfl rfl 187 rfl rfl
         ·
          intro D v W hc hj hf K' hK'
          go_step
          exact hK'.out
         · rfl
         apply Reg.RP rfl rfl rfl 188 rfl rfl
         ·
          intro D v W hc hj hf K' hK'
          go_step
          exact hK'.out
         · rfl
         apply Reg.RP rfl rfl rfl 189 rfl rfl
         ·
          intro D v W hc hj hf K' hK'
          go_step
          exact hK'.out
         · rfl
         apply Reg.RP rfl rfl rfl 190 rfl rfl
         ·
          intro D v W hc hj hf K' hK'
          go_step
          exact hK'.out
         · rfl
         apply Reg.RP rfl rfl rfl 191 rfl rfl
         ·
          intro D v W hc hj hf K' hK'
          go_step
          exact hK'.out
         · rfl
         refine Reg.RC_skip rfl (by rw [hops]; rfl) (Reg.RC_at (b := ⟨#[_,_,_,_,_,_,_,_,_,_,_,_,_,_,_,_,_,_,_,_,_,_,_,_,_,_,_,_,_,_,_,_,_,_,_,_,_,_,_,_,_,_,_,_,_,_,_,_,_,_,_,_,_,_,_,_,_,_,_,_,_,_,_,_,_,_,_,_,_,_,_,_,_,_,_,_,_,_,_,_,_,_,_,_,_,_,_,_,_,_,_,_,_,_,_,_,_,_,_,_,_,_,_,_,_,_,_,_,_,_,_,_,_,_,_,_,_,_,_,_,_,_,_,_,_,_,_,_,_,_,_,_,_,_,_,_,_,_,_,_,_,_,_,_,_,_,_,_,_,_,_,_,_,_,_,_,_,_,_,_,_,_,_,_,_,_,_,_,_,_,_,_,_,_,_,_,_,_,_,_,_,_,_,_,_,_,_,_,_,_,_,_,_,_,_,_,_,_,_,_,_,_,_,_,_,_,_,_,_,_,_,_,_,_,_,_,_,_,_,_,_,_,_,_,_,_,_,_,_,_,_,_,_,_,_,_,_,_,_,_,_,_,_,_,_,_,_,_,_,_,_,_,_,_,_,_,_,_,_,_,_,_,_,_,_,_,_,_,_,_,_,_,_,_,_], _⟩) rfl ?_)
         refine Reg.RC_skip rfl (by rw [hops]; rfl) (Reg.RC_at (b := ⟨#[_,_,_,_,_,_,_,_,_,_,_,_,_,_,_,_,_,_,_,_,_,_,_,_,_,_,_,_,_,_,_,_,_,_,_,_,_,_,_,_,_,_,_,_,_,_,_,_,_,_,_,_,_,_,_,_,_,_,_,_,_,_,_,_,_,_,_,_,_,_,_,_,_,_,_,_,_,_,_,_,_,_,_,_,_,_,_,_,_,_,_,_,_,_,_,_,_,_,_,_,_,_,_,_,_,_,_,_,_,_,_,_,_,_,_,_,_,_,_,_,_,_,_,_,_,_,_,_,_,_,_,_,_,_,_,_,_,_,_,_,_,_,_,_,_,_,_,_,_,_,_,_,_,_,_,_,_,_,_,_,_,_,_,_,_,_,_,_,_,_,_,_,_,_,_,_,_,_,_,_,_,_,_,_,_,_,_,_,_,_,_,_,_,_,_,_,_,_,_,_,_,_,_,_,_,_,_,_,_,_,_,_,_,_,_,_,_,_,_,_,_,_,_,_,_,_,_,_,_,_,_,_,_,_,_,_,_,_,_,_,_,_,_,_,_,_,_,_,_,_,_,_,_,_,_,_,_,_,_,_,_,_,_,_,_,_,_,_,_,_,_,_,_,_,_], _⟩) rfl ?_)
         refine Reg.RC_skip rfl (by rw [hops]; rfl) (Reg.RC_at (b := ⟨#[_,_,_,_,_,_,_,_,_,_,_,_,_,_,_,_,_,_,_,_,_,_,_,_,_,_,_,_,_,_,_,_,_,_,_,_,_,_,_,_,_,_,_,_,_,_,_,_,_,_,_,_,_,_,_,_,_,_,_,_,_,_,_,_,_,_,_,_,_,_,_,_,_,_,_,_,_,_,_,_,_,_,_,_,_,_,_,_,_,_,_,_,_,_,_,_,_,_,_,_,_,_,_,_,_,_,_,_,_,_,_,_,_,_,_,_,_,_,_,_,_,_,_,_,_,_,_,_,_,_,_,_,_,_,_,_,_,_,_,_,_,_,_,_,_,_,_,_,_,_,_,_,_,_,_,_,_,_,_,_,_,_,_,_,_,_,_,_,_,_,_,_,_,_,_,_,_,_,_,_,_,_,_,_,_,_,_,_,_,_,_,_,_,_,_,_,_,_,_,_,_,_,_,_,_,_,_,_,_,_,_,_,_,_,_,_,_,_,_,_,_,_,_,_,_,_,_,_,_,_,_,_,_,_,_,_,_,_,_,_,_,_,_,_,_,_,_,_,_,_,_,_,_,_,_,_,_,_,_,_,_,_,_,_,_,_,_,_,_,_,_,_,_,_,_], _⟩) rfl ?_)
         refine Reg.RC_skip rfl (by rw [hops]; rfl) (Reg.RC_at (b := ⟨#[_,_,_,_,_,_,_,_,_,_,_,_,_,_,_,_,_,_,_,_,_,_,_,_,_,_,_,_,_,_,_,_,_,_,_,_,_,_,_,_,_,_,_,_,_,_,_,_,_,_,_,_,_,_,_,_,_,_,_,_,_,_,_,_,_,_,_,_,_,_,_,_,_,_,_,_,_,_,_,_,_,_,_,_,_,_,_,_,_,_,_,_,_,_,_,_,_,_,_,_,_,_,_,_,_,_,_,_,_,_,_,_,_,_,_,_,_,_,_,_,_,_,_,_,_,_,_,_,_,_,_,_,_,_,_,_,_,_,_,_,_,_,_,_,_,_,_,_,_,_,_,_,_,_,_,_,_,_,_,_,_,_,_,_,_,_,_,_,_,_,_,_,_,_,_,_,_,_,_,_,_,_,_,_,_,_,_,_,_,_,_,_,_,_,_,_,_,_,_,_,_,_,_,_,_,_,_,_,_,_,_,_,_,_,_,_,_,_,_,_,_,_,_,_,_,_,_,_,_,_,_,_,_,_,_,_,_,_,_,_,_,_,_,_,_,_,_,_,_,_,_,_,_,_,_,_,_,_,_,_,_,_,_,_,_,_,_,_,_,_,_,_,_,_,_], _⟩) rfl ?_)
         refine Reg.RC_skip rfl (by rw [hops]; rfl) (Reg.RC_at (b := ⟨#[_,_,_,_,_,_,_,_,_,_,_,_,_,_,_,_,_,_,_,_,_,_,_,_,_,_,_,_,_,_,_,_,_,_,_,_,_,_,_,_,_,_,_,_,_,_,_,_,_,_,_,_,_,_,_,_,_,_,_,_,_,_,_,_,_,_,_,_,_,_,_,_,_,_,_,_,_,_,_,_,_,_,_,_,_,_,_,_,_,_,_,_,_,_,_,_,_,_,_,_,_,_,_,_,_,_,_,_,_,_,_,_,_,_,_,_,_,_,_,_,_,_,_,_,_,_,_,_,_,_,_,_,_,_,_,_,_,_,_,_,_,_,_,_,_,_,_,_,_,_,_,_,_,_,_,_,_,_,_,_,_,_,_,_,_,_,_,_,_,_,_,_,_,_,_,_,_,_,_,_,_,_,_,_,_,_,_,_,_,_,_,_,_,_,_,_,_,_,_,_,_,_,_,_,_,_,_,_,_,_,_,_,_,_,_,_,_,_,_,_,_,_,_,_,_,_,_,_,_,_,_,_,_,_,_,_,_,_,_,_,_,_,_,_,_,_,_,_,_,_,_,_,_,_,_,_,_,_,_,_,_,_,_,_,_,_,_,_,_,_,_,_,_,_,_], _⟩) rfl ?_)
         refine Reg.RC_skip rfl (by rw [hops]; rfl) (Reg.RC_at (b := ⟨#[_,_,_,_,_,_,_,_,_,_,_,_,_,_,_,_,_,_,_,_,_,_,_,_,_,_,_,_,_,_,_,_,_,_,_,_,_,_,_,_,_,_,_,_,_,_,_,_,_,_,_,_,_,_,_,_,_,_,_,_,_,_,_,_,_,_,_,_,_,_,_,_,_,_,_,_,_,_,_,_,_,_,_,_,_,_,_,_,_,_,_,_,_,_,_,_,_,_,_,_,_,_,_,_,_,_,_,_,_,_,_,_,_,_,_,_,_,_,_,_,_,_,_,_,_,_,_,_,_,_,_,_,_,_,_,_,_,_,_,_,_,_,_,_,_,_,_,_,_,_,_,_,_,_,_,_,_,_,_,_,_,_,_,_,_,_,_,_,_,_,_,_,_,_,_,_,_,_,_,_,_,_,_,_,_,_,_,_,_,_,_,_,_,_,_,_,_,_,_,_,_,_,_,_,_,_,_,_,_,_,_,_,_,_,_,_,_,_,_,_,_,_,_,_,_,_,_,_,_,_,_,_,_,_,_,_,_,_,_,_,_,_,_,_,_,_,_,_,_,_,_,_,_,_,_,_,_,_,_,_,_,_,_,_,_,_,_,_,_,_,_,_,_,_,_], _⟩) rfl ?_)
         refine Reg.RC_skip rfl (by rw [hops]; rfl) (Reg.RC_at (b := ⟨#[_,_,_,_,_,_,_,_,_,_,_,_,_,_,_,_,_,_,_,_,_,_,_,_,_,_,_,_,_,_,_,_,_,_,_,_,_,_,_,_,_,_,_,_,_,_,_,_,_,_,_,_,_,_,_,_,_,_,_,_,_,_,_,_,_,_,_,_,_,_,_,_,_,_,_,_,_,_,_,_,_,_,_,_,_,_,_,_,_,_,_,_,_,_,_,_,_,_,_,_,_,_,_,_,_,_,_,_,_,_,_,_,_,_,_,_,_,_,_,_,_,_,_,_,_,_,_,_,_,_,_,_,_,_,_,_,_,_,_,_,_,_,_,_,_,_,_,_,_,_,_,_,_,_,_,_,_,_,_,_,_,_,_,_,_,_,_,_,_,_,_,_,_,_,_,_,_,_,_,_,_,_,_,_,_,_,_,_,_,_,_,_,_,_,_,_,_,_,_,_,_,_,_,_,_,_,_,_,_,_,_,_,_,_,_,_,_,_,_,_,_,_,_,_,_,_,_,_,_,_,_,_,_,_,_,_,_,_,_,_,_,_,_,_,_,_,_,_,_,_,_,_,_,_,_,_,_,_,_,_,_,_,_,_,_,_,_,_,_,_,_,_,_,_,_], _⟩) rfl ?_)
         refine Reg.RC_skip rfl (by rw [hops]; rfl) (Reg.RC_at (b := ⟨#[_,_,_,_,_,_,_,_,_,_,_,_,_,_,_,_,_,_,_,_,_,_,_,_,_,_,_,_,_,_,_,_,_,_,_,_,_,_,_,_,_,_,_,_,_,_,_,_,_,_,_,_,_,_,_,_,_,_,_,_,_,_,_,_,_,_,_,_,_,_,_,_,_,_,_,_,_,_,_,_,_,_,_,_,_,_,_,_,_,_,_,_,_,_,_,_,_,_,_,_,_,_,_,_,_,_,_,_,_,_,_,_,_,_,_,_,_,_,_,_,_,_,_,_,_,_,_,_,_,_,_,_,_,_,_,_,_,_,_,_,_,_,_,_,_,_,_,_,_,_,_,_,_,_,_,_,_,_,_,_,_,_,_,_,_,_,_,_,_,_,_,_,_,_,_,_,_,_,_,_,_,_,_,_,_,_,_,_,_,_,_,_,_,_,_,_,_,_,_,_,_,_,_,_,_,_,_,_,_,_,_,_,_,_,_,_,_,_,_,_,_,_,_,_,_,_,_,_,_,_,_,_,_,_,_,_,_,_,_,_,_,_,_,_,_,_,_,_,_,_,_,_,_,_,_,_,_,_,_,_,_,_,_,_,_,_,_,_,_,_,_,_,_,_,_], _⟩) rfl ?_)
         refine Reg.RC_skip rfl (by rw [hops]; rfl) (Reg.RC_at (b := ⟨#[_,_,_,_,_,_,_,_,_,_,_,_,_,_,_,_,_,_,_,_,_,_,_,_,_,_,_,_,_,_,_,_,_,_,_,_,_,_,_,_,_,_,_,_,_,_,_,_,_,_,_,_,_,_,_,_,_,_,_,_,_,_,_,_,_,_,_,_,_,_,_,_,_,_,_,_,_,_,_,_,_,_,_,_,_,_,_,_,_,_,_,_,_,_,_,_,_,_,_,_,_,_,_,_,_,_,_,_,_,_,_,_,_,_,_,_,_,_,_,_,_,_,_,_,_,_,_,_,_,_,_,_,_,_,_,_,_,_,_,_,_,_,_,_,_,_,_,_,_,_,_,_,_,_,_,_,_,_,_,_,_,_,_,_,_,_,_,_,_,_,_,_,_,_,_,_,_,_,_,_,_,_,_,_,_,_,_,_,_,_,_,_,_,_,_,_,_,_,_,_,_,_,_,_,_,_,_,_,_,_,_,_,_,_,_,_,_,_,_,_,_,_,_,_,_,_,_,_,_,_,_,_,_,_,_,_,_,_,_,_,_,_,_,_,_,_,_,_,_,_,_,_,_,_,_,_,_,_,_,_,_,_,_,_,_,_,_,_,_,_,_,_,_,_,_], _⟩) rfl ?_)
         apply Reg.RP rfl rfl rfl 201 rfl rfl
         ·
          intro D v W hc hj hf K' hK'
          go_step
          exact hK'.out
         · rfl
         refine Reg.RC_end (fun D v w12 hd hj hf => ?_)
         obtain ⟨j0, _⟩ := hj
         have st12 := j0
         clear hd hf j0
         refine hQ _ _ ?_
         clear hQ hops Q' ops'
         have B12 := below_steps Bq (Nat.le_refl _) st12
         repeat' (first | go_values | go_skip | go_guarded | go_step | go_upon)
         go_roundw
         case rel => exact ⟨s + 1, by omega, by go_num, (by first | (rw [en]; done) | (rw [en]; first | rfl | go_num)), B12⟩
         case measure => simp [intOf]; omega
       ·
        have hltw : decide ((s : Int) < (nw : Int)) = false := decide_eq_false (by omega)
        obtain rfl : s = nw := by omega
        have en : ns s = nn := by
         have := GH.out.all
         rw [HnW.out, HnN.out] at this
         exact this
        rw [en]
        have nne : ((nn : Int) != (nn : Int)) = false := by simp
        clear en HWW GH
        repeat' (first | go_values | go_skip | go_guarded | go_step | go_upon)
        go_loopw [25] (fun kk wt => ∃ j : Nat, j ≤ nn ∧ kk = .int .i64 j ∧ Below w11.heap.size w11 wt) (fun kk _ => nn - (intOf kk).toNat)
        case atStart => exact ⟨0, by omega, rfl, below_steps Bq (Nat.le_refl _) belowB⟩
        case round =>
         clear Bq
         rename World => wt
         obtain ⟨j, hj, rfl, Bt⟩ := hrel
         rcases Nat.lt_or_ge j nn with j4 | j4
         ·
          have hltj : decide ((j : Int) < (nn : Int)) = true := decide_eq_true (by omega)
          obtain ⟨t, et, ht, n1, n2⟩ := gotH.out j (by have := HnN.out; omega)
          obtain ⟨bn, on_, rfl, hbn, hn0⟩ := HNN.out.at (t := j) (by have := HnN.out; omega)
          rw [et] at hn0
          obtain ⟨bb, ob, rfl, hbb, zb, hcb⟩ := atBH.out t ht
          generalize CB t = DQ at *
          have hD : ∀ W, Steps w4 W → ∀ j, j < DQ.size → W.cell? ⟨bb, ob + t * 20 + j, none⟩ = DQ[j]? := fun W s j hj => (s.cell (p := ⟨bb, _, none⟩) hbb).trans (hcb j (by omega))
          have ib : (Tryz.prog.info? 33).map (·.size) = some DQ.size := by rw [zb]; kernel_rfl
          have dt0 : decide ((t : Int) < 0) = false := decide_eq_false (by omega)
          have dt1 : decide ((nb : Int) ≤ (t : Int)) = false := decide_eq_false (by omega)
          have c0 : wt.cell? ⟨bn, on_ + j, none⟩ = some (.int .i64 (t : Int)) := (Bt.cell (p := ⟨bn, _, none⟩) hbn).trans hn0
          have hn1 : ∀ W, Steps wt W → W.cell? ⟨bn, on_ + j, none⟩ = some (.int .i64 (t : Int)) := fun W s => (s.cell (p := ⟨bn, _, none⟩) (Nat.lt_of_lt_of_le hbn Bt.size)).trans c0
          have BB : Below w4.heap.size w4 wt := below_steps B (Nat.le_refl _) Bt
          clear et hn0 hcb zb
          repeat' (first | go_values | go_skip | go_guarded | go_step | go_upon)
          have dt2 : decide (nb ≤ t) = false := decide_eq_false (by omega)
          simp only [dt2]
          refine Reg.wp_chain (fun D v W => Below wt.heap.size wt W ∧ True) (Reg.inl [12]) (Reg.gv [(12, fun z_ => z_ = .tuple #[.bool true, .int .i64 0])]) Reg.None_ (fun _ => Reg.Any) (fun _ _ => False) (Reg.pl []) (Reg.pl [])
           (by kernel_rfl) (by kernel_rfl) (by kernel_rfl) (Reg.gv_some _ (by intro p hp; simp only [List.mem_cons, List.not_mem_nil, or_false] at hp; rcases hp with rfl <;> first | exact ⟨_, rfl⟩ | exact ⟨_, none, 0, 0, rfl⟩ | exact ⟨_, false, none, 0, 0, rfl⟩ | exact ⟨_, false, none, 0, 0, false, none, 0, 0, rfl⟩)) (fun _ => ⟨belowB, trivial⟩) (fun _ _ _ _ _ h => h) (fun _ _ _ _ _ _ _ _ _ _ _ _ _ => Reg.none_) (fun _ _ _ _ h => h.elim) (fun ops' Q' hops hQ => ?_)
          apply Reg.RP rfl rfl rfl 229 rfl rfl
          ·
           intro D v W hc hj hf K' hK'
           go_step
           exact hK'.out
          · rfl
          apply Reg.RP rfl rfl rfl 230 rfl rfl
          ·
           intro D v W hc hj hf K' hK'
           go_step
           exact hK'.out
          · rfl
          apply Reg.RP rfl rfl rfl 231 rfl rfl
          ·
           intro D v W hc hj hf K' hK'
           go_step
           exact hK'.out
          · rfl
          apply Reg.RP rfl rfl rfl 232 rfl rfl
          ·
           intro D v W hc hj hf K' hK'
           go_step
           exact hK'.out
          · rfl
          apply Reg.RP rfl rfl rfl 233 rfl rfl
          ·
           intro D v W hc hj hf K' hK'
           obtain ⟨j0, _⟩ := hj
           have c0 := hn1 _ j0
           go_step
           exact hK'.out
          · rfl
          apply Reg.RP rfl rfl rfl 234 rfl rfl
          ·
           intro D v W hc hj hf K' hK'
           go_step
           exact hK'.out
          · rfl
          apply Reg.RP rfl rfl rfl 235 rfl rfl
          ·
           intro D v W hc hj hf K' hK'
           obtain ⟨j0, _⟩ := hj
           exact wp_load_at 33 (.tmp 234) rfl bb (ob + t * 20) rfl DQ _ (hD W (below_steps BB (Nat.le_refl _) j0)) Tryz.underlying33 rfl ib hK'.out
          · rfl
          apply Reg.RP rfl rfl rfl 236 rfl rfl
          ·
           intro D v W hc hj hf K' hK'
           go_step
           exact hK'.out
          · rfl
          apply Reg.RP rfl rfl rfl 237 rfl rfl
          ·
           intro D v W hc hj hf K' hK'
           go_step
           exact hK'.out
          · rfl
          apply Reg.RP rfl rfl rfl 238 rfl rfl
          ·
           intro D v W hc hj hf K' hK'
           go_step
           exact hK'.out
          · rfl
          apply Reg.RP rfl rfl rfl 239 rfl rfl
          ·
           intro D v W hc hj hf K' hK'
           obtain ⟨j0, _⟩ := hj
           exact wp_load_at 33 (.tmp 238) rfl ba (oa + i * 20) rfl C _ (hC W (below_steps BB (Nat.le_refl _) j0)) Tryz.underlying33 rfl ia hK'.out
          · rfl
          apply Reg.RP rfl rfl rfl 240 rfl rfl
          ·
           intro D v W hc hj hf K' hK'
           obtain ⟨j0, _⟩ := hj
           have od := op4.steps (below_steps BB (Nat.le_refl _) j0)
           have cd0 := od.c 0 rfl
           have cd1 := od.c 1 rfl
           have cd2 := od.c 2 rfl
           have cd3 := od.c 3 rfl
           go_step
           exact hK'.out
          · rfl
          refine Reg.RC_call rfl (tlt rfl) rfl (fun D v W hc hj hf K' hK' => ?_) ?_
          ·
           obtain ⟨j0, _⟩ := hj
           go_step
           refine (n1 _ (below_steps BB (Nat.le_refl _) j0)).mono ?_
           rintro e W2 ⟨rfl, hs⟩
           exact hK'.out _ W2 Reg.any ⟨jst j0 hs, trivial⟩ trivial rfl
          rintro _ rfl
          refine Reg.at275 rfl ?_
          apply Reg.RP rfl rfl rfl 228 rfl rfl
          ·
           intro D v W hc hj hf K' hK'
           go_step
           exact hK'.out
          · rfl
          apply Reg.RP rfl rfl rfl 242 rfl rfl
          ·
           intro D v W hc hj hf K' hK'
           go_step
           exact hK'.out
          · rfl
          apply Reg.RP rfl rfl rfl 243 rfl rfl
          ·
           intro D v W hc hj hf K' hK'
           go_step
           exact hK'.out
          · rfl
          apply Reg.RP rfl rfl rfl 26 rfl rfl
          ·
           intro D v W hc hj hf K' hK'
           go_step
           exact hK'.out
          · rfl
          apply Reg.RP rfl rfl rfl 27 rfl rfl
          ·
           intro D v W hc hj hf K' hK'
           go_step
           exact hK'.out
          · rfl
          refine Reg.RC_end (fun D v w13 hd hj hf => ?_)
          obtain ⟨j0, _⟩ := hj
          have st13 := j0
          clear hd hf j0
          refine hQ _ _ ?_
          clear hQ hops Q' ops'
          have B13 := below_steps BB (Nat.le_refl _) st13
          clear BB
          have BB := B13
          clear B13 n1
          repeat' (first | go_values | go_skip | go_guarded | go_step | go_upon)
          refine Reg.wp_chain (fun D v W => Below w13.heap.size w13 W ∧ True) (Reg.inl [12]) (Reg.gv [(12, fun z_ => z_ = .tuple #[.bool true, .int .i64 0])]) Reg.None_ (fun _ => Reg.Any) (fun _ _ => False) (Reg.pl []) (Reg.pl [])
           (by kernel_rfl) (by kernel_rfl) (by kernel_rfl) (Reg.gv_some _ (by intro p hp; simp only [List.mem_cons, List.not_mem_nil, or_false] at hp; rcases hp with rfl <;> first | exact ⟨_, rfl⟩ | exact ⟨_, none, 0, 0, rfl⟩ | exact ⟨_, false, none, 0, 0, rfl⟩ | exact ⟨_, false, none, 0, 0, false, none, 0, 0, rfl⟩)) (fun _ => ⟨belowB, trivial⟩) (fun _ _ _ _ _ h => h) (fun _ _ _ _ _ _ _ _ _ _ _ _ _ => Reg.none_) (fun _ _ _ _ h => h.elim) (fun ops' Q' hops hQ => ?_)
          apply Reg.RP rfl rfl rfl 245 rfl rfl
          ·
           intro D v W hc hj hf K' hK'
           go_step
           exact hK'.out
          · rfl
          apply Reg.RP rfl rfl rfl 246 rfl rfl
          ·
           intro D v W hc hj hf K' hK'
           go_step
           exact hK'.out
          · rfl
          apply Reg.RP rfl rfl rfl 247 rfl rfl
          ·
           intro D v W hc hj hf K' hK'
           go_step
           exact hK'.out
          · rfl
          apply Reg.RP rfl rfl rfl 248 rfl rfl
          ·
           intro D v W hc hj hf K' hK'
           obtain ⟨j0, _⟩ := hj
           exact wp_load_at 33 (.tmp 247) rfl ba (oa + i * 20) rfl C _ (hC W (below_steps BB (Nat.le_refl _) j0)) Tryz.underlying33 rfl ia hK'.out
          · rfl
          apply Reg.RP rfl rfl rfl 249 rfl rfl
          ·
           intro D v W hc hj hf K' hK'
           go_step
           exact hK'.out
          · rfl
          apply Reg.RP rfl rfl rfl 250 rfl rfl
          ·
           intro D v W hc hj hf K' hK'
           go_step
           exact hK'.out
          · rfl
          apply Reg.RP rfl rfl rfl 251 rfl rfl
          ·
           intro D v W hc hj hf K' hK'
           go_step
           exact hK'.out
          · rfl
          apply Reg.RP rfl rfl rfl 252 rfl rfl
          ·
           intro D v W hc hj hf K' hK'
           go_step
           exact hK'.out
          · rfl
          apply Reg.RP rfl rfl rfl 253 rfl rfl
          ·
           intro D v W hc hj hf K' hK'
           obtain ⟨j0, _⟩ := hj
           have c0 := hn1 _ (below_steps st13 (Nat.le_refl _) j0)
           go_step
           exact hK'.out
          · rfl
          apply Reg.RP rfl rfl rfl 254 rfl rfl
          ·
           intro D v W hc hj hf K' hK'
           go_step
           exact hK'.out
          · rfl
          apply Reg.RP rfl rfl rfl 255 rfl rfl
          ·
           intro D v W hc hj hf K' hK'
           obtain ⟨j0, _⟩ := hj
           exact wp_load_at 33 (.tmp 254) rfl bb (ob + t * 20) rfl DQ _ (hD W (below_steps BB (Nat.le_refl _) j0)) Tryz.underlying33 rfl ib hK'.out
          · rfl
          apply Reg.RP rfl rfl rfl 256 rfl rfl
          ·
           intro D v W hc hj hf K' hK'
           obtain ⟨j0, _⟩ := hj
           have od := op4.steps (below_steps BB (Nat.le_refl _) j0)
           have cd0 := od.c 0 rfl
           have cd1 := od.c 1 rfl
           have cd2 := od.c 2 rfl
           have cd3 := od.c 3 rfl
           go_step
           exact hK'.out
          · rfl
          refine Reg.RC_call rfl (tlt rfl) rfl (fun D v W hc hj hf K' hK' => ?_) ?_
          ·
           obtain ⟨j0, _⟩ := hj
           go_step
           refine (n2 _ (below_steps BB (Nat.le_refl _) j0)).mono ?_
           rintro e W2 ⟨rfl, hs⟩
           exact hK'.out _ W2 Reg.any ⟨jst j0 hs, trivial⟩ trivial rfl
          rintro _ rfl
          refine Reg.at275 rfl ?_
          apply Reg.RP rfl rfl rfl 244 rfl rfl
          ·
           intro D v W hc hj hf K' hK'
           go_step
           exact hK'.out
          · rfl
          apply Reg.RP rfl rfl rfl 258 rfl rfl
          ·
           intro D v W hc hj hf K' hK'
           go_step
           exact hK'.out
          · rfl
          apply Reg.RP rfl rfl rfl 259 rfl rfl
          ·
           intro D v W hc hj hf K' hK'
           go_step
           exact hK'.out
          · rfl
          apply Reg.RP rfl rfl rfl 28 rfl rfl
          ·
           intro D v W hc hj hf K' hK'
           go_step
           exact hK'.out
          · rfl
          apply Reg.RP rfl rfl rfl 29 rfl rfl
          ·
           intro D v W hc hj hf K' hK'
           go_step
           exact hK'.out
          · rfl
          refine Reg.RC_end (fun D v w14 hd hj hf => ?_)
          obtain ⟨j0, _⟩ := hj
          have st14 := j0
          clear hd hf j0
          refine hQ _ _ ?_
          clear hQ hops Q' ops'
          have B14 : Below w11.heap.size w11 w14 := below_steps (below_steps Bt (Nat.le_refl _) st13) (Nat.le_refl _) st14
          clear BB Bt st13 st14 c0 hn1 n2 hD ib
          repeat' (first | go_values | go_skip | go_guarded | go_step | go_upon)
          go_roundw
          case rel => exact ⟨j + 1, by omega, by go_num, B14⟩
          case measure => simp [intOf]; omega
         ·
          have hltj : decide ((j : Int) < (nn : Int)) = false := decide_eq_false (by omega)
          repeat' (first | go_values | go_skip | go_guarded | go_step | go_upon)
          go_roundw
          case rel => exact ⟨i + 1, by omega, by go_num, ow11.steps Bt, below_steps B (Nat.le_refl _) Bt⟩
          case measure => simp [intOf]; omega
     ·
      have hlt : decide ((i : Int) < (na : Int)) = false := decide_eq_false (by omega)
      repeat' (first | go_values | go_skip | go_guarded | go_step | go_upon)
      go_returns
      exact ⟨rfl, below_steps B4 (Nat.le_refl _) B⟩
theorem near_law {vl vm : Value} {l m : PL} {t1 t5 : Bool} {t2 t6 : Option Addr} {p t4 p' t8 : Nat} {u1 u5 : Bool} {u2 u6 : Option Addr} {r u4 r' u8 : Nat} {o o' : Option Rat} (w : World) (hl : Pts w vl l) (hm : Pts w vm m)
  (hf : FB w (.agg #[.bool t1, .slice t2 p t4, .bool t5, .slice t6 p' t8]) o) (ho : ∀ z, o = some z → absN z.num ≤ bp p ∧ (z.den : Int) ≤ bp p') (hg : FB w (.agg #[.bool u1, .slice u2 r u4, .bool u5, .slice u6 r' u8]) o') (ho' : ∀ z, o' = some z → absN z.num ≤ bp r ∧ (z.den : Int) ≤ bp r') :
  Calls Tryz.prog 4 #[vl, vm, .agg #[.bool t1, .slice t2 p t4, .bool t5, .slice t6 p' t8], .agg #[.bool u1, .slice u2 r u4, .bool u5, .slice u6 r' u8]] w fun e w' => e = .returned (.bool true) ∧ Steps w w' := by
 by_cases h0 : l.length ≤ 6
 ·
  by_cases h1 : m.length ≤ 6
  ·
   cases h2 : limB o with
   | false => exact near_bad2 w hl hm hf hg h0 h1 h2
   | true =>
    cases h3 : limB o' with
    | false => exact near_bad3 w hl hm hf hg h0 h1 h2 h3
    | true =>
     by_cases h4 : p ≤ 4
     ·
      by_cases h5 : p' ≤ 4
      ·
       by_cases h6 : r ≤ 4
       ·
        by_cases h7 : r' ≤ 4
        · exact near_ok w hl hm hf ho hg ho' h0 h1 h2 h3 h4 h5 h6 h7
        · exact near_bad7 w hl hm hf hg h0 h1 h2 h3 h4 h5 h6 h7
       · exact near_bad6 w hl hm hf hg h0 h1 h2 h3 h4 h5 h6
      · exact near_bad5 w hl hm hf hg h0 h1 h2 h3 h4 h5
     · exact near_bad4 w hl hm hf hg h0 h1 h2 h3 h4
  · exact near_bad1 w hl hm hf hg h0 h1
 · exact near_bad0 w hl hm hf hg h0
end Go.Proofs.YtibdehlmflaodaaGreat
