import Derived.Test.YtmpambmpknaldaaGreatACh
import Derived.Test.YtmpambmpknaldaaGreatAQu
import Derived.Deep.Upon
set_option linter.unusedVariables false
set_option linter.unusedSimpArgs false
set_option maxHeartbeats 6400000
set_option maxRecDepth 1000000
namespace Go.Proofs.YtmpambmpknaldaaGreat
open Go.RowKit
def grB (n : Nat) : Bool := decide (1010 < n) || (decide (24 < n) && decide (n ≤ 1000))
theorem pvgreat {vl : Value} {l : List Int} (w : World) (hl : IntsR w vl l) :
  Calls Tryz.prog 9 #[vl] w fun e w' => e = .returned (.bool (grB l.length)) ∧ Steps w w' := by
 obtain ⟨la, lc, rfl⟩ := hl.shape
 obtain ⟨n, hn⟩ : ∃ n, l.length = n := ⟨_, rfl⟩
 rw [hn]
 clear hl hn
 rcases (show 1010 < n ∨ n ≤ 24 ∨ (24 < n ∧ n ≤ 1000) ∨ (1000 < n ∧ n ≤ 1010) by omega) with h | h | ⟨h, h'⟩ | ⟨h, h'⟩
 ·
  rw [show grB n = true by unfold grB; rw [decide_eq_true h]; rfl]
  have h1 : (1010 : Int) < (n : Int) := by omega
  clear h
  go_enter Tryz.func9, Tryz.ntmps9
  go_wp2
  go_returns
  exact ⟨rfl, belowB⟩
 ·
  rw [show grB n = false by unfold grB; rw [decide_eq_false (show ¬ 1010 < n by omega), decide_eq_false (show ¬ 24 < n by omega)]; rfl]
  have h1 : ¬ (1010 : Int) < (n : Int) := by omega
  have h2 : ¬ (24 : Int) < (n : Int) := by omega
  clear h
  go_enter Tryz.func9, Tryz.ntmps9
  go_wp2
  go_returns
  exact ⟨rfl, belowB⟩
 ·
  rw [show grB n = true by unfold grB; rw [decide_eq_true h, decide_eq_true h']; simp]
  have h1 : ¬ (1010 : Int) < (n : Int) := by omega
  have h2 : (24 : Int) < (n : Int) := by omega
  have h3 : (n : Int) ≤ 1000 := by omega
  clear h h'
  go_enter Tryz.func9, Tryz.ntmps9
  go_wp2
  go_returns
  exact ⟨rfl, belowB⟩
 ·
  rw [show grB n = false by unfold grB; rw [decide_eq_false (show ¬ 1010 < n by omega), decide_eq_false (show ¬ n ≤ 1000 by omega)]; simp]
  have h1 : ¬ (1010 : Int) < (n : Int) := by omega
  have h2 : (24 : Int) < (n : Int) := by omega
  have h3 : ¬ (n : Int) ≤ 1000 := by omega
  clear h h'
  go_enter Tryz.func9, Tryz.ntmps9
  go_wp2
  go_returns
  exact ⟨rfl, belowB⟩
theorem psameN {a b c d a' b' c' d' : Value} {x y : Int} (w : World) (h : Frn w x y a b c d) (h' : Frn w x y a' b' c' d') (fx : fits x) (fy : fits y) :
  Calls Tryz.prog 18 #[.agg #[a, b, c, d], .agg #[a', b', c', d']] w fun e w' => e = .returned (.bool true) ∧ Steps w w' := by
 obtain ⟨g1, s1, n1, c1, rfl, rfl⟩ := h.1.parts2
 obtain ⟨g2, s2, n2, c2, rfl, rfl⟩ := h.2.parts2
 obtain ⟨g3, s3, n3, c3, rfl, rfl⟩ := h'.1.parts2
 obtain ⟨g4, s4, n4, c4, rfl, rfl⟩ := h'.2.parts2
 have p1 : ∀ w', Keeps w w' → Calls Tryz.prog 47 #[.agg #[.bool g1, .slice s1 n1 c1], .agg #[.bool g3, .slice s3 n3 c3]] w' fun e w2 => e = .returned (.bool true) ∧ Steps w' w2 := fun w' k => by
  have := rsame w' (h.1.keeps k) (h'.1.keeps k) fx fx
  rwa [decide_eq_true rfl] at this
 have p2 : ∀ w', Keeps w w' → Calls Tryz.prog 47 #[.agg #[.bool g2, .slice s2 n2 c2], .agg #[.bool g4, .slice s4 n4 c4]] w' fun e w2 => e = .returned (.bool true) ∧ Steps w' w2 := fun w' k => by
  have := rsame w' (h.2.keeps k) (h'.2.keeps k) fy fy
  rwa [decide_eq_true rfl] at this
 clear h h' fx fy
 go_enter Tryz.func18, Tryz.ntmps18
 have kk := Keeps.refl w
 go_wp2_with fail
 refine (p1 _ (kk.trans keepsB)).mono ?_
 rintro e w1 ⟨rfl, hb1⟩
 have st : Steps _ w1 := hb1
 have B : Below w.heap.size w w1 := belowA st
 have kp : Keeps w w1 := Keeps.then_ keepsB st
 replace kk := kk.trans kp
 have oa : Blk w1 (w.heap.size) 27 #[.bool g1, .slice s1 n1 c1, .bool g2, .slice s2 n2 c2] := Blk.stepsK st
 have ob : Blk w1 (w.heap.size + 1) 27 #[.bool g3, .slice s3 n3 c3, .bool g4, .slice s4 n4 c4] := Blk.stepsK st
 clear kp
 clear st
 obtain ⟨ca0, ca1, ca2, ca3⟩ := oa.r3
 have la := oa.lt
 obtain ⟨cb0, cb1, cb2, cb3⟩ := ob.r3
 have lb := ob.lt
 go_wp2_with fail
 refine (p2 _ (kk.trans keepsB)).mono ?_
 rintro e w2 ⟨rfl, hb2⟩
 have st : Steps _ w2 := hb2
 have sk : Below w1.heap.size w1 w2 := belowA st
 replace B := below_steps B (Nat.le_refl _) sk
 replace oa := oa.steps sk
 replace ob := ob.steps sk
 replace kk := kk.then_ sk
 clear st sk ca0 ca1 ca2 ca3 la cb0 cb1 cb2 cb3 lb
 go_wp2_with fail
 refine bodyPost_ret (by simp [results, Tryz.results18, go_sem, ]; rfl) rfl ?_
 exact ⟨rfl, belowB⟩
theorem frn_zeroQ (w : World) : Frn w 0 0 (.bool false) (.slice none 0 0) (.bool false) (.slice none 0 0) := ⟨Num.zero _, Num.zero _⟩
theorem psame {va vb : Value} {c : Int} {r : Rat} (w : World) (h : FE w va c r) (h' : FE w vb c r) : Calls Tryz.prog 18 #[va, vb] w fun e w' => e = .returned (.bool true) ∧ Steps w w' := by
 unfold FE at h h'
 by_cases hc : c = 0
 ·
  rw [if_pos hc] at h h'
  obtain ⟨a2, a3, a4, a6, a7, a8, rfl, n1, n2, -⟩ := h.nums
  obtain ⟨b2, b3, b4, b6, b7, b8, rfl, m1, m2, -⟩ := h'.nums
  exact psameN w ⟨n1, n2⟩ ⟨m1, m2⟩ h.fit.1 h.fit.2
 ·
  rw [if_neg hc] at h h'
  subst h
  subst h'
  exact psameN w (frn_zeroQ w) (frn_zeroQ w) (by decide) (by decide)
theorem FE.keeps {w w' : World} {v : Value} {c : Int} {r : Rat} (h : FE w v c r) (k : Keeps w w') : FE w' v c r := by
 unfold FE at h ⊢
 split
 · rename_i e; rw [if_pos e] at h; exact FR.keeps h k
 · rename_i e; rw [if_neg e] at h; exact h
theorem FE.steps {w w' : World} {v : Value} {c : Int} {r : Rat} (h : FE w v c r) (s : Steps w w') : FE w' v c r := h.keeps (Keeps.steps s)
theorem FE.shape {w : World} {v : Value} {c : Int} {r : Rat} (h : FE w v c r) : ∃ (a : Bool) (s : Option Addr) (n d : Nat) (b : Bool) (t : Option Addr) (m e : Nat), v = .agg #[.bool a, .slice s n d, .bool b, .slice t m e] := by
 unfold FE at h
 split at h
 · exact FR.shape h
 · exact ⟨_, _, _, _, _, _, _, _, h⟩
theorem app_copyA {ops : Array Oper} {rest : List Oper} {o : Oper} {a : Act} {w : World} {Q : Exit → Act → World → Prop} (hgd : o.guard = none) (s x : Operand) (ho : o.op = .call { callee := .builtin .append, args := #[s, x], argTypes := #[22, 22] })
  (g : Nat) (hs : a.eval s = .slice (some ⟨g, 0, none⟩) 0 0) (hb : Blk w g 2 #[]) (v : Value) (l : List Int) (hx : a.eval x = v) (hv : IntsR w v l) (hl : l.length ≤ 100000)
  (h : ∀ v' w', IntsR w' v' l → w.grownBy w' (some g) → wpList Tryz.prog ops Q rest (a.put o.dst v') w') : wpList Tryz.prog ops Q (o :: rest) a w := by
 rcases Nat.eq_zero_or_pos l.length with h0 | h0
 ·
  obtain ⟨ie, z, h1, h2, h3, h4, h5⟩ := infoJ
  refine wpList_plain hgd fun K hK => ?_
  have e0 : l = [] := List.eq_nil_of_length_eq_zero h0
  subst e0
  obtain ⟨ao, cap, rfl, hc, -⟩ := hv
  have hsrc : Src Tryz.prog ie.size 22 (.slice ao 0 cap) 0 [] w := by
   cases ao with
   | none => exact Src.ofNil w Tryz.underlying22 cap
   | some ad => exact Src.ofSlice w Tryz.underlying22 ad 0 cap [] (by simp) (fun j u hj => by cases hj) (fun u hu => by cases hu)
  have hr := run_append_nothing w 22 22 o.type 2 ie Tryz.underlying22 h1 (some ⟨g, 0, none⟩) 0 0 (Nat.le_refl _) _ hsrc
  unfold Oper.wp execOp
  simp only [ho, resolve, invoke, builtin, Sem.run_bind, Sem.run_pure, Result.andThen_ok, List.map_toArray, List.map_cons, List.map_nil, hs, hx, List.length_nil]
  rw [hr]
  exact hK _ _ (h _ w ⟨_, 0, rfl, Nat.le_refl _, fun hne => absurd rfl hne⟩ ⟨rfl, rfl, rfl, Nat.le_refl _, fun _ _ _ => rfl⟩)
 · exact app_copyU hgd s x ho g hs hb v l hx hv h0 hl (fun v' w' hr hg => h v' w' hr.ints hg)
theorem means_bad {vl : Value} {l : List Int} {k1 k5 : Bool} {k2 k6 : Option Addr} {p k4 p' k8 : Nat} {o : Option Rat} (w : World) (hl : IntsR w vl l) (hk : FB w (.agg #[.bool k1, .slice k2 p k4, .bool k5, .slice k6 p' k8]) o) (ho : ∀ z, o = some z → absN z.num ≤ bp p ∧ (z.den : Int) ≤ bp p') (h : grB l.length = true ∨ (grB l.length = false ∧ (4 < p ∨ (p ≤ 4 ∧ 4 < p')))) :
  Calls Tryz.prog 3 #[vl, .agg #[.bool k1, .slice k2 p k4, .bool k5, .slice k6 p' k8]] w fun e w' => e = .returned (.bool true) ∧ Steps w w' := by
 have GR : ∀ w', Steps w w' → Calls Tryz.prog 9 #[vl] w' fun e w2 => e = .returned (.bool (grB l.length)) ∧ Steps w' w2 := fun w' s => pvgreat w' (hl.steps s)
 obtain ⟨la, lc, rfl⟩ := hl.shape
 clear hl hk ho
 rcases h with h | ⟨h, h1 | ⟨h1, h2⟩⟩
 ·
  rw [h] at GR
  go_enter Tryz.func3, Tryz.ntmps3
  go_wp2_with fail
  refine (GR _ belowB).mono ?_
  rintro e w1 ⟨rfl, hs1⟩
  have ok : Blk w1 w.heap.size 27 #[.bool k1, .slice k2 p k4, .bool k5, .slice k6 p' k8] := Blk.stepsK hs1
  have B : Below w.heap.size w w1 := belowA hs1
  have c1 := ok.c 1 rfl
  have c3 := ok.c 3 rfl
  clear hs1 GR
  go_wp2_with fail
  go_returns
  exact ⟨rfl, belowB⟩
 ·
  rw [h] at GR
  have d1 : (4 : Int) < (p : Int) := by omega
  go_enter Tryz.func3, Tryz.ntmps3
  go_wp2_with fail
  refine (GR _ belowB).mono ?_
  rintro e w1 ⟨rfl, hs1⟩
  have ok : Blk w1 w.heap.size 27 #[.bool k1, .slice k2 p k4, .bool k5, .slice k6 p' k8] := Blk.stepsK hs1
  have B : Below w.heap.size w w1 := belowA hs1
  have c1 := ok.c 1 rfl
  have c3 := ok.c 3 rfl
  clear hs1 GR
  go_wp2_with fail
  go_returns
  exact ⟨rfl, belowB⟩
 ·
  rw [h] at GR
  have d1 : ¬ (4 : Int) < (p : Int) := by omega
  have d2 : (4 : Int) < (p' : Int) := by omega
  go_enter Tryz.func3, Tryz.ntmps3
  go_wp2_with fail
  refine (GR _ belowB).mono ?_
  rintro e w1 ⟨rfl, hs1⟩
  have ok : Blk w1 w.heap.size 27 #[.bool k1, .slice k2 p k4, .bool k5, .slice k6 p' k8] := Blk.stepsK hs1
  have B : Below w.heap.size w w1 := belowA hs1
  have c1 := ok.c 1 rfl
  have c3 := ok.c 3 rfl
  clear hs1 GR
  go_wp2_with fail
  go_returns
  exact ⟨rfl, belowB⟩
theorem means_ok {vl : Value} {l : List Int} {k1 k5 : Bool} {k2 k6 : Option Addr} {p k4 p' k8 : Nat} {o : Option Rat} (w : World) (hl : IntsR w vl l) (hk : FB w (.agg #[.bool k1, .slice k2 p k4, .bool k5, .slice k6 p' k8]) o) (ho : ∀ z, o = some z → absN z.num ≤ bp p ∧ (z.den : Int) ≤ bp p') (h : grB l.length = false) (h1 : p ≤ 4) (h2 : p' ≤ 4) :
  Calls Tryz.prog 3 #[vl, .agg #[.bool k1, .slice k2 p k4, .bool k5, .slice k6 p' k8]] w fun e w' => e = .returned (.bool true) ∧ Steps w w' := by
 have GR : ∀ w', Steps w w' → Calls Tryz.prog 9 #[vl] w' fun e w2 => e = .returned (.bool false) ∧ Steps w' w2 := fun w' s => by have := pvgreat w' (hl.steps s); rwa [h] at this
 have hN0 : l.length ≤ 24 ∨ (1000 < l.length ∧ l.length ≤ 1010) := by
  unfold grB at h
  simp only [Bool.or_eq_false_iff, decide_eq_false_iff_not, Bool.and_eq_false_iff] at h
  omega
 have h24 : askV l = 0 → l.length ≤ 24 := fun e => by have := (askV_val e).1.1; omega
 have hn : l.length ≤ 1010 := by omega
 have zk : ∀ r, o = some r → sz r 4 := fun r e => ⟨Int.le_trans (ho r e).1 (bp_mono h1), Int.le_trans (ho r e).2 (bp_mono h2)⟩
 have MA : ∀ w' v, IntsR w' v l → Calls Tryz.prog 10 #[v] w' fun e w2 => ∃ u, e = .returned (.tuple #[u, .int .i64 (askV l)]) ∧ FE w2 u (askV l) (meanQ l) ∧ Steps w' w2 := fun w' v h => vMean w' h (by omega)
 have MB : ∀ w' v, IntsR w' v l → Calls Tryz.prog 11 #[v] w' fun e w2 => ∃ u, e = .returned (.tuple #[u, .int .i64 (askV l)]) ∧ FE w2 u (askV l) (meanQ l) ∧ Steps w' w2 := fun w' v h => prMean w' h (by omega)
 have VA : ∀ w' v, IntsR w' v l → Calls Tryz.prog 12 #[v] w' fun e w2 => ∃ u, e = .returned (.tuple #[u, .int .i64 (askV l)]) ∧ FE w2 u (askV l) (varQ l) ∧ Steps w' w2 := fun w' v h => vVariance w' h (by omega)
 have VB : ∀ w' v, IntsR w' v l → Calls Tryz.prog 13 #[v] w' fun e w2 => ∃ u, e = .returned (.tuple #[u, .int .i64 (askV l)]) ∧ FE w2 u (askV l) (varQ l) ∧ Steps w' w2 := fun w' v h => prVariance w' h (by omega) h24
 have CA : ∀ w' v, Keeps w w' → IntsR w' v l → Calls Tryz.prog 14 #[v, .agg #[.bool k1, .slice k2 p k4, .bool k5, .slice k6 p' k8]] w' fun e w2 => ∃ u, e = .returned (.tuple #[u, .int .i64 ((clipS l o).2.1 : Nat), .int .i64 (clipS l o).2.2]) ∧ IntsR w2 u (inI (clipS l o).1) ∧ Steps w' w2 := fun w' v k h => vClip w' h (by omega) (hk.keeps k) zk
 have CB : ∀ w' v, Keeps w w' → IntsR w' v l → Calls Tryz.prog 15 #[v, .agg #[.bool k1, .slice k2 p k4, .bool k5, .slice k6 p' k8]] w' fun e w2 => ∃ u, e = .returned (.tuple #[u, .int .i64 ((clipS l o).2.1 : Nat), .int .i64 (clipS l o).2.2]) ∧ IntsR w2 u (inI (clipS l o).1) ∧ Steps w' w2 := fun w' v k h => prClip w' h (by omega) h24 (hk.keeps k) zk
 have TA : ∀ w' v, Keeps w w' → IntsR w' v l → Calls Tryz.prog 16 #[v, .agg #[.bool k1, .slice k2 p k4, .bool k5, .slice k6 p' k8]] w' fun e w2 => ∃ u, e = .returned (.tuple #[u, .int .i64 (clipS l o).2.2]) ∧ FE w2 u (clipS l o).2.2 (meanQ (pick l (clipS l o).1)) ∧ Steps w' w2 := fun w' v k h => vTrimmed w' h (by omega) (hk.keeps k) zk
 have TB : ∀ w' v, Keeps w w' → IntsR w' v l → Calls Tryz.prog 17 #[v, .agg #[.bool k1, .slice k2 p k4, .bool k5, .slice k6 p' k8]] w' fun e w2 => ∃ u, e = .returned (.tuple #[u, .int .i64 (clipS l o).2.2]) ∧ FE w2 u (clipS l o).2.2 (meanQ (pick l (clipS l o).1)) ∧ Steps w' w2 := fun w' v k h => prTrimmed w' h (by omega) h24 (hk.keeps k) zk
 have CLN : (inI (clipS l o).1).length ≤ 100000 := by
  rw [inI_len]
  unfold clipS
  split
  ·
   split
   · have := (clipR_spec l (o.getD 0)).2.2.1; show (clipR l (o.getD 0)).1.length ≤ _; omega
   · simp
  · simp
 have SI : ∀ w' u v, IntsR w' u (inI (clipS l o).1) → IntsR w' v (inI (clipS l o).1) → Calls Tryz.prog 19 #[u, v] w' fun e w2 => e = .returned (.bool true) ∧ Steps w' w2 := fun w' u v h1 h2 => rsameInts w' h1 h2 CLN
 generalize meanQ (pick l (clipS l o).1) = tq at *
 generalize (clipS l o).2.2 = ec at *
 generalize ((clipS l o).2.1 : Int) = rc at *
 generalize inI (clipS l o).1 = xc at *
 generalize askV l = ea at *
 generalize meanQ l = mq at *
 generalize varQ l = vq at *
 obtain ⟨la, lc, rfl⟩ := hl.shape
 have HL := Hid.mk_ hl
 obtain ⟨N, hN⟩ : ∃ n, l.length = n := ⟨_, rfl⟩
 have HN := Hid.mk_ hN
 rw [hN] at GR HL hn ⊢
 have d1 : ¬ (4 : Int) < (p : Int) := by omega
 have d2 : ¬ (4 : Int) < (p' : Int) := by omega
 have ne1 : (ea != ea) = false := by simp
 have ne2 : (ec != ec) = false := by simp
 have ne3 : (rc != rc) = false := by simp
 have ne4 : ((N : Int) != (N : Int)) = false := by simp
 clear hl hk ho h h1 h2 hN0 h24 zk hN CLN
 go_enter Tryz.func3, Tryz.ntmps3
 go_wp2_with fail
 refine (GR _ belowB).mono ?_
 rintro e w1 ⟨rfl, hs1⟩
 have ok : Blk w1 w.heap.size 27 #[.bool k1, .slice k2 p k4, .bool k5, .slice k6 p' k8] := Blk.stepsK hs1
 have B : Below w.heap.size w w1 := belowA hs1
 have c1 := ok.c 1 rfl
 have c3 := ok.c 3 rfl
 have HL1 := Hid.mk_ ((HL.out.steps B).steps ((Below.refl _ _).alloc (Nat.le_refl _) (.cells #[] 2)))
 have zz := B.size
 clear hs1 GR
 dsimp only
 repeat' (first | ((with_reducible show wpList _ _ _ (⟨some 43, _, _, _, _, _⟩ :: _) _ _); refine app_copyA rfl (.tmp 41) (.tmp 42) rfl w1.heap.size rfl (Blk.new _ _ _) (.slice la N lc) l rfl HL1.out (by have := HN.out; omega) (fun v2 w2 hv2 gr => ?_)) | go_values | go_skip | go_guarded | go_step | go_upon)
 obtain ⟨wa_, wc, rfl⟩ := hv2.shape
 rw [HN.out] at hv2 ⊢
 have B2 : Below w.heap.size w w2 := (B.alloc B.size _).grown gr (by rw [World.size_alloc]; omega) (fun k hk => by have e : some w1.heap.size = some k := hk; rw [Option.some.injEq] at e; omega)
 have ok2 : Blk w2 w.heap.size 27 #[.bool k1, .slice k2 p k4, .bool k5, .slice k6 p' k8] := (gr.block _ (by rw [World.size_alloc]; have := ok.lt; omega) (fun e => by have e : some w1.heap.size = some w.heap.size := e.symm; rw [Option.some.injEq] at e; have := ok.lt; omega)).trans (ok.alloc _)
 have HW := Hid.mk_ hv2
 have HL2 := Hid.mk_ (HL.out.steps B2)
 clear ok B HL1 hv2 gr c1 c3 zz
 have B := Below.refl w2.heap.size w2
 have kk := Keeps.steps B2
 have ok := ok2
 clear ok2
 have HL0 := Hid.mk_ HL2.out
 have HW0 := Hid.mk_ HW.out
 have BASE := Hid.mk_ B2
 clear B2
 go_wp2_with fail
 refine (MA _ _ (HL2.out.steps belowB)).mono ?_
 rintro e w3 ⟨va, rfl, hva, hb3⟩
 have st : Steps _ w3 := hb3
 have sk : Below w2.heap.size w2 w3 := belowA st
 replace B := below_steps B (Nat.le_refl _) sk
 replace ok := ok.steps sk
 replace HL2 := Hid.mk_ (HL2.out.steps sk)
 replace HW := Hid.mk_ (HW.out.steps sk)
 replace kk := kk.then_ sk
 clear st sk
 obtain ⟨a1, a2, a3, a4, a5, a6, a7, a8, rfl⟩ := FE.shape hva
 have Fa := Hid.mk_ hva
 clear hva
 have zk_3 : w.heap.size < w3.heap.size := ok.lt
 have zz3 := B.size
 go_wp2_with fail
 refine (MB _ _ (HW.out.steps belowB)).mono ?_
 rintro e w4 ⟨vb, rfl, hvb, hb4⟩
 have st : Steps _ w4 := hb4
 have sk : Below w3.heap.size w3 w4 := belowA st
 replace B := below_steps B (Nat.le_refl _) sk
 have oa : Blk w4 (w3.heap.size) 27 #[.bool a1, .slice a2 a3 a4, .bool a5, .slice a6 a7 a8] := Blk.stepsK st
 replace ok := ok.steps sk
 replace HL2 := Hid.mk_ (HL2.out.steps sk)
 replace HW := Hid.mk_ (HW.out.steps sk)
 replace Fa := Hid.mk_ (Fa.out.steps sk)
 replace kk := kk.then_ sk
 clear st sk
 obtain ⟨b1, b2, b3, b4, b5, b6, b7, b8, rfl⟩ := FE.shape hvb
 have Fb := Hid.mk_ hvb
 clear hvb
 have za_4 : w3.heap.size < w4.heap.size := oa.lt
 have zz4 := B.size
 go_wp2_with fail
 refine (VA _ _ (HL2.out.steps belowB)).mono ?_
 rintro e w5 ⟨vc, rfl, hvc, hb5⟩
 have st : Steps _ w5 := hb5
 have sk : Below w4.heap.size w4 w5 := belowA st
 replace B := below_steps B (Nat.le_refl _) sk
 have ob : Blk w5 (w4.heap.size) 27 #[.bool b1, .slice b2 b3 b4, .bool b5, .slice b6 b7 b8] := Blk.stepsK st
 replace ok := ok.steps sk
 replace oa := oa.steps sk
 replace HL2 := Hid.mk_ (HL2.out.steps sk)
 replace HW := Hid.mk_ (HW.out.steps sk)
 replace Fa := Hid.mk_ (Fa.out.steps sk)
 replace Fb := Hid.mk_ (Fb.out.steps sk)
 replace kk := kk.then_ sk
 clear st sk
 obtain ⟨c1, c2, c3, c4, c5, c6, c7, c8, rfl⟩ := FE.shape hvc
 have Fc := Hid.mk_ hvc
 clear hvc
 have zb_5 : w4.heap.size < w5.heap.size := ob.lt
 have zz5 := B.size
 go_wp2_with fail
 refine (VB _ _ (HW.out.steps belowB)).mono ?_
 rintro e w6 ⟨vd, rfl, hvd, hb6⟩
 have st : Steps _ w6 := hb6
 have sk : Below w5.heap.size w5 w6 := belowA st
 replace B := below_steps B (Nat.le_refl _) sk
 have oc : Blk w6 (w5.heap.size) 27 #[.bool c1, .slice c2 c3 c4, .bool c5, .slice c6 c7 c8] := Blk.stepsK st
 replace ok := ok.steps sk
 replace oa := oa.steps sk
 replace ob := ob.steps sk
 replace HL2 := Hid.mk_ (HL2.out.steps sk)
 replace HW := Hid.mk_ (HW.out.steps sk)
 replace Fa := Hid.mk_ (Fa.out.steps sk)
 replace Fb := Hid.mk_ (Fb.out.steps sk)
 replace Fc := Hid.mk_ (Fc.out.steps sk)
 replace kk := kk.then_ sk
 clear st sk
 obtain ⟨ck0, ck1, ck2, ck3⟩ := ok.r3
 have lk := ok.lt
 obtain ⟨d1, d2, d3, d4, d5, d6, d7, d8, rfl⟩ := FE.shape hvd
 have Fd := Hid.mk_ hvd
 clear hvd
 have zc_6 : w5.heap.size < w6.heap.size := oc.lt
 have zz6 := B.size
 go_wp2_with fail
 refine (CA _ _ (kk.trans keepsB) (HL2.out.steps belowB)).mono ?_
 rintro e w7 ⟨vu, rfl, hvu, hb7⟩
 have st : Steps _ w7 := hb7
 have sk : Below w6.heap.size w6 w7 := belowA st
 replace B := below_steps B (Nat.le_refl _) sk
 have od : Blk w7 (w6.heap.size) 27 #[.bool d1, .slice d2 d3 d4, .bool d5, .slice d6 d7 d8] := Blk.stepsK st
 replace ok := ok.steps sk
 replace oa := oa.steps sk
 replace ob := ob.steps sk
 replace oc := oc.steps sk
 replace HL2 := Hid.mk_ (HL2.out.steps sk)
 replace HW := Hid.mk_ (HW.out.steps sk)
 replace Fa := Hid.mk_ (Fa.out.steps sk)
 replace Fb := Hid.mk_ (Fb.out.steps sk)
 replace Fc := Hid.mk_ (Fc.out.steps sk)
 replace Fd := Hid.mk_ (Fd.out.steps sk)
 replace kk := kk.then_ sk
 clear st sk ck0 ck1 ck2 ck3 lk
 obtain ⟨ck0, ck1, ck2, ck3⟩ := ok.r3
 have lk := ok.lt
 obtain ⟨ua, uc, rfl⟩ := hvu.shape
 have Fu := Hid.mk_ hvu
 clear hvu
 go_wp2_with fail
 refine (CB _ _ (kk.trans keepsB) (HW.out.steps belowB)).mono ?_
 rintro e w8 ⟨vz, rfl, hvz, hb8⟩
 have st : Steps _ w8 := hb8
 have sk : Below w7.heap.size w7 w8 := belowA st
 replace B := below_steps B (Nat.le_refl _) sk
 replace ok := ok.steps sk
 replace oa := oa.steps sk
 replace ob := ob.steps sk
 replace oc := oc.steps sk
 replace od := od.steps sk
 replace HL2 := Hid.mk_ (HL2.out.steps sk)
 replace HW := Hid.mk_ (HW.out.steps sk)
 replace Fa := Hid.mk_ (Fa.out.steps sk)
 replace Fb := Hid.mk_ (Fb.out.steps sk)
 replace Fc := Hid.mk_ (Fc.out.steps sk)
 replace Fd := Hid.mk_ (Fd.out.steps sk)
 replace Fu := Hid.mk_ (Fu.out.steps sk)
 replace kk := kk.then_ sk
 clear st sk ck0 ck1 ck2 ck3 lk
 obtain ⟨ck0, ck1, ck2, ck3⟩ := ok.r3
 have lk := ok.lt
 obtain ⟨za, zc, rfl⟩ := hvz.shape
 have Fz := Hid.mk_ hvz
 clear hvz
 go_wp2_with fail
 refine (TA _ _ (kk.trans keepsB) (HL2.out.steps belowB)).mono ?_
 rintro e w9 ⟨vx, rfl, hvx, hb9⟩
 have st : Steps _ w9 := hb9
 have sk : Below w8.heap.size w8 w9 := belowA st
 replace B := below_steps B (Nat.le_refl _) sk
 replace ok := ok.steps sk
 replace oa := oa.steps sk
 replace ob := ob.steps sk
 replace oc := oc.steps sk
 replace od := od.steps sk
 replace HL2 := Hid.mk_ (HL2.out.steps sk)
 replace HW := Hid.mk_ (HW.out.steps sk)
 replace Fa := Hid.mk_ (Fa.out.steps sk)
 replace Fb := Hid.mk_ (Fb.out.steps sk)
 replace Fc := Hid.mk_ (Fc.out.steps sk)
 replace Fd := Hid.mk_ (Fd.out.steps sk)
 replace Fu := Hid.mk_ (Fu.out.steps sk)
 replace Fz := Hid.mk_ (Fz.out.steps sk)
 replace kk := kk.then_ sk
 clear st sk ck0 ck1 ck2 ck3 lk
 obtain ⟨ck0, ck1, ck2, ck3⟩ := ok.r3
 have lk := ok.lt
 obtain ⟨x1, x2, x3, x4, x5, x6, x7, x8, rfl⟩ := FE.shape hvx
 have Fx := Hid.mk_ hvx
 clear hvx
 have zd_9 : w6.heap.size < w9.heap.size := od.lt
 have zz9 := B.size
 go_wp2_with fail
 refine (TB _ _ (kk.trans keepsB) (HW.out.steps belowB)).mono ?_
 rintro e w10 ⟨vy, rfl, hvy, hb10⟩
 have st : Steps _ w10 := hb10
 have sk : Below w9.heap.size w9 w10 := belowA st
 replace B := below_steps B (Nat.le_refl _) sk
 have ox : Blk w10 (w9.heap.size) 27 #[.bool x1, .slice x2 x3 x4, .bool x5, .slice x6 x7 x8] := Blk.stepsK st
 replace ok := ok.steps sk
 replace oa := oa.steps sk
 replace ob := ob.steps sk
 replace oc := oc.steps sk
 replace od := od.steps sk
 replace HL2 := Hid.mk_ (HL2.out.steps sk)
 replace HW := Hid.mk_ (HW.out.steps sk)
 replace Fa := Hid.mk_ (Fa.out.steps sk)
 replace Fb := Hid.mk_ (Fb.out.steps sk)
 replace Fc := Hid.mk_ (Fc.out.steps sk)
 replace Fd := Hid.mk_ (Fd.out.steps sk)
 replace Fu := Hid.mk_ (Fu.out.steps sk)
 replace Fz := Hid.mk_ (Fz.out.steps sk)
 replace Fx := Hid.mk_ (Fx.out.steps sk)
 replace kk := kk.then_ sk
 clear st sk ck0 ck1 ck2 ck3 lk
 obtain ⟨ca0, ca1, ca2, ca3⟩ := oa.r3
 have la := oa.lt
 obtain ⟨cb0, cb1, cb2, cb3⟩ := ob.r3
 have lb := ob.lt
 obtain ⟨y1, y2, y3, y4, y5, y6, y7, y8, rfl⟩ := FE.shape hvy
 have Fy := Hid.mk_ hvy
 clear hvy
 have zx_10 : w9.heap.size < w10.heap.size := ox.lt
 have zz10 := B.size
 go_wp2_with fail
 refine (psame _ (Fa.out.steps belowB) (Fb.out.steps belowB)).mono ?_
 rintro e w11 ⟨rfl, hb11⟩
 have st : Steps _ w11 := hb11
 have sk : Below w10.heap.size w10 w11 := belowA st
 replace B := below_steps B (Nat.le_refl _) sk
 have oy : Blk w11 (w10.heap.size) 27 #[.bool y1, .slice y2 y3 y4, .bool y5, .slice y6 y7 y8] := Blk.stepsK st
 replace ok := ok.steps sk
 replace oa := oa.steps sk
 replace ob := ob.steps sk
 replace oc := oc.steps sk
 replace od := od.steps sk
 replace ox := ox.steps sk
 replace HL2 := Hid.mk_ (HL2.out.steps sk)
 replace HW := Hid.mk_ (HW.out.steps sk)
 replace Fa := Hid.mk_ (Fa.out.steps sk)
 replace Fb := Hid.mk_ (Fb.out.steps sk)
 replace Fc := Hid.mk_ (Fc.out.steps sk)
 replace Fd := Hid.mk_ (Fd.out.steps sk)
 replace Fu := Hid.mk_ (Fu.out.steps sk)
 replace Fz := Hid.mk_ (Fz.out.steps sk)
 replace Fx := Hid.mk_ (Fx.out.steps sk)
 replace Fy := Hid.mk_ (Fy.out.steps sk)
 replace kk := kk.then_ sk
 clear st sk ca0 ca1 ca2 ca3 la cb0 cb1 cb2 cb3 lb
 obtain ⟨cc0, cc1, cc2, cc3⟩ := oc.r3
 have lc := oc.lt
 obtain ⟨cd0, cd1, cd2, cd3⟩ := od.r3
 have ld := od.lt
 go_wp2_with fail
 refine (psame _ (Fc.out.steps belowB) (Fd.out.steps belowB)).mono ?_
 rintro e w12 ⟨rfl, hb12⟩
 have st : Steps _ w12 := hb12
 have sk : Below w11.heap.size w11 w12 := belowA st
 replace B := below_steps B (Nat.le_refl _) sk
 replace ok := ok.steps sk
 replace oa := oa.steps sk
 replace ob := ob.steps sk
 replace oc := oc.steps sk
 replace od := od.steps sk
 replace ox := ox.steps sk
 replace oy := oy.steps sk
 replace HL2 := Hid.mk_ (HL2.out.steps sk)
 replace HW := Hid.mk_ (HW.out.steps sk)
 replace Fa := Hid.mk_ (Fa.out.steps sk)
 replace Fb := Hid.mk_ (Fb.out.steps sk)
 replace Fc := Hid.mk_ (Fc.out.steps sk)
 replace Fd := Hid.mk_ (Fd.out.steps sk)
 replace Fu := Hid.mk_ (Fu.out.steps sk)
 replace Fz := Hid.mk_ (Fz.out.steps sk)
 replace Fx := Hid.mk_ (Fx.out.steps sk)
 replace Fy := Hid.mk_ (Fy.out.steps sk)
 replace kk := kk.then_ sk
 clear st sk cc0 cc1 cc2 cc3 lc cd0 cd1 cd2 cd3 ld
 go_wp2_with fail
 refine (SI _ _ _ (Fu.out.steps belowB) (Fz.out.steps belowB)).mono ?_
 rintro e w13 ⟨rfl, hb13⟩
 have st : Steps _ w13 := hb13
 have sk : Below w12.heap.size w12 w13 := belowA st
 replace B := below_steps B (Nat.le_refl _) sk
 replace ok := ok.steps sk
 replace oa := oa.steps sk
 replace ob := ob.steps sk
 replace oc := oc.steps sk
 replace od := od.steps sk
 replace ox := ox.steps sk
 replace oy := oy.steps sk
 replace HL2 := Hid.mk_ (HL2.out.steps sk)
 replace HW := Hid.mk_ (HW.out.steps sk)
 replace Fa := Hid.mk_ (Fa.out.steps sk)
 replace Fb := Hid.mk_ (Fb.out.steps sk)
 replace Fc := Hid.mk_ (Fc.out.steps sk)
 replace Fd := Hid.mk_ (Fd.out.steps sk)
 replace Fu := Hid.mk_ (Fu.out.steps sk)
 replace Fz := Hid.mk_ (Fz.out.steps sk)
 replace Fx := Hid.mk_ (Fx.out.steps sk)
 replace Fy := Hid.mk_ (Fy.out.steps sk)
 replace kk := kk.then_ sk
 clear st sk
 obtain ⟨cx0, cx1, cx2, cx3⟩ := ox.r3
 have lx := ox.lt
 obtain ⟨cy0, cy1, cy2, cy3⟩ := oy.r3
 have ly := oy.lt
 go_wp2_with fail
 refine (psame _ (Fx.out.steps belowB) (Fy.out.steps belowB)).mono ?_
 rintro e w14 ⟨rfl, hb14⟩
 have st : Steps _ w14 := hb14
 have sk : Below w13.heap.size w13 w14 := belowA st
 replace B := below_steps B (Nat.le_refl _) sk
 replace ok := ok.steps sk
 replace oa := oa.steps sk
 replace ob := ob.steps sk
 replace oc := oc.steps sk
 replace od := od.steps sk
 replace ox := ox.steps sk
 replace oy := oy.steps sk
 replace HL2 := Hid.mk_ (HL2.out.steps sk)
 replace HW := Hid.mk_ (HW.out.steps sk)
 replace Fa := Hid.mk_ (Fa.out.steps sk)
 replace Fb := Hid.mk_ (Fb.out.steps sk)
 replace Fc := Hid.mk_ (Fc.out.steps sk)
 replace Fd := Hid.mk_ (Fd.out.steps sk)
 replace Fu := Hid.mk_ (Fu.out.steps sk)
 replace Fz := Hid.mk_ (Fz.out.steps sk)
 replace Fx := Hid.mk_ (Fx.out.steps sk)
 replace Fy := Hid.mk_ (Fy.out.steps sk)
 replace kk := kk.then_ sk
 clear st sk cx0 cx1 cx2 cx3 lx cy0 cy1 cy2 cy3 ly
 go_wp2_with fail
 have kk0 := kk
 clear MA MB VA VB CA CB TA TB SI kk kk0
 go_loopw [24] (fun sl0 wr => ∃ (i : Nat), i ≤ N ∧ sl0 = .int .i64 i ∧ Below w2.heap.size w2 wr) (fun sl0 _ => N - (intOf sl0).toNat)
 case atStart => exact ⟨0, by omega, rfl, belowB⟩
 case round =>
  obtain ⟨i, hi, rfl, Br⟩ := hrel
  rcases Nat.lt_or_ge i N with i4 | i4
  ·
   have hlt : decide ((i : Int) < (N : Int)) = true := decide_eq_true (by omega)
   obtain ⟨b, of, rfl, hb, hx0⟩ := HL0.out.at' (t := i) (by have := HN.out; omega)
   obtain ⟨b', of', rfl, hb', hx1⟩ := HW0.out.at' (t := i) (by have := HN.out; omega)
   obtain ⟨x, hx⟩ : ∃ x, l.getD i 0 = x := ⟨_, rfl⟩
   rw [hx] at hx0 hx1
   have exx : (x != x) = false := by simp
   clear hx
   repeat' (first | go_values | go_skip | go_guarded | go_step | go_upon)
   refine Reg.wp_chain (fun D v W => Below wr.heap.size wr W ∧ True) (Reg.inl []) (Reg.gv []) Reg.None_ (fun _ => Reg.Any) (fun _ _ => False) (Reg.pl []) (Reg.pl [])
    (by kernel_rfl) (by kernel_rfl) (by kernel_rfl) (Reg.gv_some _ (by intro p hp; cases hp)) (fun _ => ⟨belowB, trivial⟩) (fun _ _ _ _ _ h => h) (fun _ _ _ _ _ _ _ _ _ _ _ _ _ => Reg.none_) (fun _ _ _ _ h => h.elim) (fun ops' Q' hops hQ => ?_)
   apply Reg.RP rfl rfl rfl 150 rfl rfl
   ·
    intro D v W hc hj hf K' hK'
    go_step
    exact hK'.out
   · rfl
   apply Reg.RP rfl rfl rfl 151 rfl rfl
   ·
    intro D v W hc hj hf K' hK'
    go_step
    exact hK'.out
   · rfl
   apply Reg.RP rfl rfl rfl 152 rfl rfl
   ·
    intro D v W hc hj hf K' hK'
    go_step
    exact hK'.out
   · rfl
   apply Reg.RP rfl rfl rfl 153 rfl rfl
   ·
    intro D v W hc hj hf K' hK'
    obtain ⟨j0, _⟩ := hj
    have c0 : W.cell? ⟨b, of + i, none⟩ = some (.int .i64 x) := ((below_steps Br (Nat.le_refl _) j0).cell (p := ⟨b, _, none⟩) hb).trans hx0
    go_step
    exact hK'.out
   · rfl
   apply Reg.RP rfl rfl rfl 154 rfl rfl
   ·
    intro D v W hc hj hf K' hK'
    go_step
    exact hK'.out
   · rfl
   apply Reg.RP rfl rfl rfl 155 rfl rfl
   ·
    intro D v W hc hj hf K' hK'
    go_step
    exact hK'.out
   · rfl
   apply Reg.RP rfl rfl rfl 156 rfl rfl
   ·
    intro D v W hc hj hf K' hK'
    go_step
    exact hK'.out
   · rfl
   apply Reg.RP rfl rfl rfl 157 rfl rfl
   ·
    intro D v W hc hj hf K' hK'
    obtain ⟨j0, _⟩ := hj
    have c0 : W.cell? ⟨b', of' + i, none⟩ = some (.int .i64 x) := ((below_steps Br (Nat.le_refl _) j0).cell (p := ⟨b', _, none⟩) hb').trans hx1
    go_step
    exact hK'.out
   · rfl
   apply Reg.RP rfl rfl rfl 158 rfl rfl
   ·
    intro D v W hc hj hf K' hK'
    go_step
    exact hK'.out
   · rfl
   refine Reg.RC_end (fun D v w99 hd hj hf => ?_)
   obtain ⟨j0, _⟩ := hj
   have st9 := j0
   clear hd hf j0
   refine hQ _ _ ?_
   clear hQ hops Q' ops'
   have B6 := below_steps Br (Nat.le_refl _) st9
   clear st9
   go_wp2_with fail
   go_roundw
   case rel => exact ⟨i + 1, by omega, by go_num, B6⟩
   case measure => simp [intOf]; omega
  ·
   obtain rfl : i = N := by omega
   have hlt : decide ((i : Int) < (i : Int)) = false := decide_eq_false (by omega)
   go_wp2_with fail
   go_returns
   exact ⟨rfl, below_steps BASE.out (Nat.le_refl _) Br⟩
theorem means_walk {vl : Value} {l : List Int} {k1 k5 : Bool} {k2 k6 : Option Addr} {p k4 p' k8 : Nat} {o : Option Rat} (w : World) (hl : IntsR w vl l) (hk : FB w (.agg #[.bool k1, .slice k2 p k4, .bool k5, .slice k6 p' k8]) o) (ho : ∀ z, o = some z → absN z.num ≤ bp p ∧ (z.den : Int) ≤ bp p') :
  Calls Tryz.prog 3 #[vl, .agg #[.bool k1, .slice k2 p k4, .bool k5, .slice k6 p' k8]] w fun e w' => e = .returned (.bool true) ∧ Steps w w' := by
 cases h : grB l.length with
 | true => exact means_bad w hl hk ho (.inl h)
 | false =>
  by_cases h1 : p ≤ 4
  ·
   by_cases h2 : p' ≤ 4
   · exact means_ok w hl hk ho h h1 h2
   · exact means_bad w hl hk ho (.inr ⟨h, .inr ⟨h1, by omega⟩⟩)
  · exact means_bad w hl hk ho (.inr ⟨h, .inl (by omega)⟩)
end Go.Proofs.YtmpambmpknaldaaGreat
