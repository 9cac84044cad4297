import Derived.Sort.CutIn
import Derived.Test.YtibdehlmflaodaaGreatNQg
import Derived.Test.YtibdehlmflaodaaGreatNRow
set_option linter.unusedVariables false
set_option linter.unusedSimpArgs false
namespace Go.Proofs.YtibdehlmflaodaaGreat
open Go.RowKit Go.Shelf
theorem run_store_func {P : Program} {w : World} {a : Addr} {m : Mode} (f : Fn) (ts vs : _) : (store a (.func f ts vs) m).run P w = stored P w a (.func f ts vs) m := run_store P w a _ m rfl
attribute [local go_sem] Oper.semAt_some run_store_func
theorem arr4_ok {p q r s : Int × Int} (k0 k1 k2 k3 : Nat) (h0 : okp p.1 p.2) (h1 : okp q.1 q.2) (h2 : okp r.1 r.2) (h3 : okp s.1 s.2) : okA (arr4 k0 k1 k2 k3 p q r s) := by
 have a := sm_mul (okp_sm h2 h0) (okp_sm h1 h0)
 have b := sm_mul (okp_sm h3 h0) (okp_sm h1 h0)
 unfold okA arr4 cre
 dsimp only
 omega
theorem qarrOf {v : Value} {l : PL} {K : Nat → Nat} (x : P4) (w : World) (h : Pts w v l) (hk : ∀ i, K i < l.length) (hp : ∀ i, okp (pt l (K i)).1 (pt l (K i)).2) :
  Calls Tryz.prog 37 #[v, ordV K x] w fun e w' => e = .returned (.agg (arrC (arrOf l K x))) ∧ Steps w w' :=
 qarrange (K x.1) (K x.2.1) (K x.2.2.1) (K x.2.2.2) (pt l (K x.1)).1 (pt l (K x.1)).2 (pt l (K x.2.1)).1 (pt l (K x.2.1)).2 (pt l (K x.2.2.1)).1 (pt l (K x.2.2.1)).2 (pt l (K x.2.2.2)).1 (pt l (K x.2.2.2)).2 w
  ⟨h, ⟨hk _, hk _, hk _, hk _⟩, rfl, rfl, rfl, rfl⟩ (hp _) (hp _) (hp _) (hp _)
theorem arrC_one (A : Arr) : (arrC A).all (·.oneCell') = true := by simp [arrC, Value.oneCell']
def bestP (l : PL) (K : Nat → Nat) (pre : List P4) : Arr := best (pre.map (arrOf l K))
theorem bestP_snoc (l : PL) (K : Nat → Nat) (pre : List P4) (x : P4) : bestP l K (pre ++ [x]) = if (arrOf l K x).beats (bestP l K pre) then arrOf l K x else bestP l K pre := by
 unfold bestP; rw [List.map_append]; exact best_append _ _
theorem bestP_ok {l : PL} {K : Nat → Nat} (hp : ∀ i, okp (pt l (K i)).1 (pt l (K i)).2) (pre : List P4) : okA (bestP l K pre) := by
 have key : ∀ r : List P4, okA (bestP l K r.reverse) := by
  intro r
  induction r with
  | nil => exact (show okA noArr from ⟨by decide, by decide, by decide, by decide⟩)
  | cons x r ih =>
   rw [List.reverse_cons, bestP_snoc]
   split
   · exact arr4_ok _ _ _ _ (hp _) (hp _) (hp _) (hp _)
   · exact ih
 have := key pre.reverse
 rwa [List.reverse_reverse] at this
set_option maxHeartbeats 6400000 in
set_option maxRecDepth 1000000 in
theorem qfirst0 {v : Value} {l : PL} (k0 k1 k2 k3 : Nat) (K : Nat → Nat) (hK : at4 k0 k1 k2 k3 = K) (w : World) (h : Pts w v l) (hk : ∀ i, K i < l.length) (hp : ∀ i, okp (pt l (K i)).1 (pt l (K i)).2) :
  Calls Tryz.prog 17 #[v, .agg #[.int .i64 k0, .int .i64 k1, .int .i64 k2, .int .i64 k3]] w fun e w' => e = .returned (.tuple #[.agg (arrC (bestP l K perms4)), .bool (decide (0 < (bestP l K perms4).n))]) ∧ Steps w w' := by
 have hro : Fence.wide.round = none := rfl
 have HP := Hid.mk_ h
 obtain ⟨ao, cap, rfl⟩ := h.shape
 clear h
 obtain ⟨len, hlen⟩ : ∃ n, l.length = n := ⟨_, rfl⟩
 rw [hlen] at HP ⊢
 refine (callsIn_wide (n := 3)).1 ?_
 refine callsIn_of_wp_marks Tryz.func17 rfl trivial ?_ hro
 simp only [Tryz.ntmps17, List.size_toArray, List.length_cons, List.length_nil, Nat.reduceAdd, Nat.reduceSub, Array.replicate_succ, Array.replicate_zero, List.push_toArray, List.append_toArray, List.nil_append, List.cons_append]
 gi_wp2_with (refine ⟨trivial, ?_⟩; gi_at_call 36; refine (orders_in Fence.wide 2 trivial hro _ _ _ _ _).mono ?_; rintro e w' ⟨rfl, rfl⟩)
 obtain ⟨W0, hW0⟩ : ∃ W0, (((((w.alloc (.cells #[.slice ao len cap] 24)).alloc (.cells #[.int .i64 k0, .int .i64 k1, .int .i64 k2, .int .i64 k3] 25)).alloc (.cells #[.int .i64 0, .int .i64 0, .int .i64 0, .int .i64 0, .int .i64 0, .int .i64 0, .int .i64 0, .int .i64 0, .int .i64 0] 57)).alloc (.cells #[.int .i64 0, .int .i64 0, .int .i64 0, .int .i64 0, .int .i64 0, .int .i64 0, .int .i64 0, .int .i64 0, .int .i64 0] 57)).alloc (.cells #[.func (.func 34) #[] #[.pointer (some ⟨w.heap.size + 1 + 1 + 1, 0, none⟩)]] 78)).alloc (.cells #[.int .i64 k0, .int .i64 k1, .int .i64 k2, .int .i64 k3] 25) = W0 := ⟨_, rfl⟩
 rw [hW0]
 have b0 : Blk W0 (w.heap.size) 24 #[.slice ao len cap] := by rw [← hW0]; exact ownK
 have b2 : Blk W0 (w.heap.size + 1 + 1) 57 #[.int .i64 0, .int .i64 0, .int .i64 0, .int .i64 0, .int .i64 0, .int .i64 0, .int .i64 0, .int .i64 0, .int .i64 0] := by rw [← hW0]; exact ownK
 have b3 : Blk W0 (w.heap.size + 1 + 1 + 1) 57 #[.int .i64 0, .int .i64 0, .int .i64 0, .int .i64 0, .int .i64 0, .int .i64 0, .int .i64 0, .int .i64 0, .int .i64 0] := by rw [← hW0]; exact ownK
 have b4 : Blk W0 (w.heap.size + 1 + 1 + 1 + 1) 78 #[.func (.func 34) #[] #[.pointer (some ⟨w.heap.size + 1 + 1 + 1, 0, none⟩)]] := by rw [← hW0]; exact ownK
 have b5 : Blk W0 (w.heap.size + 1 + 1 + 1 + 1 + 1) 25 #[.int .i64 k0, .int .i64 k1, .int .i64 k2, .int .i64 k3] := by rw [← hW0]; exact Blk.new' (by simp)
 have hB0 : Below w.heap.size w W0 := by rw [← hW0]; exact belowB
 have hs0 : W0.heap.size = w.heap.size + 1 + 1 + 1 + 1 + 1 + 1 := by rw [← hW0]; simp
 clear hW0
 have OS := orders_stops 2 (w.heap.size + 1 + 1 + 1 + 1 + 1) w.heap.size k0 k1 k2 k3 W0 b5
 rw [hK] at OS
 refine wpIn_rangeFunc_ownH hro (show 1 ≤ 3 by omega) (gf := 61) (lb := #[.pointer (some ⟨w.heap.size + 1 + 1 + 1 + 1 + 1, 0, none⟩)]) rfl trivial (enters_of Tryz.func61 (by kernel_rfl) rfl)
  OS KD.trans (KD_b (by omega) (by omega)) (Below.refl _ _) (fun _ => rfl)
  (fun (pre : List P4) W => (Blk W (w.heap.size) 24 #[.slice ao len cap] ∧ Blk W (w.heap.size + 1 + 1) 57 #[.int .i64 0, .int .i64 0, .int .i64 0, .int .i64 0, .int .i64 0, .int .i64 0, .int .i64 0, .int .i64 0, .int .i64 0] ∧ Blk W (w.heap.size + 1 + 1 + 1) 57 (arrC (bestP l K pre)) ∧ Blk W (w.heap.size + 1 + 1 + 1 + 1) 78 #[.func (.func 34) #[] #[.pointer (some ⟨w.heap.size + 1 + 1 + 1, 0, none⟩)]] ∧ Blk W (w.heap.size + 1 + 1 + 1 + 1 + 1) 25 #[.int .i64 k0, .int .i64 k1, .int .i64 k2, .int .i64 k3]) ∧ Below w.heap.size w W)
  (fun _ _ _ => False)
  (OwnFrom.and (Own.from (fun s A B row hs hg hr => ⟨blk_kept hs.1 hg hr, blk_kept hs.2.1 hg hr, blk_kept hs.2.2.1 hg hr, blk_kept hs.2.2.2.1 hg hr, blk_kept hs.2.2.2.2 hg hr⟩) _) (ownFrom_below (Nat.le_refl _) (by omega)))
  (fun _ _ _ _ _ hs _ _ => hs)
  ⟨⟨b0, b2, b3, b4, b5⟩, hB0⟩
  (fun (x : P4) a' W => ∃ p, a' = { tmps := #[.slice ao len cap, .agg #[.int .i64 k0, .int .i64 k1, .int .i64 k2, .int .i64 k3], .pointer (some ⟨w.heap.size, 0, none⟩), .pointer (some ⟨w.heap.size + 1, 0, none⟩), .pointer (some ⟨w.heap.size + 1 + 1, 0, none⟩), .bool false, .pointer (some ⟨w.heap.size + 1 + 1 + 1, 0, none⟩), .pointer (some ⟨w.heap.size + 1 + 1 + 1 + 1, 0, none⟩), .pointer (some ⟨p, 0, none⟩), undef, .func (.func 34) #[] #[.pointer (some ⟨w.heap.size + 1 + 1 + 1, 0, none⟩)], .agg #[.int .i64 k0, .int .i64 k1, .int .i64 k2, .int .i64 k3], .func (.func 61) #[] #[.pointer (some ⟨w.heap.size + 1 + 1 + 1 + 1 + 1, 0, none⟩)], .agg #[.int .i64 (K x.1 : Nat), .int .i64 (K x.2.1 : Nat), .int .i64 (K x.2.2.1 : Nat), .int .i64 (K x.2.2.2 : Nat)], undef, undef, undef, undef, undef, undef, undef, undef, undef, undef, undef], defers := [] } ∧ Blk W p 25 #[.int .i64 (K x.1 : Nat), .int .i64 (K x.2.1 : Nat), .int .i64 (K x.2.2.1 : Nat), .int .i64 (K x.2.2.2 : Nat)])
  (fun x a' s A B row hs hg hr => by obtain ⟨p, e, hb⟩ := hs; exact ⟨p, e, blk_kept hb hg (fun r e => (hr r e).2)⟩) ?assign ?body ?done ?stop
 case assign =>
  rintro l' pre x W K' ⟨⟨b0, b2, b3, b4, b5⟩, hB⟩ hK'
  have z5 := b5.lt
  have zB := hB.size
  unfold ordE ordV
  dsimp only
  generalize K x.1 = ka at hK' ⊢
  generalize K x.2.1 = kb at hK' ⊢
  generalize K x.2.2.1 = kc at hK' ⊢
  generalize K x.2.2.2 = kd at hK' ⊢
  gi_wp2
  have AL := Al.alloc (n₀ := w.heap.size) (Bs := w.heap.size + 1 + 1 + 1 + 1 + 1) (W := W) (.cells #[.int .i64 ka, .int .i64 kb, .int .i64 kc, .int .i64 kd] 25) zB z5
  exact hK' _ _ (AL.others.from _) AL.kd ⟨⟨ownK, ownK, ownK, ownK, ownK⟩, hB.trans AL.kd.1⟩ ⟨_, rfl, Blk.new _ _ _⟩
 case body =>
  rintro l' pre x a' W hl ⟨rec, hrec⟩ ⟨⟨b0, b2, b3, b4, b5⟩, hB⟩ ⟨p, rfl, bo⟩ _
  have hPt : Pts W (.slice ao len cap) l := HP.out.steps hB
  have z5 := b5.lt
  have zB := hB.size
  have HA : Hid (bestP l K (pre ++ [x]) = if (arrOf l K x).beats (bestP l K pre) then arrOf l K x else bestP l K pre) := bestP_snoc l K pre x
  have car := qarrOf (K := K) x W hPt hk hp
  have okx : okA (arrOf l K x) := arr4_ok _ _ _ _ (hp _) (hp _) (hp _) (hp _)
  have okb := bestP_ok hp pre
  obtain ⟨A, hA⟩ : ∃ A, arrOf l K x = A := ⟨_, rfl⟩
  obtain ⟨B, hBst⟩ : ∃ B, bestP l K pre = B := ⟨_, rfl⟩
  rw [hA] at car HA okx
  rw [hBst] at b3 HA okb
  unfold ordV at car
  generalize K x.1 = ka at *
  generalize K x.2.1 = kb at *
  generalize K x.2.2.1 = kc at *
  generalize K x.2.2.2 = kd at *
  clear hA hBst hPt hk hp hs0 hB0 OS
  have c00 : W.cell? ⟨w.heap.size, 0, none⟩ = some (.slice ao len cap) := b0.c 0 rfl
  have co0 : W.cell? ⟨p, 0, none⟩ = some (.int .i64 ka) := bo.c 0 rfl
  have co1 : W.cell? ⟨p, 1, none⟩ = some (.int .i64 kb) := bo.c 1 rfl
  have co2 : W.cell? ⟨p, 2, none⟩ = some (.int .i64 kc) := bo.c 2 rfl
  have co3 : W.cell? ⟨p, 3, none⟩ = some (.int .i64 kd) := bo.c 3 rfl
  gi_upto_region 5 with fail
  refine region_round (by kernel_rfl) ?_
  repeat' (first | go_values | go_skip | go_guarded | go_step | go_upon)
  refine car.mono ?_
  rintro e W1 ⟨rfl, st1⟩
  have al1 : Al w.heap.size (w.heap.size + 1 + 1 + 1 + 1 + 1) W W1 := Al.steps st1 zB z5
  replace b0 := b0.steps st1
  replace b2 := b2.steps st1
  replace b3 := b3.steps st1
  replace b4 := b4.steps st1
  replace b5 := b5.steps st1
  replace zB := Nat.le_trans zB st1.size
  clear c00 co0 co1 co2 co3 bo car z5 st1
  have z5 := b5.lt
  dsimp only
  repeat' (first | (refine store_big rfl 57 (.tmp 9) (.tmp 16) rfl (W1.heap.size) (arrC A) rfl rfl 57 #[.int .i64 0, .int .i64 0, .int .i64 0, .int .i64 0, .int .i64 0, .int .i64 0, .int .i64 0, .int .i64 0, .int .i64 0] ownK (by kernel_rfl) rfl (arrC_one A) (fun W2 r2 => ?_)) | go_values | go_skip | go_guarded | go_step | go_upon)
  have n5 : ∀ g, g ≤ w.heap.size + 1 + 1 + 1 + 1 + 1 → g ≠ W1.heap.size := fun g hg => by omega
  have al2 : Al w.heap.size (w.heap.size + 1 + 1 + 1 + 1 + 1) W W2 := (al1.trans (Al.alloc _ zB z5)).trans (Al.row r2 zB (n5 _ (Nat.le_refl _)))
  replace b0 := r2.far (b0.alloc _) (n5 _ (by omega))
  replace b2 := r2.far (b2.alloc _) (n5 _ (by omega))
  replace b3 := r2.far (b3.alloc _) (n5 _ (by omega))
  replace b4 := r2.far (b4.alloc _) (n5 _ (by omega))
  replace b5 := r2.far (b5.alloc _) (n5 _ (by omega))
  have ba := r2.blk
  have c40 : W2.cell? ⟨w.heap.size + 1 + 1 + 1 + 1, 0, none⟩ = some (.func (.func 34) #[] #[.pointer (some ⟨w.heap.size + 1 + 1 + 1, 0, none⟩)]) := b4.c 0 rfl
  have cb : Calls Tryz.prog 34 #[.agg (arrC A), .pointer (some ⟨w.heap.size + 1 + 1 + 1, 0, none⟩)] W2 fun e w2 => e = .returned (.bool (A.beats B)) ∧ Steps W2 w2 := qbetter A B _ W2 b3 okx okb
  replace zB := hB.size
  replace zB := Nat.le_trans zB al2.others.size
  have za := ba.lt
  clear al1 r2 z5 okx okb
  have z5 := b5.lt
  have n9 := n5 (w.heap.size + 1 + 1 + 1) (by omega)
  clear n5
  generalize W1.heap.size = pa at *
  dsimp only [strict, Act.put]
  gi_upto_region 6 with fail
  refine region_round (by kernel_rfl) ?_
  repeat' (first | (refine load_big rfl 57 (.tmp 9) rfl pa rfl 57 (arrC A) _ ba Tryz.underlying57 rfl (by kernel_rfl) ?_) | go_values | go_skip | go_guarded | go_step | go_upon)
  refine cb.mono ?_
  rintro e W3 ⟨rfl, st3⟩
  have al3 := al2.trans (Al.steps st3 zB z5)
  replace b0 := b0.steps st3
  replace b2 := b2.steps st3
  replace b3 := b3.steps st3
  replace b4 := b4.steps st3
  replace b5 := b5.steps st3
  replace ba := ba.steps st3
  clear c40 cb al2 st3 z5 za zB
  cases hb : A.beats B
  ·
   dsimp only
   repeat' (first | go_values | go_skip | go_guarded | go_step | go_upon)
   dsimp only [strict, Act.put]
   gi_wp2
   exact ⟨al3.others.from _, al3.kd, ⟨b0, b2, by rw [HA.out, if_neg (by rw [hb]; simp)]; exact b3, b4, b5⟩, hB.trans al3.kd.1⟩
  ·
   dsimp only
   repeat' (first | go_values | go_skip | go_guarded | go_step | go_upon)
   dsimp only [strict, Act.put]
   gi_upto_region 7 with fail
   refine region_round (by kernel_rfl) ?_
   repeat' (first | (refine load_big rfl 57 (.tmp 9) rfl pa rfl 57 (arrC A) _ ba Tryz.underlying57 rfl (by kernel_rfl) ?_) | (refine store_big rfl 57 (.tmp 6) (.tmp 20) rfl (w.heap.size + 1 + 1 + 1) (arrC A) rfl rfl 57 (arrC B) b3 (by kernel_rfl) rfl (arrC_one A) (fun W4 r4 => ?_)) | go_values | go_skip | go_guarded | go_step | go_upon)
   have al4 := al3.trans (Al.row r4 (by omega) (by omega))
   dsimp only [strict, Act.put]
   gi_wp2
   exact ⟨al4.others.from _, al4.kd, ⟨r4.far b0 (by omega), r4.far b2 (by omega), by rw [HA.out, if_pos hb]; exact r4.blk, r4.far b4 (by omega), r4.far b5 (by omega)⟩, hB.trans al4.kd.1⟩
 case done =>
  rintro Dk ys W hD rfl ⟨⟨b0, b2, b3, b4, b5⟩, hB⟩ hKd
  obtain ⟨C, hC⟩ : ∃ C, bestP l K perms4 = C := ⟨_, rfl⟩
  rw [hC] at b3
  have HC := Hid.mk_ hC
  clear hC b0 b4 b5
  gi_upto_region 8 with fail
  refine wpIn_wide.2 ?_
  refine Reg.wp_chain (fun D _ W' => Below w.heap.size w W' ∧ Blk W' (w.heap.size + 1 + 1 + 1) 57 (arrC C) ∧ (D 4 = false → Blk W' (w.heap.size + 1 + 1) 57 #[.int .i64 0, .int .i64 0, .int .i64 0, .int .i64 0, .int .i64 0, .int .i64 0, .int .i64 0, .int .i64 0, .int .i64 0]) ∧ (D 4 = true → Blk W' (w.heap.size + 1 + 1) 57 (arrC C)) ∧ W'.heap[Dk]? = some (.deferred (some [])))
   (Reg.inl [4]) (Reg.ge []) Reg.None_ (fun _ => Reg.Any) (fun _ _ => False) (Reg.pl []) (Reg.pl [])
   (by kernel_rfl) (by kernel_rfl) (by kernel_rfl) (Reg.ge_some _) (fun v => ⟨hB.drew, b3.drew, fun _ => b2.drew, (fun h => by cases h), hKd⟩) (fun _ _ _ _ _ h => h) (fun _ _ _ _ _ _ _ _ _ _ _ _ _ => Reg.none_) (fun _ _ _ _ h => h.elim) (fun ops' Q' hops hQ => ?_)
  apply Reg.RP rfl rfl rfl 21 rfl rfl
  ·
   intro D v' W' hc hj hf K' hK'
   obtain ⟨j0, j3, -, -, -⟩ := hj
   exact wp_load_row 57 (.tmp 6) rfl (w.heap.size + 1 + 1 + 1) rfl 57 (arrC C) (0, 0) _ j3 Tryz.underlying57 rfl (by kernel_rfl) hK'.out
  · rfl
  apply Reg.RP rfl rfl rfl 22 rfl rfl
  ·
   intro D v' W' hc hj hf K' hK'
   go_step
   exact hK'.out
  · rfl
  apply Reg.RP rfl rfl rfl 23 rfl rfl
  ·
   intro D v' W' hc hj hf K' hK'
   obtain ⟨j0, j3, -, -, -⟩ := hj
   have c8 : W'.cell? ⟨w.heap.size + 1 + 1 + 1, 8, none⟩ = some (.int .i64 C.n) := j3.c 8 rfl
   go_step
   exact hK'.out
  · rfl
  apply Reg.RP rfl rfl rfl 24 rfl rfl
  ·
   intro D v' W' hc hj hf K' hK'
   go_step
   exact hK'.out
  · rfl
  refine Reg.RC_call rfl (by intro t ht; cases ht) rfl (fun D v' W' hc hj hf K' hK' => ?_) (fun _ _ => Reg.RC_at (b := ⟨#[_,_,_,_,_,_,_,_,_,_,_,_,_,_,_,_,_,_,_,_,_,_,_,_,_], _⟩) rfl ?_)
  ·
   obtain ⟨j0, j3, ja, -, jd⟩ := hj
   have r := RowTo.mk_ (cs := arrC C) (ja hc.1)
   refine wp_store_row 57 (.tmp 4) (.tmp 21) rfl (w.heap.size + 1 + 1) (arrC C) rfl rfl 57 #[.int .i64 0, .int .i64 0, .int .i64 0, .int .i64 0, .int .i64 0, .int .i64 0, .int .i64 0, .int .i64 0, .int .i64 0] (ja hc.1) (by kernel_rfl) rfl (arrC_one C) ?_
   exact hK'.out undef _ Reg.any ⟨r.below j0 (by omega), r.far j3 (by omega), (fun h => Bool.noConfusion h), fun _ => r.blk, (r.only.2 Dk (by omega)).trans jd⟩ Reg.none_ trivial
  apply Reg.RP rfl rfl rfl 5 rfl rfl
  ·
   intro D v' W' hc hj hf K' hK'
   go_step
   exact hK'.out
  · rfl
  refine Reg.RC_end (fun D v' W' hd hj hf => ?_)
  obtain ⟨j0, -, -, jb, jd⟩ := hj
  replace jb := jb (hd 4 (by decide))
  clear hd hf
  refine hQ _ _ ?_
  clear hQ hops Q' ops'
  gi_wp2
  refine ⟨by simp, .inl ⟨_, _, rfl, run_takeDeferred jd, ?_⟩⟩
  refine ⟨.tuple #[.agg (arrC C), .bool (decide (0 < C.n))], ?_, by rw [HC.out], j0.trans (belowK_b (w := w) (Nat.le_refl _) _ Dk _ _ (by omega) jd rfl rfl)⟩
  refine results_row2 (p := 4) (q := 5) (ty := 57) (t := 57) (cs := arrC C) rfl _ _ (w.heap.size + 1 + 1) ?_ ?_ Tryz.underlying57 rfl (by kernel_rfl)
  · rfl
  · exact blk_kept jb (grownBy_putObj' _ Dk (.deferred none)) (fun r e => by cases e; exact ⟨_, jd, rfl⟩)
 case stop => exact fun _ _ _ _ _ _ h _ => h.elim
theorem qfirst {v : Value} {l : PL} (k0 k1 k2 k3 : Nat) (w : World) (h : Pts w v l) (hk : ∀ i, at4 k0 k1 k2 k3 i < l.length) (hp : ∀ i, okp (pt l (at4 k0 k1 k2 k3 i)).1 (pt l (at4 k0 k1 k2 k3 i)).2) :
  Calls Tryz.prog 17 #[v, .agg #[.int .i64 k0, .int .i64 k1, .int .i64 k2, .int .i64 k3]] w fun e w' => e = .returned (.tuple #[.agg (arrC (bestOf l (at4 k0 k1 k2 k3))), .bool (decide (0 < (bestOf l (at4 k0 k1 k2 k3)).n))]) ∧ Steps w w' :=
 qfirst0 k0 k1 k2 k3 _ rfl w h hk hp
end Go.Proofs.YtibdehlmflaodaaGreat
