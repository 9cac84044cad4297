import Derived.Test.YtibdehlmflaodaaGreatNVh
import Derived.Test.YtibdehlmflaodaaGreatNFou
import Derived.Test.YtibdehlmflaodaaGreatNQi
set_option linter.unusedVariables false
set_option linter.unusedSimpArgs false
set_option maxHeartbeats 6400000
set_option maxRecDepth 1000000
namespace Go.Proofs.YtibdehlmflaodaaGreat
open Go.RowKit Go.Shelf
theorem run_min2 {P : Program} (ts : Array TypeId) (t : TypeId) (x y : Int) (w : World) : (Builtin.min_ ts t #[.int .i64 x, .int .i64 y]).run P w = .ok (.int .i64 (min x y)) w := by
 have e : min x y = if y < x then y else x := by split <;> omega
 rw [e]
 by_cases h1 : y < x <;> simp [Builtin.min_, Builtin.min2, go_sem, h1]
attribute [local go_sem] Oper.semAt_some
attribute [local go_sem high] run_min2
def AllP (w : World) (l : PL) (most : Int) (e : Ending) (w' : World) : Prop := ∃ u, e = .returned (.tuple #[u, .int .i64 (allS l most).1]) ∧ QAs w' u (allS l most).2 ∧ Steps w w'
theorem AllP.none {w w' : World} {l : PL} {most c : Int} (h : allS l most = (c, [])) (st : Steps w w') : AllP w l most (.returned (.tuple #[.slice none 0 0, .int .i64 c])) w' :=
 ⟨_, by rw [h], by rw [h]; exact QAs.nil w', st⟩
theorem qall_bad {v : Value} {l : PL} (most : Int) (w : World) (hv : Pts w v l) (hl : l.length ≤ 1000) (h : chkP l ≠ 0 ∨ most < 0 ∨ 12 < most) :
  Calls Tryz.prog 7 #[v, .int .i64 most] w (AllP w l most) := by
 have ck : ∀ w', Steps w w' → Calls Tryz.prog 16 #[v] w' fun e w2 => e = .returned (.int .i64 (chkP l)) ∧ Steps w' w2 := fun w' hs => qcheckP w' (hv.steps hs) hl
 obtain ⟨ao, cap, rfl⟩ := hv.shape
 have HS1 : chkP l ≠ 0 → Hid (allS l most = (chkP l, [])) := fun h => Hid.mk_ (by unfold allS; rw [if_pos h])
 have HS2 : chkP l = 0 → Hid (allS l most = (2, [])) := fun h0 => Hid.mk_ (by unfold allS; rw [if_neg (by rw [h0]; simp), if_pos (h.resolve_left (by rw [h0]; simp))])
 have h' : chkP l = 0 → most < 0 ∨ 12 < most := fun h0 => h.resolve_left (by rw [h0]; simp)
 generalize l.length = n at *
 obtain ⟨c, hcc⟩ : ∃ c, chkP l = c := ⟨_, rfl⟩
 rw [hcc] at ck HS1 HS2 h'
 clear hv hcc h
 go_enter Tryz.func7, Tryz.ntmps7
 go_wp2_with fail
 refine (ck _ belowB).mono ?_
 rintro e w1 ⟨rfl, hs1⟩
 have B : Below w.heap.size w w1 := belowA hs1
 have o4 : Blk w1 (w.heap.size + 1) 38 #[.slice none 0 0] := Blk.stepsK hs1
 have o5 : Blk w1 (w.heap.size + 1 + 1) 34 #[.int .i64 0] := Blk.stepsK hs1
 clear hs1 ck
 have c4 := o4.c 0 rfl
 have c5 := o5.c 0 rfl
 have f4 := o4.fr
 have f5 := o5.fr
 have l4 := o4.lt
 have l5 := o5.lt
 by_cases hc : c = 0
 ·
  have h2 := HS2 hc
  replace h' := h' hc
  clear HS1 HS2
  subst hc
  by_cases g1 : most < 0
  ·
   go_wp2_with fail
   refine bodyPost_ret (by simp [results, Tryz.results7, go_sem, c4, c5, f4, f5, l4, l5]; rfl) rfl ?_
   exact AllP.none h2.out belowB
  ·
   have g2 : 12 < most := h'.resolve_left g1
   go_wp2_with fail
   refine bodyPost_ret (by simp [results, Tryz.results7, go_sem, c4, c5, f4, f5, l4, l5]; rfl) rfl ?_
   exact AllP.none h2.out belowB
 ·
  have h1 := HS1 hc
  have hc' : (c == 0) = false := by simpa using hc
  clear HS1 HS2 h'
  go_wp2_with fail
  refine bodyPost_ret (by simp [results, Tryz.results7, go_sem, c4, c5, f4, f5, l4, l5]; rfl) rfl ?_
  exact AllP.none h1.out belowB
theorem KF.trans {Bs G : Nat} {A B C : World} (h : KF Bs G A B) (k : KF Bs G B C) : KF Bs G A C := ⟨k.1.trans h.1, k.2.trans h.2⟩
def NA (W : World) (G : Nat) : Prop := W.heap.size ≤ G ∨ ∃ t cs, Blk W G t cs ∧ noU32 cs = true
structure AK (Bs G : Nat) (W W' : World) : Prop where
 others : KeepsOthers W W'
 kf : KF Bs G W W'
theorem AK.trans {Bs G : Nat} {A B C : World} (h : AK Bs G A B) (k : AK Bs G B C) : AK Bs G A C := ⟨h.others.trans k.others, KF.trans h.kf k.kf⟩
theorem AK.steps {Bs G : Nat} {W W' : World} (h : Steps W W') (h0 : Bs < W.heap.size) (h1 : G < W.heap.size) : AK Bs G W W' :=
 ⟨⟨h.size, fun k o hk _ => (h.block k (Array.getElem?_eq_some_iff.1 hk).1).trans hk⟩, h.block _ h0, h.block _ h1⟩
theorem AK.alloc {Bs G : Nat} {W : World} (o : Obj) (h0 : Bs < W.heap.size) (h1 : G < W.heap.size) : AK Bs G W (W.alloc o) := AK.steps ((Below.refl _ _).alloc (Nat.le_refl _) o) h0 h1
theorem AK.row {Bs G g : Nat} {t : TypeId} {old cs : Array Value} {W W' : World} (h : RowTo g t old cs W W') (h0 : Bs ≠ g) (h1 : G ≠ g) : AK Bs G W W' := by
 refine ⟨⟨Nat.le_of_eq h.only.1.symm, fun k o hk hc => ?_⟩, h.only.2 _ h0, h.only.2 _ h1⟩
 rw [h.only.2 k (fun e => by subst e; rw [show W.heap[k]? = _ from h.was] at hk; cases hk; cases hc)]; exact hk
theorem Coll.cells {W : World} {base : Nat} {ow : Value} {qa : List Arr} (h : Coll W base ow qa) : ∀ g, ow.ownBlock = some g → ∃ cs t, W.heap[g]? = some (.cells cs t (0, 0)) := by
 obtain ⟨cs, h1, _⟩ := h
 intro g hg
 rcases h1.own.2 with ⟨rfl, _⟩ | ⟨g', cap, cur, rfl, hbg, hh, _⟩
 · cases hg
 · cases hg; exact ⟨_, _, hh⟩
theorem Coll.blk {w w' : World} {base b : Nat} {ow : Value} {qa : List Arr} {t : TypeId} {cs : Array Value} (h : Coll w base ow qa) (hg : w.grownBy w' ow.ownBlock) (hb : Blk w b t cs) (hlt : b < base) : Blk w' b t cs :=
 (hg.block b hb.lt fun e1 => by have := (h.lt b e1.symm).1; omega).trans hb
theorem Coll.below {w w' w0 : World} {base : Nat} {ow : Value} {qa : List Arr} (h : Coll w base ow qa) (hg : w.grownBy w' ow.ownBlock) (hb : Below w0.heap.size w0 w) (hle : w0.heap.size ≤ base) : Below w0.heap.size w0 w' :=
 hb.grown hg hb.size fun k hk => Nat.le_trans hle (h.lt k hk).1
theorem AK.grow {Bs G base : Nat} {W W' : World} {ow : Value} {qa : List Arr} (h : Coll W base ow qa) (hg : W.grownBy W' ow.ownBlock) (h0 : Bs < base) (h1 : G < base) (hB : Bs < W.heap.size) (hG : G < W.heap.size) : AK Bs G W W' := by
 refine ⟨KeepsOthers.of_grownBy hg fun j o ej hj => ?_, hg.block _ hB fun e => ?_, hg.block _ hG fun e => ?_⟩
 ·
  obtain ⟨cs, t, e⟩ := h.cells j ej
  rw [e] at hj; cases hj; rfl
 · have := (h.lt _ e.symm).1; omega
 · have := (h.lt _ e.symm).1; omega
theorem AK.cell {Bs G g i : Nat} {v : Value} {W : World} (h0 : Bs ≠ g) (h1 : G ≠ g) : AK Bs G W (W.setCell ⟨g, i, none⟩ v) :=
 ⟨KeepsOthers.setCell _ _ _, Below.heap_setCell _ _ _ _ h0, Below.heap_setCell _ _ _ _ h1⟩
theorem NA.alloc {W : World} {G : Nat} (h : NA W G) (o : Obj) (ho : W.heap.size = G → ∃ cs t, o = .cells cs t ∧ noU32 cs = true) : NA (W.alloc o) G := by
 rcases h with h | ⟨t, cs, h, hn⟩
 ·
  rcases Nat.lt_or_ge W.heap.size G with g | g
  · exact .inl (by rw [World.size_alloc]; omega)
  ·
   have e : W.heap.size = G := by omega
   obtain ⟨cs, t, rfl, hn⟩ := ho e
   exact .inr ⟨t, cs, Blk.new' e, hn⟩
 · exact .inr ⟨t, cs, h.alloc o, hn⟩
theorem NA.kept {W W' : World} {G : Nat} (h : NA W G) (k : W'.heap[G]? = W.heap[G]?) : NA W' G := by
 rcases h with h | ⟨t, cs, h, hn⟩
 ·
  left
  rw [Array.getElem?_eq_none h] at k
  exact Array.getElem?_eq_none_iff.1 k
 · exact .inr ⟨t, cs, k.trans h, hn⟩
theorem NA.set {W : World} {G i : Nat} {x : Int} (h : NA W G) : NA (W.setCell ⟨G, i, none⟩ (.int .i64 x)) G ∧ Keeps W (W.setCell ⟨G, i, none⟩ (.int .i64 x)) := by
 rcases h with h | ⟨t, cs, h, hn⟩
 ·
  have hs : (W.setCell ⟨G, i, none⟩ (.int .i64 x)).heap.size = W.heap.size := World.size_setCell ..
  refine ⟨.inl (by rw [hs]; exact h), fun v l hl => ?_⟩
  obtain ⟨h0, ao, cap, rfl, h1, h3, h2⟩ := hl
  refine ⟨h0, ao, cap, rfl, h1, h3, fun hne => ?_⟩
  obtain ⟨b, o, rfl, hb, hc⟩ := h2 hne
  refine ⟨b, o, rfl, by rw [hs]; exact hb, fun t ht => ?_⟩
  have e := Below.heap_setCell W ⟨G, i, none⟩ (.int .i64 x) b (show b ≠ G by omega)
  have := hc t ht
  unfold World.cell? at this ⊢
  rw [e]; exact this
 · exact ⟨.inr ⟨t, _, h.set_ i _, noU32_set hn rfl⟩, Keeps.only h hn ((Only.refl _ _).set)⟩
theorem qall_ok {v : Value} {l : PL} (most : Int) (w : World) (hv : Pts w v l) (hl : l.length ≤ 1000) (hc : chkP l = 0) (h0 : 0 ≤ most) (h1 : most ≤ 12) (h7 : (min most (l.length : Int)).toNat ≤ 7) :
  Calls Tryz.prog 7 #[v, .int .i64 most] w (AllP w l most) := by
 have hro : Fence.wide.round = none := rfl
 have ck : ∀ w', Steps w w' → Calls Tryz.prog 16 #[v] w' fun e w2 => e = .returned (.int .i64 0) ∧ Steps w' w2 := fun w' hs => by
  have := qcheckP w' (hv.steps hs) hl
  rwa [hc] at this
 have HS : Hid (allS l most = (0, qs l (fours (min most (l.length : Int)).toNat))) := Hid.mk_ (by unfold allS; rw [if_neg (by rw [hc]; simp), if_neg (by omega)])
 have HP := Hid.mk_ hv
 have Hck := Hid.mk_ hc
 obtain ⟨ao, cap, rfl⟩ := hv.shape
 obtain ⟨len, hlen⟩ : ∃ n, l.length = n := ⟨_, rfl⟩
 have HL := Hid.mk_ hlen
 rw [hlen] at HP HS h7 ck ⊢
 obtain ⟨n, hn⟩ : ∃ n, (min most (len : Int)).toNat = n := ⟨_, rfl⟩
 rw [hn] at HS h7
 have hmin : min most (len : Int) = (n : Int) := by omega
 have hnl : n ≤ len := by omega
 clear hv hlen hc hn
 have g1 : decide (most < 0) = false := decide_eq_false (by omega)
 have g2 : decide (12 < most) = false := decide_eq_false (by omega)
 refine (callsIn_wide (n := 3)).1 ?_
 refine callsIn_of_wp_marks Tryz.func7 rfl trivial ?_ hro
 simp only [Tryz.ntmps7, List.size_toArray, List.length_cons, List.length_nil, Nat.reduceAdd, Nat.reduceSub, Array.replicate_succ, Array.replicate_zero, List.push_toArray, List.append_toArray, List.nil_append, List.cons_append]
 gi_wp2_with fail
 refine ⟨trivial, ?_⟩
 gi_at_call 16
 refine (callsIn_wide (n := 2)).2 ?_
 refine (ck _ belowB).mono ?_
 rintro e w1 ⟨rfl, hs1⟩
 have B : Below w.heap.size w w1 := belowA hs1
 have o2 : Blk w1 (w.heap.size) 24 #[.slice ao len cap] := Blk.stepsK hs1
 have o4 : Blk w1 (w.heap.size + 1) 38 #[.slice none 0 0] := Blk.stepsK hs1
 have o5 : Blk w1 (w.heap.size + 1 + 1) 34 #[.int .i64 0] := Blk.stepsK hs1
 clear hs1 ck
 have c2 : World.cell? w1 ⟨w.heap.size, 0, none⟩ = _ := o2.c 0 rfl
 have l2 := o2.lt
 have f2 := o2.fr
 gi_wp2_with (refine ⟨trivial, ?_⟩; gi_at_call 20; refine (fours_in Fence.wide 2 trivial hro _ _).mono ?_; rintro e w' ⟨rfl, rfl⟩)
 obtain ⟨W0, hW0⟩ : ∃ W0, (w1.alloc (.cells #[.slice none 0 0] 38)).alloc (.cells #[.int .i64 (n : Nat)] 3) = W0 := ⟨_, rfl⟩
 rw [hW0]
 have zB := B.size
 have b2 : Blk W0 (w.heap.size) 24 #[.slice ao len cap] := by rw [← hW0]; exact ownK
 have b4 : Blk W0 (w.heap.size + 1) 38 #[.slice none 0 0] := by rw [← hW0]; exact ownK
 have b5 : Blk W0 (w.heap.size + 1 + 1) 34 #[.int .i64 0] := by rw [← hW0]; exact ownK
 have b7 : Blk W0 w1.heap.size 38 #[.slice none 0 0] := by rw [← hW0]; exact ownK
 have bn : Blk W0 (w1.heap.size + 1) 3 #[.int .i64 (n : Nat)] := by rw [← hW0]; exact Blk.new' (by simp)
 have hB0 : Below w.heap.size w W0 := by rw [← hW0]; exact belowB
 have hs0 : W0.heap.size = w1.heap.size + 2 := by rw [← hW0]; simp
 have l5 := o5.lt
 clear hW0 o2 o4 o5 c2 l2 f2 B
 have hG : W0.heap.size + 2 = w1.heap.size + 4 := by omega
 have hL : W0.heap.size + 1 = w1.heap.size + 3 := by omega
 refine range_priv hro (show 1 ≤ 3 by omega) (gf := 41) (lb := #[.pointer (some ⟨w1.heap.size + 1, 0, none⟩)]) rfl trivial (enters_of Tryz.func41 (by kernel_rfl) rfl)
  (Kp := KF (w1.heap.size + 1) (w1.heap.size + 4)) (S := fun xs => xs = fours n) (El := fun pre x => good4 n x = true ∧ pre.length < 36 ∧ pre = (fours n).take pre.length) (Pr := fun A => Blk A (w1.heap.size + 1) 3 #[.int .i64 (n : Nat)])
  (by rw [hG]; exact fours1_priv 2 (w1.heap.size + 1) (w1.heap.size + 4) n h7 (by omega)) (fun o o' => (bn.alloc o).alloc o') (fun _ => rfl) KF.trans
  (fun A o o' ho hc => ⟨World.putObj_heap_other (by omega), World.putObj_heap_other (by omega)⟩)
  (fun (pre : List P4) W => Blk W (w.heap.size) 24 #[.slice ao len cap] ∧ Blk W (w.heap.size + 1) 38 #[.slice none 0 0] ∧ Blk W (w.heap.size + 1 + 1) 34 #[.int .i64 0] ∧ (∃ ow, Blk W w1.heap.size 38 #[ow] ∧ Coll W (w1.heap.size + 5) ow (qs l pre)) ∧ Below w.heap.size w W ∧ NA W (w1.heap.size + 4))
  ⟨?al, ?dr, ?st⟩ ?io ?h0
  (fun (x : P4) a' W => ∃ p, a' = { tmps := #[.slice ao len cap, .int .i64 most, .pointer (some ⟨w.heap.size, 0, none⟩), undef, .pointer (some ⟨w.heap.size + 1, 0, none⟩), .pointer (some ⟨w.heap.size + 1 + 1, 0, none⟩), .int .i64 0, .pointer (some ⟨w1.heap.size, 0, none⟩), .pointer (some ⟨p, 0, none⟩), undef, undef, undef, undef, .slice ao len cap, .int .i64 0, .int .i64 0, .bool false, undef, .int .i64 most, .bool false, .bool false, .int .i64 most, .bool false, .bool false, .int .i64 most, .slice ao len cap, .int .i64 (len : Nat), .int .i64 (n : Nat), .func (.func 41) #[] #[.pointer (some ⟨w1.heap.size + 1, 0, none⟩)], .agg #[.int .i64 (x.1 : Nat), .int .i64 (x.2.1 : Nat), .int .i64 (x.2.2.1 : Nat), .int .i64 (x.2.2.2 : Nat)], undef, undef, undef, undef, undef, undef, undef, undef, undef, undef, undef, undef, undef, undef, undef, undef, undef, undef, undef, undef, undef], defers := [] } ∧ Blk W p 25 #[.int .i64 (x.1 : Nat), .int .i64 (x.2.1 : Nat), .int .i64 (x.2.2.1 : Nat), .int .i64 (x.2.2.2 : Nat)])
  ?ao ?assign ?body ?done
 case al =>
  rintro pre W o ho ⟨a2, a4, a5, ⟨ow, a7, hc⟩, hB, hN⟩
  rw [hG] at ho
  exact ⟨a2.alloc o, a4.alloc o, a5.alloc o, ⟨ow, a7.alloc o, hc.steps ((Below.refl _ _).alloc (Nat.le_refl _) o)⟩, hB.alloc hB.size o, hN.alloc o ho⟩
 case dr =>
  rintro pre W m ⟨a2, a4, a5, ⟨ow, a7, hc⟩, hB, hN⟩
  exact ⟨a2.drewN m, a4.drewN m, a5.drewN m, ⟨ow, a7.drewN m, hc.keep (fun _ _ => rfl) ((Keeps.refl _).drewN m)⟩, belowN hB m, hN.kept rfl⟩
 case st =>
  rintro pre W i x ⟨a2, a4, a5, ⟨ow, a7, hc⟩, hB, hN⟩
  rw [hG]
  exact ⟨a2.far' (by omega), a4.far' (by omega), a5.far' (by omega), ⟨ow, a7.far' (by omega), hc.keep (fun g hg => Below.heap_setCell _ _ _ g (show g ≠ w1.heap.size + 4 by have := (hc.lt g hg).1; omega)) (hN.set).2⟩, hB.setCell (p := ⟨w1.heap.size + 4, i, none⟩) (show w.heap.size ≤ w1.heap.size + 4 by omega) _, (hN.set).1⟩
 case io =>
  rintro pre W o o' ⟨a2, a4, a5, ⟨ow, a7, hc⟩, hB, hN⟩ ho hcl
  rw [hL] at ho ⊢
  have nb : ∀ g t cs, Blk W g t cs → g ≠ w1.heap.size + 3 := fun g t cs h e => by subst e; rw [show W.heap[w1.heap.size + 3]? = _ from h] at ho; cases ho; cases hcl
  have kp : Keeps W (W.putObj (w1.heap.size + 3) o') := fun v l h => lim_kept h (grownBy_putObj' W _ o') (fun r e => by cases e; exact ⟨o, ho, hcl⟩)
  refine ⟨?_, ?_, ?_, ⟨ow, ?_, hc.keep (fun g hg => World.putObj_heap_other (by have := (hc.lt g hg).1; omega)) kp⟩, ?_, hN.kept (World.putObj_heap_other (by omega))⟩
  · exact blk_kept a2 (grownBy_putObj' W _ o') (fun r e => by cases e; exact ⟨o, ho, hcl⟩)
  · exact blk_kept a4 (grownBy_putObj' W _ o') (fun r e => by cases e; exact ⟨o, ho, hcl⟩)
  · exact blk_kept a5 (grownBy_putObj' W _ o') (fun r e => by cases e; exact ⟨o, ho, hcl⟩)
  · exact blk_kept a7 (grownBy_putObj' W _ o') (fun r e => by cases e; exact ⟨o, ho, hcl⟩)
  · exact hB.grown (grownBy_putObj' W _ o') hB.size (fun k hk => by cases hk; omega)
 case h0 => exact ⟨b2, b4, b5, ⟨_, b7, Coll.nil _ _⟩, hB0, .inl (by omega)⟩
 case ao =>
  rintro x a' W o o' ⟨p, e, hb⟩ ho hcl
  exact ⟨p, e, blk_kept hb (grownBy_putObj' W _ o') (fun r e => by cases e; exact ⟨o, ho, hcl⟩)⟩
 case assign =>
  rintro pre x W K' ⟨a2, a4, a5, ⟨ow, a7, hc⟩, hB, hN⟩ hgs hK'
  have z := a7.lt
  unfold foursE foursV
  dsimp only
  generalize x.1 = ka at hK' ⊢
  generalize x.2.1 = kb at hK' ⊢
  generalize x.2.2.1 = kc at hK' ⊢
  generalize x.2.2.2 = kd at hK' ⊢
  gi_wp2
  have st : Steps W (W.alloc (.cells #[.int .i64 (ka : Nat), .int .i64 (kb : Nat), .int .i64 (kc : Nat), .int .i64 (kd : Nat)] 25)) := (Below.refl _ _).alloc (Nat.le_refl _) _
  exact hK' _ _ (KeepsOthers.alloc _ _) ⟨st.block _ (by omega), st.block _ (by omega)⟩ ⟨a2.alloc _, a4.alloc _, a5.alloc _, ⟨ow, a7.alloc _, hc.steps st⟩, hB.alloc hB.size _, hN.kept (st.block _ (by omega))⟩ ⟨_, rfl, Blk.new _ _ _⟩
 case body =>
  rintro pre x a' W ⟨rec, hrec⟩ ⟨a2, a4, a5, ⟨ow, a7, hc⟩, hB, hN⟩ ⟨p, rfl, bo⟩ ⟨hgood, hlen36, hpre⟩ hgs
  rw [hG] at hgs
  have hPt : Pts W (.slice ao len cap) l := HP.out.steps hB
  have hkl : ∀ i, K4 x i < l.length := K4_lt hgood (by have := HL.out; omega)
  have hpk : ∀ i, okp (pt l (K4 x i)).1 (pt l (K4 x i)).2 := fun i => chk_pts Hck.out _ (hkl i)
  have HA : Hid (qs l (pre ++ [x]) = if 0 < wid l (K4 x) then qs l pre ++ [bestOf l (K4 x)] else qs l pre) := Hid.mk_ (qs_snoc l pre x)
  have hlq : (qs l pre).length ≤ 100000 := by
   rw [hpre]
   have := qs_pref (l := l) n pre.length
   have := (it4_all n h7).1
   omega
  have cf : Calls Tryz.prog 17 #[.slice ao len cap, .agg #[.int .i64 (x.1 : Nat), .int .i64 (x.2.1 : Nat), .int .i64 (x.2.2.1 : Nat), .int .i64 (x.2.2.2 : Nat)]] W fun e w' => e = .returned (.tuple #[.agg (arrC (bestOf l (K4 x))), .bool (decide (0 < (bestOf l (K4 x)).n))]) ∧ Steps W w' := qfirst x.1 x.2.1 x.2.2.1 x.2.2.2 W hPt hkl hpk
  have hz : wid l (K4 x) = 0 → (bestOf l (K4 x)).n = 0 := fun h => by rw [bestOf_none _ _ h]; rfl
  have hp : 0 < wid l (K4 x) → 0 < (bestOf l (K4 x)).n ∧ NumOk (bestOf l (K4 x)) := fun h => ⟨by rw [(bestOf_spec l _ h).2.1]; exact h, bestOf_num hpk h⟩
  have hw := wid_nonneg l (K4 x)
  obtain ⟨A, hA⟩ : ∃ A, bestOf l (K4 x) = A := ⟨_, rfl⟩
  rw [hA] at cf HA hz hp
  obtain ⟨wd, hwd⟩ : ∃ z, wid l (K4 x) = z := ⟨_, rfl⟩
  rw [hwd] at HA hz hp hw
  generalize x.1 = ka at *
  generalize x.2.1 = kb at *
  generalize x.2.2.1 = kc at *
  generalize x.2.2.2 = kd at *
  clear hA hwd hPt hkl hpk hgood hpre hrec rec
  have l7 := a7.lt
  have zW := hB.size
  obtain ⟨oa, oc, rfl⟩ := hc.len
  have HC := Hid.mk_ hc
  clear hc
  have c20 : W.cell? ⟨w.heap.size, 0, none⟩ = some (.slice ao len cap) := a2.c 0 rfl
  have co0 : W.cell? ⟨p, 0, none⟩ = some (.int .i64 (ka : Nat)) := bo.c 0 rfl
  have co1 : W.cell? ⟨p, 1, none⟩ = some (.int .i64 (kb : Nat)) := bo.c 1 rfl
  have co2 : W.cell? ⟨p, 2, none⟩ = some (.int .i64 (kc : Nat)) := bo.c 2 rfl
  have co3 : W.cell? ⟨p, 3, none⟩ = some (.int .i64 (kd : Nat)) := bo.c 3 rfl
  gi_upto_region 9 with fail
  refine region_round (by kernel_rfl) ?_
  repeat' (first | go_values | go_skip | go_guarded | go_step | go_upon)
  refine cf.mono ?_
  rintro e W1 ⟨rfl, st1⟩
  have ak1 : AK (w1.heap.size + 1) (w1.heap.size + 4) W W1 := AK.steps st1 (by omega) (by omega)
  replace a2 := a2.steps st1
  replace a4 := a4.steps st1
  replace a5 := a5.steps st1
  replace a7 := a7.steps st1
  have B1 : Below w.heap.size w W1 := below_steps hB (Nat.le_refl _) st1
  have HC1 := Hid.mk_ (HC.out.steps st1)
  have N1 := hN.kept ak1.kf.2
  have g1' : w1.heap.size + 4 < W1.heap.size := Nat.lt_of_lt_of_le hgs st1.size
  clear c20 co0 co1 co2 co3 bo cf st1 HC hB l7
  have l7 := a7.lt
  dsimp only
  repeat' (first | ((with_reducible show wpList _ _ _ (⟨none, .store _ _ _, _, _, _, _⟩ :: _) _ _); refine store_big rfl 57 (.tmp 9) (.tmp 34) rfl W1.heap.size (arrC A) rfl rfl 57 #[.int .i64 0, .int .i64 0, .int .i64 0, .int .i64 0, .int .i64 0, .int .i64 0, .int .i64 0, .int .i64 0, .int .i64 0] ownK (by kernel_rfl) rfl (arrC_one A) (fun W2 r2 => ?_)) | go_values | go_skip | go_guarded | go_step | go_upon)
  have o9 := r2.blk
  have ak2 : AK (w1.heap.size + 1) (w1.heap.size + 4) W W2 := (ak1.trans (AK.alloc _ (by omega) (by omega))).trans (AK.row r2 (by omega) (by omega))
  replace a2 := r2.far (a2.alloc _) (by omega)
  replace a4 := r2.far (a4.alloc _) (by omega)
  replace a5 := r2.far (a5.alloc _) (by omega)
  replace a7 := r2.far (a7.alloc _) (by omega)
  have B2 : Below w.heap.size w W2 := r2.below (B1.alloc B1.size _) B1.size
  have HC2 := Hid.mk_ ((HC1.out.steps ((Below.refl _ _).alloc (Nat.le_refl _) _)).keep (fun g hg => r2.only.2 g (by have := (HC1.out.lt g hg).2; omega)) (r2.keeps rfl))
  have N2 := N1.kept (show W2.heap[w1.heap.size + 4]? = _ from ((AK.alloc (.cells #[.int .i64 0, .int .i64 0, .int .i64 0, .int .i64 0, .int .i64 0, .int .i64 0, .int .i64 0, .int .i64 0, .int .i64 0] 57) (by omega) (by omega)).trans (AK.row r2 (by omega) (by omega))).kf.2)
  have s2 : W2.heap.size = W1.heap.size + 1 := by rw [r2.only.1, World.size_alloc]
  have g2' : w1.heap.size + 4 < W2.heap.size := by omega
  clear ak1 r2 HC1 N1 B1
  dsimp only [strict, Act.put]
  generalize W1.heap.size = pa at *
  by_cases hd : 0 < wd
  ·
   obtain ⟨hpos, hnum⟩ := hp hd
   have HA2 : Hid (qs l (pre ++ [x]) = qs l pre ++ [A]) := Hid.mk_ (by rw [HA.out, if_pos hd])
   have hb1 : decide (0 < A.n) = true := decide_eq_true hpos
   have cq := qquadA A W2 hnum hpos
   have HPN := Hid.mk_ (And.intro hpos hnum)
   clear HA hz hp hpos hnum
   gi_upto_region 11 with fail
   refine region_round (by kernel_rfl) ?_
   repeat' (first | ((with_reducible show wpList _ _ _ (⟨some 39, _, _, _, _, _⟩ :: _) _ _); refine load_big rfl 57 (.tmp 9) rfl pa rfl 57 (arrC A) _ o9 Tryz.underlying57 rfl (by kernel_rfl) ?_) | go_values | go_skip | go_guarded | go_step | go_upon)
   refine cq.mono ?_
   rintro e W3 ⟨cs, rfl, hq3, ⟨hsz, hone⟩, st3⟩
   have ak3 := ak2.trans (AK.steps st3 (by omega) (by omega))
   replace a2 := a2.steps st3
   replace a4 := a4.steps st3
   replace a5 := a5.steps st3
   replace a7 := a7.steps st3
   have B3 : Below w.heap.size w W3 := below_steps B2 (Nat.le_refl _) st3
   have HC3 := Hid.mk_ (HC2.out.steps st3)
   have N3 := N2.kept (AK.steps st3 (Bs := w1.heap.size + 1) (G := w1.heap.size + 4) (by omega) (by omega)).kf.2
   have g3' : w1.heap.size + 4 < W3.heap.size := Nat.lt_of_lt_of_le g2' st3.size
   have hq : QF W3 cs (kA A) (rA A) := by
    obtain ⟨CA, e, qm⟩ := hq3.qm
    injection e with e
    subst e
    exact QM.qf HPN.out.1 HPN.out.2 qm
   have HQ3 := Hid.mk_ hq
   have ic : (Tryz.prog.info? 33).map (·.size) = some cs.size := by rw [hsz]; kernel_rfl
   clear hq hq3 cq st3 HC2 N2 B2 HPN o9 ak2 l7
   have l7 := a7.lt
   dsimp only
   repeat' (first | ((with_reducible show wpList _ _ _ (⟨none, .store _ _ _, _, _, _, _⟩ :: _) _ _); refine store_big rfl 33 (.tmp 11) (.tmp 41) rfl W3.heap.size cs rfl rfl 33 #[.int .i64 0, .int .i64 0, .int .i64 0, .int .i64 0, .bool false, .slice none 0 0, .bool false, .slice none 0 0, .bool false, .slice none 0 0, .bool false, .slice none 0 0, .bool false, .slice none 0 0, .bool false, .slice none 0 0, .bool false, .slice none 0 0, .bool false, .slice none 0 0] ownK ic hsz.symm hone (fun W4 r4 => ?_)) | go_values | go_skip | go_guarded | go_step | go_upon)
   have o11 := r4.blk
   have ak4 : AK (w1.heap.size + 1) (w1.heap.size + 4) W W4 := (ak3.trans (AK.alloc _ (by omega) (by omega))).trans (AK.row r4 (by omega) (by omega))
   replace a2 := r4.far (a2.alloc _) (by omega)
   replace a4 := r4.far (a4.alloc _) (by omega)
   replace a5 := r4.far (a5.alloc _) (by omega)
   replace a7 := r4.far (a7.alloc _) (by omega)
   have B4 : Below w.heap.size w W4 := r4.below (B3.alloc B3.size _) B3.size
   have k34 : Keeps W3 W4 := Keeps.trans keepsB (r4.keeps rfl)
   have HC4 := Hid.mk_ ((HC3.out.steps ((Below.refl _ _).alloc (Nat.le_refl _) _)).keep (fun g hg => r4.only.2 g (by have := (HC3.out.lt g hg).2; omega)) (r4.keeps rfl))
   have HQ4 := Hid.mk_ (HQ3.out.keeps k34)
   have N4 := N3.kept (show W4.heap[w1.heap.size + 4]? = _ from ((AK.alloc (.cells #[.int .i64 0, .int .i64 0, .int .i64 0, .int .i64 0, .bool false, .slice none 0 0, .bool false, .slice none 0 0, .bool false, .slice none 0 0, .bool false, .slice none 0 0, .bool false, .slice none 0 0, .bool false, .slice none 0 0, .bool false, .slice none 0 0, .bool false, .slice none 0 0] 33) (by omega) (by omega)).trans (AK.row r4 (by omega) (by omega))).kf.2)
   have s4 : W4.heap.size = W3.heap.size + 1 := by rw [r4.only.1, World.size_alloc]
   have g4' : w1.heap.size + 4 < W4.heap.size := by omega
   clear ak3 r4 HC3 N3 B3 HQ3 k34
   dsimp only [strict, Act.put]
   generalize W3.heap.size = pq at *
   have c7 : W4.cell? ⟨w1.heap.size, 0, none⟩ = some (.slice oa (qs l pre).length oc) := a7.c 0 rfl
   gi_upto_region 14 with fail
   refine region_round (by kernel_rfl) ?_
   repeat' (first | ((with_reducible show wpList _ _ _ (⟨some 47, _, _, _, _, _⟩ :: _) _ _); refine load_big rfl 33 (.tmp 11) rfl pq rfl 33 cs _ o11 Tryz.underlying33 rfl ic ?_) | ((with_reducible show wpList _ _ _ (⟨some 48, _, _, _, _, _⟩ :: _) _ _); refine quad1 rfl (.tmp 47) rfl cs rfl hsz ?_) | ((with_reducible show wpList _ _ _ (⟨some 49, _, _, _, _, _⟩ :: _) _ _); refine app_quad rfl (.tmp 46) (.tmp 48) rfl (w1.heap.size + 5) (.slice oa (qs l pre).length oc) (qs l pre) A cs rfl (HC4.out.steps ((Below.refl _ _).alloc (Nat.le_refl _) _)) W4.heap.size rfl (Blk.new _ _ _) (HQ4.out.keeps keepsB) hlq (by rw [World.size_alloc]; omega) (fun v' W5 hc5 hg5 k5 => ?_); obtain ⟨oa', oc', rfl⟩ := hc5.len; have a75 : Blk W5 w1.heap.size 38 #[.slice oa (qs l pre).length oc] := (hg5.block _ (a7.alloc _).lt (fun e => by have := (HC4.out.lt _ e.symm).1; omega)).trans (a7.alloc _); have c75 : W5.cell? ⟨w1.heap.size, 0, none⟩ = some (.slice oa (qs l pre).length oc) := a75.c 0 rfl; have f75 := a75.fr; have l75 := a75.lt) | go_values | go_skip | go_guarded | go_step | go_upon)
   dsimp only [strict, Act.put]
   gi_wp2
   have r4 := HC4.out.steps ((Below.refl W4.heap.size W4).alloc (Nat.le_refl _) (.cells cs 33))
   have akA : AK (w1.heap.size + 1) (w1.heap.size + 4) W4 (W4.alloc (.cells cs 33)) := AK.alloc _ (by omega) (by omega)
   have akB : AK (w1.heap.size + 1) (w1.heap.size + 4) (W4.alloc (.cells cs 33)) W5 := AK.grow r4 hg5 (by omega) (by omega) (by rw [World.size_alloc]; omega) (by rw [World.size_alloc]; omega)
   have akC : AK (w1.heap.size + 1) (w1.heap.size + 4) W5 (W5.setCell ⟨w1.heap.size, 0, none⟩ (.slice oa' ((qs l pre).length + 1) oc')) := AK.cell (by omega) (by omega)
   have ak5 := ((ak4.trans akA).trans akB).trans akC
   have d2 := r4.blk hg5 (a2.alloc _) (by omega)
   have d4 := r4.blk hg5 (a4.alloc _) (by omega)
   have d5 := r4.blk hg5 (a5.alloc _) (by omega)
   have B5 := r4.below hg5 (B4.alloc B4.size (.cells cs 33)) (by omega)
   refine ⟨ak5.others.from _, ak5.kf, d2.far' (by omega), d4.far' (by omega), d5.far' (by omega), ⟨_, a75.set_ 0 _, ?_⟩, B5.setCell (p := ⟨w1.heap.size, 0, none⟩) (show w.heap.size ≤ w1.heap.size by omega) _, ((N4.kept akA.kf.2).kept akB.kf.2).kept akC.kf.2⟩
   rw [HA2.out, show (qs l pre).length + 1 = (qs l pre ++ [A]).length by simp]
   exact hc5.keep (fun g hg => Below.heap_setCell _ _ _ g (show g ≠ w1.heap.size by have := (hc5.lt g hg).1; omega)) (Keeps.only a75 rfl ((Only.refl _ _).set))
  ·
   have h0 : wd = 0 := by omega
   have hn0 := hz h0
   have hb1 : decide (0 < A.n) = false := decide_eq_false (by omega)
   have HA2 : Hid (qs l (pre ++ [x]) = qs l pre) := Hid.mk_ (by rw [HA.out, if_neg hd])
   clear HA hz hp hn0
   gi_wp2
   exact ⟨ak2.others.from _, ak2.kf, a2, a4, a5, ⟨_, a7, by rw [HA2.out]; exact HC2.out⟩, B2, N2⟩
 case done =>
  rintro D xs W hD rfl ⟨a2, a4, a5, ⟨ow, a7, hc⟩, hB, hN⟩ hKd
  obtain ⟨oa, oc, rfl⟩ := hc.len
  have nD : ∀ g t cs, Blk W g t cs → g ≠ D := fun g t cs h e => by subst e; rw [show W.heap[g]? = _ from h] at hKd; cases hKd
  have n4 := nD _ _ _ a4
  have n5 := nD _ _ _ a5
  have c7 : W.cell? ⟨w1.heap.size, 0, none⟩ = _ := a7.c 0 rfl
  have c4 : W.cell? ⟨w.heap.size + 1, 0, none⟩ = _ := a4.c 0 rfl
  have c5 : W.cell? ⟨w.heap.size + 1 + 1, 0, none⟩ = _ := a5.c 0 rfl
  have l4 := a4.lt
  have l7 := a7.lt
  have f4 := a4.fr
  have f5 := a5.fr
  have f7 := a7.fr
  clear nD
  gi_wp2
  have d7 := a7.lt
  have e4 : Blk ((W.setCell ⟨w.heap.size + 1, 0, none⟩ (.slice oa (qs l (fours n)).length oc)).setCell ⟨w.heap.size + 1 + 1, 0, none⟩ (.int .i64 0)) (w.heap.size + 1) 38 #[.slice oa (qs l (fours n)).length oc] := (a4.set_ 0 _).far' (by omega)
  have e5 : Blk ((W.setCell ⟨w.heap.size + 1, 0, none⟩ (.slice oa (qs l (fours n)).length oc)).setCell ⟨w.heap.size + 1 + 1, 0, none⟩ (.int .i64 0)) (w.heap.size + 1 + 1) 34 #[.int .i64 0] := (a5.far' (by omega)).set_ 0 _
  have k1 : Keeps W (W.setCell ⟨w.heap.size + 1, 0, none⟩ (.slice oa (qs l (fours n)).length oc)) := Keeps.only a4 rfl ((Only.refl _ _).set)
  have k2 : Keeps (W.setCell ⟨w.heap.size + 1, 0, none⟩ (.slice oa (qs l (fours n)).length oc)) ((W.setCell ⟨w.heap.size + 1, 0, none⟩ (.slice oa (qs l (fours n)).length oc)).setCell ⟨w.heap.size + 1 + 1, 0, none⟩ (.int .i64 0)) := Keeps.only (a5.far' (by omega)) rfl ((Only.refl _ _).set)
  have hX : ∀ k, k ≠ w.heap.size + 1 → k ≠ w.heap.size + 1 + 1 → ((W.setCell ⟨w.heap.size + 1, 0, none⟩ (.slice oa (qs l (fours n)).length oc)).setCell ⟨w.heap.size + 1 + 1, 0, none⟩ (.int .i64 0)).heap[k]? = W.heap[k]? := fun k h1 h2 => (Below.heap_setCell _ ⟨w.heap.size + 1 + 1, 0, none⟩ _ k h2).trans (Below.heap_setCell _ ⟨w.heap.size + 1, 0, none⟩ _ k h1)
  have BX := (hB.setCell (p := ⟨w.heap.size + 1, 0, none⟩) (show w.heap.size ≤ w.heap.size + 1 by omega) (.slice oa (qs l (fours n)).length oc)).setCell (p := ⟨w.heap.size + 1 + 1, 0, none⟩) (show w.heap.size ≤ w.heap.size + 1 + 1 by omega) (.int .i64 0)
  have CX := hc.keep (fun g hg => hX g (by have := (hc.lt g hg).1; omega) (by have := (hc.lt g hg).1; omega)) (k1.trans k2)
  have jd := (hX D (Ne.symm n4) (Ne.symm n5)).trans hKd
  generalize (W.setCell ⟨w.heap.size + 1, 0, none⟩ (.slice oa (qs l (fours n)).length oc)).setCell ⟨w.heap.size + 1 + 1, 0, none⟩ (.int .i64 0) = X at e4 e5 BX CX jd ⊢
  clear hX k1 k2 c4 c5 c7 f4 f5 f7 l4 l7
  have rowD : ∀ r, some D = some r → ∃ o : Obj, X.heap[r]? = some o ∧ o.isCells = false := fun r e => by cases e; exact ⟨_, jd, rfl⟩
  have E4 := blk_kept e4 (grownBy_putObj' X D (.deferred none)) rowD
  have E5 := blk_kept e5 (grownBy_putObj' X D (.deferred none)) rowD
  have q4 : World.cell? (X.putObj D (.deferred none)) ⟨w.heap.size + 1, 0, none⟩ = _ := E4.c 0 rfl
  have q5 : World.cell? (X.putObj D (.deferred none)) ⟨w.heap.size + 1 + 1, 0, none⟩ = _ := E5.c 0 rfl
  refine ⟨by simp, .inl ⟨_, _, rfl, run_takeDeferred jd, ?_⟩⟩
  refine ⟨.tuple #[.slice oa (qs l (fours n)).length oc, .int .i64 0], ?_, ⟨_, by rw [HS.out], ?_, ?_⟩⟩
  · simp [results, Tryz.results7, go_sem, q4, q5]
  ·
   rw [HS.out]
   exact (CX.keep (fun g hg => World.putObj_heap_other (fun e => by subst e; obtain ⟨cs, t, h⟩ := CX.cells g hg; rw [h] at jd; cases jd)) (fun v l h => lim_kept h (grownBy_putObj' X D _) rowD)).qas
  · exact BX.grown (grownBy_putObj' X D _) BX.size (fun k hk => by cases hk; omega)
theorem qAll {v : Value} {l : PL} (most : Int) (w : World) (hv : Pts w v l) (hl : l.length ≤ 1000) (h7 : 0 ≤ most → most ≤ 12 → (min most (l.length : Int)).toNat ≤ 7) : Calls Tryz.prog 7 #[v, .int .i64 most] w (AllP w l most) := by
 by_cases h : chkP l ≠ 0 ∨ most < 0 ∨ 12 < most
 · exact qall_bad most w hv hl h
 ·
  have h1 : chkP l = 0 := by
   rcases Decidable.em (chkP l = 0) with g | g
   · exact g
   · exact absurd (.inl g) h
  have h2 : 0 ≤ most := by omega
  have h3 : most ≤ 12 := by omega
  exact qall_ok most w hv hl h1 h2 h3 (h7 h2 h3)
end Go.Proofs.YtibdehlmflaodaaGreat
