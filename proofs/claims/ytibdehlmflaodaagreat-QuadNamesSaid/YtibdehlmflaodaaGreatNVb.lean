import Derived.Test.YtibdehlmflaodaaGreatNVa
import Derived.Test.YtibdehlmflaodaaGreatNUc
set_option linter.unusedVariables false
set_option linter.unusedSimpArgs false
namespace Go.Proofs.YtibdehlmflaodaaGreat
open Go.RowKit
def QV (w : World) (cs : Array Value) (r : Nat → Rat) : Prop := cs.size = 20 ∧ cs.all (·.oneCell') = true ∧ noU32 cs = true ∧
 ∀ i, i < 4 → ∃ a1 a2 a3 a4 a5 a6 a7 a8, cs[4 + i * 4]? = some (.bool a1) ∧ cs[4 + i * 4 + 1]? = some (.slice a2 a3 a4) ∧ cs[4 + i * 4 + 2]? = some (.bool a5) ∧ cs[4 + i * 4 + 3]? = some (.slice a6 a7 a8) ∧ FR w (.agg #[.bool a1, .slice a2 a3 a4, .bool a5, .slice a6 a7 a8]) (r i)
theorem QV.keeps {w w' : World} {cs : Array Value} {r : Nat → Rat} (h : QV w cs r) (kp : Keeps w w') : QV w' cs r := by
 obtain ⟨h1, h2, h3, h4⟩ := h
 refine ⟨h1, h2, h3, fun i hi => ?_⟩
 obtain ⟨a1, a2, a3, a4, a5, a6, a7, a8, c0, c1, c2, c3, f⟩ := h4 i hi
 exact ⟨a1, a2, a3, a4, a5, a6, a7, a8, c0, c1, c2, c3, f.keeps kp⟩
theorem QX.qv {w : World} {cs : Array Value} {r : Nat → Option Rat} (h : QX w cs r) (hw : wholeQ r 4 = true) : QV w cs (rq r) := by
 obtain ⟨h1, h2, h3, h4⟩ := h
 refine ⟨h1, h2, h3, fun i hi => ?_⟩
 obtain ⟨a1, a2, a3, a4, a5, a6, a7, a8, c0, c1, c2, c3, f⟩ := h4 i hi
 obtain ⟨q, hq⟩ := wholeQ_get hw i hi
 refine ⟨a1, a2, a3, a4, a5, a6, a7, a8, c0, c1, c2, c3, ?_⟩
 unfold rq
 rw [hq] at f ⊢
 exact f
theorem near_no {a b : Nat → Rat} {off : Rat} {i : Nat} (hi : i < 4) (h : ¬ absQ (a i - b i) ≤ off) : nearQ a b off 4 = false :=
 nearQ_stay (i := i + 1) (by unfold nearQ; rw [decide_eq_false h, Bool.and_false]) 4 (by omega)
theorem near_yes {a b : Nat → Rat} {off : Rat} {i : Nat} (hn : nearQ a b off i = true) (h : absQ (a i - b i) ≤ off) : nearQ a b off (i + 1) = true := by
 unfold nearQ; rw [hn, decide_eq_true h]; rfl
set_option maxHeartbeats 6400000 in
set_option maxRecDepth 1000000 in
theorem qnear {CA CB : Array Value} {vf : Value} {ra rb : Nat → Rat} {off : Rat} (w : World) (ha : QV w CA ra) (hb : QV w CB rb) (hf : FR w vf off) (sa : ∀ i, i < 4 → sz (ra i) 500) (sb : ∀ i, i < 4 → sz (rb i) 500) (sf : sz off 500) :
  Calls Tryz.prog 23 #[.agg CA, .agg CB, vf] w fun e w' => e = .returned (.tuple #[.bool (nearQ ra rb off 4), .int .i64 0]) ∧ Steps w w' := by
 have HA := Hid.mk_ ha.2.2.2
 have HB := Hid.mk_ hb.2.2.2
 obtain ⟨t1, t2, t3, t4, t5, t6, t7, t8, rfl⟩ := hf.shape
 have HF := Hid.mk_ hf
 clear ha hb hf
 go_enter Tryz.func23, Tryz.ntmps23
 go_wp2_with fail
 go_loopw [12] (fun sl0 wr => ∃ i : Nat, i ≤ 4 ∧ sl0 = .int .i64 i ∧ nearQ ra rb off i = true ∧ Blk wr (w.heap.size) 33 CA ∧ Blk wr (w.heap.size + 1) 33 CB ∧ Blk wr (w.heap.size + 1 + 1) 30 #[.bool t1, .slice t2 t3 t4, .bool t5, .slice t6 t7 t8] ∧ Below w.heap.size w wr ∧ Keeps w wr) (fun sl0 _ => 4 - (intOf sl0).toNat)
 case atStart => exact ⟨0, by omega, rfl, rfl, ownK, ownK, ownK, belowB, keepsB⟩
 case round =>
  obtain ⟨i, hi, rfl, hn, oa, ob, oc, B, kk⟩ := hrel
  rcases Nat.lt_or_ge i 4 with i4 | i4
  ·
   have hlt : decide ((i : Int) < 4) = true := decide_eq_true (by omega)
   obtain ⟨a1, a2, a3, a4, a5, a6, a7, a8, ha0, ha1, ha2, ha3, fa⟩ := HA.out i i4
   obtain ⟨b1, b2, b3, b4, b5, b6, b7, b8, hb0, hb1, hb2, hb3, fb⟩ := HB.out i i4
   have sai := sa i i4
   have sbi := sb i i4
   have SB : ∀ w', Keeps w w' → Calls Tryz.prog 46 #[.agg #[.bool a1, .slice a2 a3 a4, .bool a5, .slice a6 a7 a8], .agg #[.bool b1, .slice b2 b3 b4, .bool b5, .slice b6 b7 b8]] w' fun e w2 => ∃ v, e = .returned (.tuple #[v, .int .i64 0]) ∧ FR w2 v (ra i - rb i) ∧ Steps w' w2 := fun w' k => fSubQ w' (fa.keeps k) (fb.keeps k) sai sbi (by omega)
   have NO := fun h => near_no (a := ra) (b := rb) (off := off) i4 h
   have YES := fun h => near_yes (a := ra) (b := rb) (off := off) hn h
   have CM : ∀ w' v, Keeps w w' → FR w' v (absQ (ra i - rb i)) → Calls Tryz.prog 47 #[v, .agg #[.bool t1, .slice t2 t3 t4, .bool t5, .slice t6 t7 t8]] w' fun e w2 => e = .returned (.tuple #[.int .i64 (cmpQ (absQ (ra i - rb i)) off), .int .i64 0]) ∧ Steps w' w2 := fun w' v k h => fCmpQ w' h (HF.out.keeps k) (sai.sub sbi).abs sf (by omega)
   have cle : ¬ 0 < cmpQ (absQ (ra i - rb i)) off ↔ absQ (ra i - rb i) ≤ off := by rw [cmpQ_gt, Rat.not_lt]
   obtain ⟨c, hc⟩ : ∃ c, cmpQ (absQ (ra i - rb i)) off = c := ⟨_, rfl⟩
   rw [hc] at CM cle
   rw [← cle] at NO YES
   clear hc cle hn fa fb sai sbi sa sb
   generalize ra i - rb i = df at SB CM
   have zc_0 : w.heap.size + 1 + 1 < wr.heap.size := oc.lt
   have zz0 := B.size
   go_upto_region 4 with fail
   refine Reg.wp_chain_n (fun N0 D v W => Below w.heap.size w W ∧ Keeps wr W ∧ N0 ≤ W.heap.size ∧ Blk W (w.heap.size) 33 CA ∧ Blk W (w.heap.size + 1) 33 CB ∧ Blk W (w.heap.size + 1 + 1) 30 #[.bool t1, .slice t2 t3 t4, .bool t5, .slice t6 t7 t8] ∧ (D 12 = true → ∃ g : Nat, v 12 = .pointer (some ⟨g, 0, none⟩) ∧ N0 ≤ g ∧ g < W.heap.size ∧ (D 13 = false → Blk W g 30 #[.bool false, .slice none 0 0, .bool false, .slice none 0 0]) ∧ (D 13 = true → D 8 = true ∧ ∃ cs, v 8 = .tuple #[.agg cs, .int .i64 0] ∧ Blk W g 30 cs)))
    (Reg.inl [8, 12, 13]) (Reg.gv [(8, IsFrE 0), (12, IsPtr)]) (gw [(8, GFrE (df) 0)]) (fun _ => Keeps) (fun _ _ => False) (Reg.pl [(13, [(8, some 24), (12, some 9)]), (15, [(8, some 24), (12, some 9)])]) (Reg.pl [(12, [13]), (8, [13])])
    (by kernel_rfl) (by kernel_rfl) (by kernel_rfl) (Reg.gvA _) (fun N0 hN0 => ⟨fun v => ?_, fun D v v' W hv hj => ?_, fun D v k j W W' x _ _ _ _ hk hg => gwA hk hg, fun _ _ _ _ h => h.elim, fun ops' Q' hops hQ => ?_⟩)
   · exact ⟨belowB, keepsB, Nat.le_of_eq hN0.out, ownK, ownK, ownK, (fun h => Bool.noConfusion h)⟩
   ·
    obtain ⟨j0, jk, jn, b_a, b_b, b_c, a_12⟩ := hj
    exact ⟨j0, jk, jn, b_a, b_b, b_c, fun h => by obtain ⟨g, e1, e2, e3, e4, e5⟩ := a_12 h; exact ⟨g, (hv 12 h) ▸ e1, e2, e3, e4, fun h => by obtain ⟨d, cs, e, hb⟩ := e5 h; exact ⟨d, cs, (hv 8 d) ▸ e, hb⟩⟩⟩
   have eN := hN0.out
   try simp only [World.size_alloc, World.size_setCell, World.size_drew, World.heap_drewN] at eN
   have i_a : w.heap.size < N0 := by first | omega | (have h := oa.lt; omega)
   have i_b : w.heap.size + 1 < N0 := by first | omega | (have h := ob.lt; omega)
   have i_c : w.heap.size + 1 + 1 < N0 := by first | omega | (have h := oc.lt; omega)
   have iw : w.heap.size ≤ N0 := by first | omega | (have h := B.size; omega)
   clear hN0 eN
   refine Reg.RP0 16 ?_
   refine Reg.RP0 17 ?_
   refine Reg.RP0 18 ?_
   apply Reg.RP rfl rfl rfl 19 rfl rfl
   ·
    intro D v' W' hc hj hf K hK
    obtain ⟨j0, jk, jn, b_a, b_b, b_c, a_12⟩ := hj
    have c0 : World.cell? W' ⟨w.heap.size, 4 + i * 4, none⟩ = _ := b_a.c _ ha0
    have c1 : World.cell? W' ⟨w.heap.size, 4 + i * 4 + 1, none⟩ = _ := b_a.c _ ha1
    have c2 : World.cell? W' ⟨w.heap.size, 4 + i * 4 + 2, none⟩ = _ := b_a.c _ ha2
    have c3 : World.cell? W' ⟨w.heap.size, 4 + i * 4 + 3, none⟩ = _ := b_a.c _ ha3
    go_step
    exact hK.out
   · rfl
   refine Reg.RP0 20 ?_
   refine Reg.RP0 21 ?_
   refine Reg.RP0 22 ?_
   apply Reg.RP rfl rfl rfl 23 rfl rfl
   ·
    intro D v' W' hc hj hf K hK
    obtain ⟨j0, jk, jn, b_a, b_b, b_c, a_12⟩ := hj
    have c0 : World.cell? W' ⟨w.heap.size + 1, 4 + i * 4, none⟩ = _ := b_b.c _ hb0
    have c1 : World.cell? W' ⟨w.heap.size + 1, 4 + i * 4 + 1, none⟩ = _ := b_b.c _ hb1
    have c2 : World.cell? W' ⟨w.heap.size + 1, 4 + i * 4 + 2, none⟩ = _ := b_b.c _ hb2
    have c3 : World.cell? W' ⟨w.heap.size + 1, 4 + i * 4 + 3, none⟩ = _ := b_b.c _ hb3
    go_step
    exact hK.out
   · rfl
   refine Reg.RC_call rfl (tlt rfl) rfl (fun D v' W' hc hj hf K hK => ?_) ?_
   ·
    obtain ⟨j0, jk, jn, b_a, b_b, b_c, a_12⟩ := hj
    clear hf
    go_step
    refine (SB W' (kk.trans jk)).mono ?_
    rintro e W2 ⟨u, rfl, hu, hs⟩
    obtain ⟨d1, d2, d3, d4, d5, d6, d7, d8, rfl⟩ := hu.shape
    exact hK.out _ W2 (Keeps.steps hs) ⟨jst j0 hs, jk.then_ hs, jsz jn hs, b_a.steps hs, b_b.steps hs, b_c.steps hs, fun h => by obtain ⟨g, e1, e2, e3, e4, e5⟩ := a_12 h; exact ⟨g, e1, e2, Nat.lt_of_lt_of_le e3 (hs).size, fun h => (e4 h).steps hs, fun h => Bool.noConfusion ((hc.2 13 (by decide)).symm.trans h)⟩⟩ ⟨_, rfl, hu⟩ ⟨_, _, _, _, _, _, _, _, rfl⟩
   rintro _ ⟨d1, d2, d3, d4, d5, d6, d7, d8, rfl⟩
   refine Reg.RC_at (b := ⟨#[_,_,_,_,_,_,_,_,_,_,_,_,_,_,_,_,_,_,_,_,_,_,_,_,_,_,_,_,_,_,_,_,_,_,_,_,_,_,_,_,_,_,_,_,_,_], _⟩) rfl ?_
   refine Reg.RP0 15 ?_
   refine Reg.RP0 25 ?_
   refine Reg.RP0 26 ?_
   refine Reg.RC_call rfl (tlt rfl) rfl (fun D v' W' hc hj hf K hK => ?_) ?_
   ·
    obtain ⟨j0, jk, jn, b_a, b_b, b_c, a_12⟩ := hj
    go_step
    have hs : ∀ o : Obj, Steps W' (W'.alloc o) := fun o => (Below.refl _ _).alloc (Nat.le_refl _) o
    exact hK.out _ _ (Keeps.steps (hs _)) ⟨jst j0 (hs _), jk.then_ (hs _), jsz jn (hs _), b_a.steps (hs _), b_b.steps (hs _), b_c.steps (hs _), fun _ => ⟨W'.heap.size, rfl, jn, by rw [World.size_alloc]; omega, fun _ => Blk.new _ _ _, fun h => Bool.noConfusion ((hc.2 13 (by decide)).symm.trans h)⟩⟩ trivial ⟨_, rfl⟩
   rintro _ ⟨p9, rfl⟩
   refine Reg.RC_at (b := ⟨#[_,_,_,_,_,_,_,_,_,_,_,_,_,_,_,_,_,_,_,_,_,_,_,_,_,_,_,_,_,_,_,_,_,_,_,_,_,_,_,_,_,_,_,_,_,_], _⟩) rfl ?_
   refine Reg.RC_call rfl (by intro t ht; cases ht) rfl (fun D v' W' hc hj hf K hK => ?_) (fun _ _ => Reg.RC_at (b := ⟨_, _⟩) rfl ?_)
   ·
    obtain ⟨j0, jk, jn, b_a, b_b, b_c, a_12⟩ := hj
    have f := hf (12, some 9) (.tail _ (.head _)) rfl
    have e6 : v' 12 = .pointer (some ⟨p9, 0, none⟩) := f.2.1
    obtain ⟨g, e1, e2, e3, e4, e5⟩ := a_12 f.1
    obtain rfl : p9 = g := Reg.ptr_eq (e6.symm.trans e1)
    have hb := e4 hc.1
    clear e4 e5
    have fc := hf (8, some 24) (.head _) rfl
    have ec : v' 8 = .tuple #[.agg #[.bool d1, .slice d2 d3 d4, .bool d5, .slice d6 d7 d8], .int .i64 0] := fc.2.1
    have ff := hb.fr
    obtain ⟨cc0, cc1, cc2, cc3⟩ := hb.r3
    go_step
    exact hK.out undef _ (Keeps.only hb rfl ((Only.refl _ _).set.set.set.set)) ⟨(Below.setCell (p := ⟨p9, 3, none⟩) (Below.setCell (p := ⟨p9, 2, none⟩) (Below.setCell (p := ⟨p9, 1, none⟩) (Below.setCell (p := ⟨p9, 0, none⟩) j0 (by show w.heap.size ≤ p9; omega) _) (by show w.heap.size ≤ p9; omega) _) (by show w.heap.size ≤ p9; omega) _) (by show w.heap.size ≤ p9; omega) _), jk.trans (Keeps.only hb rfl ((Only.refl _ _).set.set.set.set)), by simpa using jn, ((((b_a).far' (show w.heap.size ≠ p9 by omega)).far' (show w.heap.size ≠ p9 by omega)).far' (show w.heap.size ≠ p9 by omega)).far' (show w.heap.size ≠ p9 by omega), ((((b_b).far' (show w.heap.size + 1 ≠ p9 by omega)).far' (show w.heap.size + 1 ≠ p9 by omega)).far' (show w.heap.size + 1 ≠ p9 by omega)).far' (show w.heap.size + 1 ≠ p9 by omega), ((((b_c).far' (show w.heap.size + 1 + 1 ≠ p9 by omega)).far' (show w.heap.size + 1 + 1 ≠ p9 by omega)).far' (show w.heap.size + 1 + 1 ≠ p9 by omega)).far' (show w.heap.size + 1 + 1 ≠ p9 by omega), fun _ => ⟨p9, e1, e2, by simpa using e3, fun h => Bool.noConfusion h, fun _ => ⟨fc.1, _, ec, (Blk.set2 (cs' := #[.bool d1, .slice d2 d3 d4, .bool d5, .slice d6 d7 d8]) (Blk.set2 (cs' := #[.bool d1, .slice d2 d3 d4, .bool d5, .slice none 0 0]) (Blk.set2 (cs' := #[.bool d1, .slice d2 d3 d4, .bool false, .slice none 0 0]) (Blk.set2 (cs' := #[.bool d1, .slice none 0 0, .bool false, .slice none 0 0]) hb (i := 0) rfl) (i := 1) rfl) (i := 2) rfl) (i := 3) rfl)⟩⟩⟩ trivial trivial
   refine Reg.RP0 10 ?_
   refine Reg.RC_end (fun Dn v' w1 hd hj hf => ?_)
   obtain ⟨j0, jk, jn, b_a, b_b, b_c, a_12⟩ := hj
   have B := j0
   have oa := b_a
   clear b_a
   have ob := b_b
   clear b_b
   have oc := b_c
   clear b_c
   have f := hf (12, some 9) (.tail _ (.head _)) rfl
   have e6_ : v' 12 = .pointer (some ⟨p9, 0, none⟩) := f.2.1
   obtain ⟨g, e1_, zd, -, -, e5_⟩ := a_12 f.1
   obtain rfl : p9 = g := Reg.ptr_eq (e6_.symm.trans e1_)
   obtain ⟨-, cs_, ee, od⟩ := e5_ (hd 13 (Nat.le_of_ble_eq_true rfl))
   have ef : v' 8 = .tuple #[.agg #[.bool d1, .slice d2 d3 d4, .bool d5, .slice d6 d7 d8], .int .i64 0] := (hf (8, some 24) (.head _) rfl).2.1
   obtain rfl : #[.bool d1, .slice d2 d3 d4, .bool d5, .slice d6 d7 d8] = cs_ := by have := ef.symm.trans ee; simpa only [Value.tuple.injEq, Value.agg.injEq, Array.mk.injEq, List.cons.injEq, and_true, true_and] using this
   clear ee ef f e5_ e1_ e6_
   have Fd := Hid.mk_ (GFrE.get (r := df) (e := 0) (v := .agg #[.bool d1, .slice d2 d3 d4, .bool d5, .slice d6 d7 d8]) (hf (8, some 24) (.head _) rfl).2.2)
   replace kk := kk.trans jk
   clear hd hf jk j0
   refine hQ _ _ ?_
   clear hQ hops Q' ops'
   have la := oa.lt
   have lb := ob.lt
   obtain ⟨cc0, cc1, cc2, cc3⟩ := oc.r3
   have lc := oc.lt
   obtain ⟨cd0, cd1, cd2, cd3, fd, ld⟩ := od.s3
   have Fe : Hid (FR _ (.agg #[.bool false, .slice d2 d3 d4, .bool d5, .slice d6 d7 d8]) (absQ df)) := Hid.mk_ Fd.out.abs
   go_wp2_with fail
   refine (CM _ _ (kk.trans keepsB) (Fe.out.keeps keepsB)).mono ?_
   rintro e w2 ⟨rfl, hb2⟩
   have st : Steps _ w2 := hb2
   have Bn : Below w.heap.size w w2 := belowA st
   have kp : Keeps w1 w2 := Keeps.then_ keepsB st
   replace kk := kk.trans kp
   replace oa : Blk w2 (w.heap.size) 33 CA := Blk.stepsK st
   replace ob : Blk w2 (w.heap.size + 1) 33 CB := Blk.stepsK st
   replace oc : Blk w2 (w.heap.size + 1 + 1) 30 #[.bool t1, .slice t2 t3 t4, .bool t5, .slice t6 t7 t8] := Blk.stepsK st
   replace od : Blk w2 (p9) 30 #[.bool false, .slice d2 d3 d4, .bool d5, .slice d6 d7 d8] := Blk.stepsK st
   clear la lb cc0 cc1 cc2 cc3 lc cd0 cd1 cd2 cd3 fd ld
   replace B := Bn
   replace Fd := Hid.mk_ (Fd.out.keeps kp)
   replace Fe := Hid.mk_ (Fe.out.keeps kp)
   clear kp
   clear st
   rcases Int.lt_or_le 0 c with hc | hc
   ·
    have N0 := NO (by omega)
    clear NO YES SB CM
    go_wp2_with fail
    refine bodyPost_ret (by simp [results, Tryz.results23, go_sem, ]; rfl) rfl ?_
    exact ⟨by rw [N0], belowB⟩
   ·
    have Y0 := YES (by omega)
    clear NO YES SB CM
    go_wp2
    go_roundw
    case rel => exact ⟨i + 1, by omega, by go_num, Y0, ownK, ownK, ownK, belowB, kk.trans keepsB⟩
    case measure => simp [intOf]; omega
  ·
   obtain rfl : i = 4 := by omega
   go_wp2_with fail
   refine bodyPost_ret (by simp [results, Tryz.results23, go_sem, ]; rfl) rfl ?_
   exact ⟨by rw [hn], belowB⟩
end Go.Proofs.YtibdehlmflaodaaGreat
