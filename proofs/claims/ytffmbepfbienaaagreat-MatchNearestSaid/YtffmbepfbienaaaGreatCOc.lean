import Derived.Test.YtffmbepfbienaaaGreatCMf
import Derived.Test.YtffmbepfbienaaaGreatCMd
import Derived.Test.YtffmbepfbienaaaGreatCTz
set_option linter.unusedVariables false
set_option linter.unusedSimpArgs false
set_option maxHeartbeats 6400000
set_option maxRecDepth 1000000
namespace Go.Proofs.YtffmbepfbienaaaGreat
open Go.RowKit
theorem mpairs {ka1 ka5 kb1 kb5 kc1 kc5 kd1 kd5 : Bool} {ka2 ka6 kb2 kb6 kc2 kc6 kd2 kd6 : Option Addr} {ka3 ka4 ka7 ka8 kb3 kb4 kb7 kb8 kc3 kc4 kc7 kc8 kd3 kd4 kd7 kd8 : Nat} {gc : Nat} {tc : TypeId} {t : Nat → Rat} {vl vm : Value} {l m : PL} (rad : Int) (w : World) (hc : Blk w gc tc #[.int .i64 0]) (h0 : FR w (.agg #[.bool ka1, .slice ka2 ka3 ka4, .bool ka5, .slice ka6 ka7 ka8]) (t 0)) (h1 : FR w (.agg #[.bool kb1, .slice kb2 kb3 kb4, .bool kb5, .slice kb6 kb7 kb8]) (t 1)) (h2 : FR w (.agg #[.bool kc1, .slice kc2 kc3 kc4, .bool kc5, .slice kc6 kc7 kc8]) (t 2)) (h3 : FR w (.agg #[.bool kd1, .slice kd2 kd3 kd4, .bool kd5, .slice kd6 kd7 kd8]) (t 3)) (ht : ∀ i, i < 4 → sz (t i) 16) (hl : Pts w vl l) (hm : Pts w vm m) (cl : chkP l = 0) (cm : chkP m = 0) (r0 : 1 ≤ rad) (r1 : rad ≤ 65536) :
  Calls Tryz.prog 61 #[.pointer (some ⟨gc, 0, none⟩), .agg #[.bool ka1, .slice ka2 ka3 ka4, .bool ka5, .slice ka6 ka7 ka8, .bool kb1, .slice kb2 kb3 kb4, .bool kb5, .slice kb6 kb7 kb8, .bool kc1, .slice kc2 kc3 kc4, .bool kc5, .slice kc6 kc7 kc8, .bool kd1, .slice kd2 kd3 kd4, .bool kd5, .slice kd6 kd7 kd8], vl, vm, .int .i64 rad] w fun e w' => ∃ u, e = .returned u ∧ IntsR w' u (partners t (rad : Rat) l m l.length) ∧ Steps w w' := by
 have KC : ∀ w', Steps w w' → Blk w' gc tc #[.int .i64 0] := fun w' s => hc.steps s
 have AP : ∀ i, i < l.length → ∀ w', Steps w w' → Calls Tryz.prog 42 #[.pointer (some ⟨gc, 0, none⟩), .agg #[.bool ka1, .slice ka2 ka3 ka4, .bool ka5, .slice ka6 ka7 ka8, .bool kb1, .slice kb2 kb3 kb4, .bool kb5, .slice kb6 kb7 kb8, .bool kc1, .slice kc2 kc3 kc4, .bool kc5, .slice kc6 kc7 kc8, .bool kd1, .slice kd2 kd3 kd4, .bool kd5, .slice kd6 kd7 kd8], .agg #[.int .i64 (pt l i).1, .int .i64 (pt l i).2]] w' fun e w2 => ∃ u v, e = .returned (.tuple #[u, v]) ∧ FR w2 u (apX t (pt l i)) ∧ FR w2 v (apY t (pt l i)) ∧ Steps w' w2 := fun i hi w' s => by
  have ok := chk_okP cl i hi
  have k := Keeps.steps s
  exact mapply (pt l i).1 (pt l i).2 w' (KC w' s) (h0.keeps k) (h1.keeps k) (h2.keeps k) (h3.keeps k) ((ht 0 (by omega)).mono (by omega)) ((ht 1 (by omega)).mono (by omega)) ((ht 2 (by omega)).mono (by omega)) ((ht 3 (by omega)).mono (by omega)) ⟨ok.1, ok.2.1⟩ ⟨ok.2.2.1, ok.2.2.2⟩
 have RA : ∀ w', Steps w w' → Calls Tryz.prog 66 #[.pointer (some ⟨gc, 0, none⟩), .int .i64 rad] w' fun e w2 => ∃ v, e = .returned v ∧ FR w2 v (rad : Rat) ∧ Steps w' w2 := fun w' s => mof rad w' (KC w' s) (by omega) (by omega)
 have SA := fun i (hi : i < l.length) => sz_apX ht (chk_okP cl i hi)
 have zr : sz (rad : Rat) 2 := sz_coord ⟨by omega, by omega⟩
 have DI : ∀ i, i < l.length → ∀ k, k < m.length → ∀ (w' : World) (u v : Value), Steps w w' → FR w' u (apX t (pt l i)) → FR w' v (apY t (pt l i)) → Calls Tryz.prog 101 #[.pointer (some ⟨gc, 0, none⟩), u, v, .agg #[.int .i64 (pt m k).1, .int .i64 (pt m k).2]] w' fun e w2 => ∃ d, e = .returned d ∧ FR w2 d (apartQ (apX t (pt l i)) (apY t (pt l i)) (pt m k)) ∧ Steps w' w2 := fun i hi k hk w' u v s hu hv => mapart (pt m k).1 (pt m k).2 w' (KC w' s) hu hv ((SA i hi).1.mono (by omega)) ((SA i hi).2.mono (by omega)) (chk_okP cm k hk)
 have CM : ∀ i, i < l.length → ∀ k, k < m.length → ∀ (w' : World) (u v : Value), Steps w w' → FR w' u (apartQ (apX t (pt l i)) (apY t (pt l i)) (pt m k)) → FR w' v (prtP (apX t (pt l i)) (apY t (pt l i)) (rad : Rat) m k).2 → Calls Tryz.prog 67 #[.pointer (some ⟨gc, 0, none⟩), u, v] w' fun e w2 => e = .returned (.int .i64 (cmpQ (apartQ (apX t (pt l i)) (apY t (pt l i)) (pt m k)) (prtP (apX t (pt l i)) (apY t (pt l i)) (rad : Rat) m k).2)) ∧ Steps w' w2 := fun i hi k hk w' u v s hu hv => mcompare w' (KC w' s) hu hv (sz_apart (SA i hi).1 (SA i hi).2 (chk_okP cm k hk)) (prtP_sz (SA i hi).1 (SA i hi).2 zr cm k (by omega)) (by omega)
 have SP := fun i k c (h : cmpQ (apartQ (apX t (pt l i)) (apY t (pt l i)) (pt m k)) (prtP (apX t (pt l i)) (apY t (pt l i)) (rad : Rat) m k).2 = c) => prtP_step h
 have P0 : ∀ i, prtP (apX t (pt l i)) (apY t (pt l i)) (rad : Rat) m 0 = (-1, (rad : Rat)) := fun i => rfl
 have PS : ∀ i, partners t (rad : Rat) l m (i + 1) = partners t (rad : Rat) l m i ++ [(prtP (apX t (pt l i)) (apY t (pt l i)) (rad : Rat) m m.length).1] := fun i => rfl
 have PL0 := partners_len t (rad : Rat) l m
 have PZ : partners t (rad : Rat) l m 0 = [] := rfl
 have hlN := chk_short cl
 have hmN := chk_short cm
 obtain ⟨PA, hPA⟩ : ∃ f, partners t (rad : Rat) l m = f := ⟨_, rfl⟩
 obtain ⟨XX, hXX⟩ : ∃ f : Nat → Rat, ∀ i, apX t (pt l i) = f i := ⟨_, fun _ => rfl⟩
 obtain ⟨YY, hYY⟩ : ∃ f : Nat → Rat, ∀ i, apY t (pt l i) = f i := ⟨_, fun _ => rfl⟩
 simp only [hXX, hYY, hPA] at AP DI CM SP P0 PS PL0 PZ ⊢
 obtain ⟨DD, hDD⟩ : ∃ f : Nat → Nat → Rat, ∀ i k, apartQ (XX i) (YY i) (pt m k) = f i k := ⟨_, fun _ _ => rfl⟩
 obtain ⟨PP, hPP⟩ : ∃ f : Nat → Nat → Int × Rat, ∀ i k, prtP (XX i) (YY i) (rad : Rat) m k = f i k := ⟨_, fun _ _ => rfl⟩
 simp only [hDD, hPP] at DI CM SP P0 PS
 obtain ⟨la, lc, rfl⟩ := hl.shape
 obtain ⟨ma, mc, rfl⟩ := hm.shape
 have HPl := Hid.mk_ hl
 have HPm := Hid.mk_ hm
 obtain ⟨N, hN⟩ : ∃ n, l.length = n := ⟨_, rfl⟩
 obtain ⟨M, hM⟩ : ∃ n, m.length = n := ⟨_, rfl⟩
 have HN := Hid.mk_ hN
 have HM := Hid.mk_ hM
 rw [hN] at AP DI CM HPl hlN ⊢
 rw [hM] at DI CM PS HPm hmN ⊢
 have hmk := make_ints N (by omega)
 clear hc h0 h1 h2 h3 ht hl hm cl cm r0 r1 SA zr hPA hXX hYY hDD hPP hN hM
 go_enter Tryz.func61, Tryz.ntmps61
 have kk := Keeps.refl w
 go_wp2_with fail
 go_loopw [29] (fun sl0 wr => ∃ (i : Nat) (CO : Array Value), i ≤ N ∧ sl0 = .int .i64 i ∧ CO.size = N ∧ CO.toList.take i = ints (PA i) ∧ noU32 CO = true ∧ Blk wr (w.heap.size + 1) 3 CO ∧ Blk wr (w.heap.size) 30 #[.bool ka1, .slice ka2 ka3 ka4, .bool ka5, .slice ka6 ka7 ka8, .bool kb1, .slice kb2 kb3 kb4, .bool kb5, .slice kb6 kb7 kb8, .bool kc1, .slice kc2 kc3 kc4, .bool kc5, .slice kc6 kc7 kc8, .bool kd1, .slice kd2 kd3 kd4, .bool kd5, .slice kd6 kd7 kd8] ∧ Below w.heap.size w wr ∧ Keeps w wr) (fun sl0 _ => N - (intOf sl0).toNat)
 case atStart => exact ⟨0, _, by omega, rfl, size_madeCells _ _, (by rw [PZ]; rfl), noU_made _, ownK, ownK, belowB, keepsB⟩
 case round =>
  rename World => wo
  try clear B
  try clear kk
  obtain ⟨i, CO, hi, rfl, hs, htk, hno, oq, os, B, kk⟩ := hrel
  obtain ⟨cs0, cs1, cs2, cs3, cs4, cs5, cs6, cs7, cs8, cs9, cs10, cs11, cs12, cs13, cs14, cs15⟩ := os.r15
  have ls := os.lt
  rcases Nat.lt_or_ge i N with i4 | i4
  ·
   have hlt : decide ((i : Int) < (N : Int)) = true := decide_eq_true (by omega)
   obtain ⟨b, of, rfl, hbl, hx0, hy0⟩ := HPl.out.at (a := i) (by have := HN.out; omega)
   have cx : wo.cell? ⟨b, of + i * 2, none⟩ = some (.int .i64 (pt l i).1) := (B.cell (p := ⟨b, _, none⟩) hbl).trans hx0
   have cy : wo.cell? ⟨b, of + i * 2 + 1, none⟩ = some (.int .i64 (pt l i).2) := (B.cell (p := ⟨b, _, none⟩) hbl).trans hy0
   have ap := AP i i4
   have di := DI i i4
   have cmp := CM i i4
   have sp := SP i
   have p0 := P0 i
   have ps := PS i
   clear hx0 hy0 hbl
   have zq_0 : w.heap.size + 1 < wo.heap.size := oq.lt
   have zz0 := B.size
   go_wp2_with fail
   refine (ap _ belowB).mono ?_
   rintro e w1 ⟨vxa, vxb, rfl, hvxa, hvxb, hb1⟩
   have st : Steps _ w1 := hb1
   have sk : Below wo.heap.size wo w1 := belowA st
   replace B := below_steps B (Nat.le_refl _) sk
   have ovn : Blk w1 (wo.heap.size) 23 #[.int .i64 (pt l i).1, .int .i64 (pt l i).2] := Blk.stepsK st
   replace os := os.steps sk
   replace oq := oq.steps sk
   replace kk := kk.then_ sk
   clear st sk cs0 cs1 cs2 cs3 cs4 cs5 cs6 cs7 cs8 cs9 cs10 cs11 cs12 cs13 cs14 cs15 ls
   obtain ⟨xa1, xa2, xa3, xa4, xa5, xa6, xa7, xa8, rfl⟩ := FR.shape hvxa
   have Fxa := Hid.mk_ hvxa
   clear hvxa
   obtain ⟨xb1, xb2, xb3, xb4, xb5, xb6, xb7, xb8, rfl⟩ := FR.shape hvxb
   have Fxb := Hid.mk_ hvxb
   clear hvxb
   have zvn_1 : wo.heap.size < w1.heap.size := ovn.lt
   have zz1 := B.size
   dsimp only
   have lq := oq.lt
   have fq := oq.fr
   have zz9 := B.size
   have nq1 : w.heap.size + 1 ≠ w1.heap.size := by omega
   have nq2 : w.heap.size + 1 ≠ w1.heap.size + 1 := by omega
   have nq3 : w.heap.size + 1 < w1.heap.size + 1 := by omega
   have cqi : w1.cell? ⟨w.heap.size + 1, i, none⟩ = some (CO[i]'(by omega)) := (oq.cell i).trans (Array.getElem?_eq_getElem (by omega))
   repeat' (first | (with_reducible show wpList _ _ _ (⟨some 44, _, _, _, _, _⟩ :: _) _ _; generalize hZ : @wpList = Z) | go_values | go_skip | go_guarded | go_step | go_upon)
   subst hZ
   clear lq fq cqi zz9 nq1 nq2 nq3
   refine wp_seal (fun wz => Blk wz (w.heap.size) 30 #[.bool ka1, .slice ka2 ka3 ka4, .bool ka5, .slice ka6 ka7 ka8, .bool kb1, .slice kb2 kb3 kb4, .bool kb5, .slice kb6 kb7 kb8, .bool kc1, .slice kc2 kc3 kc4, .bool kc5, .slice kc6 kc7 kc8, .bool kd1, .slice kd2 kd3 kd4, .bool kd5, .slice kd6 kd7 kd8] ∧ Blk wz (w.heap.size + 1) 3 (CO.setIfInBounds i (.int .i64 (-1))) ∧ Blk wz (wo.heap.size) 23 #[.int .i64 (pt l i).1, .int .i64 (pt l i).2] ∧ Blk wz (w1.heap.size) 28 #[.bool xa1, .slice xa2 xa3 xa4, .bool xa5, .slice xa6 xa7 xa8] ∧ Blk wz (w1.heap.size + 1) 28 #[.bool xb1, .slice xb2 xb3 xb4, .bool xb5, .slice xb6 xb7 xb8] ∧ Below w.heap.size w wz ∧ Keeps w1 wz) ⟨ownK, ((oq.set_ i _).alloc _).alloc _, ownK, ownK, ownK, belowB, ((Keeps.set (Keeps.refl _) ⟨3, CO, oq, hno⟩).alloc _).alloc _⟩ ?_
   rintro wx ⟨ps, pq, pvn, pvx, pvy, B2, k2⟩
   clear os oq ovn
   clear B
   have B := B2
   clear B2
   have os := ps
   have oq := pq
   have ovn := pvn
   have ovx := pvx
   have ovy := pvy
   clear ps pq pvn pvx pvy
   replace Fxa := Hid.mk_ (Fxa.out.keeps k2)
   replace Fxb := Hid.mk_ (Fxb.out.keeps k2)
   replace kk := kk.trans k2
   clear k2
   go_wp2_with fail
   refine (RA _ belowB).mono ?_
   rintro e w2 ⟨vxd, rfl, hvxd, hb2⟩
   have st : Steps _ w2 := hb2
   have sk : Below wx.heap.size wx w2 := belowA st
   replace B := below_steps B (Nat.le_refl _) sk
   replace os := os.steps sk
   replace oq := oq.steps sk
   replace ovn := ovn.steps sk
   replace ovx := ovx.steps sk
   replace ovy := ovy.steps sk
   replace Fxa := Hid.mk_ (Fxa.out.steps sk)
   replace Fxb := Hid.mk_ (Fxb.out.steps sk)
   replace kk := kk.then_ sk
   clear st sk
   obtain ⟨xd1, xd2, xd3, xd4, xd5, xd6, xd7, xd8, rfl⟩ := hvxd.shape
   have Fxd := Hid.mk_ hvxd
   clear hvxd
   have zvy_2 : w1.heap.size + 1 < w2.heap.size := ovy.lt
   have zz2 := B.size
   go_wp2_with fail
   go_loopw [49] (fun sl0 wr => ∃ (k : Nat) (y1 : Bool) (y2 : Option Addr) (y3 y4 : Nat) (y5 : Bool) (y6 : Option Addr) (y7 y8 : Nat), k ≤ M ∧ sl0 = .int .i64 k ∧ Blk wr (w.heap.size + 1) 3 (CO.setIfInBounds i (.int .i64 (PP i k).1)) ∧ Blk wr (w2.heap.size) 28 #[.bool y1, .slice y2 y3 y4, .bool y5, .slice y6 y7 y8] ∧ FR wr (.agg #[.bool y1, .slice y2 y3 y4, .bool y5, .slice y6 y7 y8]) (PP i k).2 ∧ Blk wr (w.heap.size) 30 #[.bool ka1, .slice ka2 ka3 ka4, .bool ka5, .slice ka6 ka7 ka8, .bool kb1, .slice kb2 kb3 kb4, .bool kb5, .slice kb6 kb7 kb8, .bool kc1, .slice kc2 kc3 kc4, .bool kc5, .slice kc6 kc7 kc8, .bool kd1, .slice kd2 kd3 kd4, .bool kd5, .slice kd6 kd7 kd8] ∧ Blk wr (wo.heap.size) 23 #[.int .i64 (pt l i).1, .int .i64 (pt l i).2] ∧ Blk wr (w1.heap.size) 28 #[.bool xa1, .slice xa2 xa3 xa4, .bool xa5, .slice xa6 xa7 xa8] ∧ Blk wr (w1.heap.size + 1) 28 #[.bool xb1, .slice xb2 xb3 xb4, .bool xb5, .slice xb6 xb7 xb8] ∧ Below w.heap.size w wr ∧ Keeps w2 wr) (fun sl0 _ => M - (intOf sl0).toNat)
   case atStart => exact ⟨0, _, _, _, _, _, _, _, _, by omega, rfl, (by rw [p0]; exact ownK), ownK, (by rw [p0]; exact Fxd.out.keeps keepsB), ownK, ownK, ownK, ownK, belowB, keepsB⟩
   case round =>
    clear os oq ovn ovx ovy
    try clear B
    have kko := kk.trans keepsB
    try clear kk
    clear Fxd
    obtain ⟨k, y1, y2, y3, y4, y5, y6, y7, y8, hk, rfl, oq, ovd, fy, os, ovn, ovx, ovy, B, kk⟩ := hrel
    replace Fxa := Hid.mk_ (Fxa.out.keeps kk)
    replace Fxb := Hid.mk_ (Fxb.out.keeps kk)
    have Fy := Hid.mk_ fy
    clear fy
    obtain ⟨pk, hpk⟩ : ∃ z, (PP i k).1 = z := ⟨_, rfl⟩
    rw [hpk] at oq
    obtain ⟨cvx0, cvx1, cvx2, cvx3⟩ := ovx.r3
    have lvx := ovx.lt
    obtain ⟨cvy0, cvy1, cvy2, cvy3⟩ := ovy.r3
    have lvy := ovy.lt
    rcases Nat.lt_or_ge k M with k4 | k4
    ·
     have hlt2 : decide ((k : Int) < (M : Int)) = true := decide_eq_true (by omega)
     obtain ⟨b', of', rfl, hbl', hx0, hy0⟩ := HPm.out.at (a := k) (by have := HM.out; omega)
     have cx : wr.cell? ⟨b', of' + k * 2, none⟩ = some (.int .i64 (pt m k).1) := (B.cell (p := ⟨b', _, none⟩) hbl').trans hx0
     have cy : wr.cell? ⟨b', of' + k * 2 + 1, none⟩ = some (.int .i64 (pt m k).2) := (B.cell (p := ⟨b', _, none⟩) hbl').trans hy0
     have dik := di k k4
     have cik := cmp k k4
     obtain ⟨c, hcc⟩ : ∃ c, cmpQ (DD i k) (PP i k).2 = c := ⟨_, rfl⟩
     rw [hcc] at cik
     have sq := sp k c hcc
     rw [hpk] at sq
     clear hx0 hy0 hbl' hcc
     have zvd_2 : w2.heap.size < wr.heap.size := ovd.lt
     have zz2 := B.size
     go_wp2_with fail
     refine (dik _ _ _ belowB (Fxa.out.keeps keepsB) (Fxb.out.keeps keepsB)).mono ?_
     rintro e w3 ⟨vxe, rfl, hvxe, hb3⟩
     have st : Steps _ w3 := hb3
     have sk : Below wr.heap.size wr w3 := belowA st
     replace B := below_steps B (Nat.le_refl _) sk
     have ovm : Blk w3 (wr.heap.size) 23 #[.int .i64 (pt m k).1, .int .i64 (pt m k).2] := Blk.stepsK st
     replace os := os.steps sk
     replace ovn := ovn.steps sk
     replace ovx := ovx.steps sk
     replace ovy := ovy.steps sk
     replace oq := oq.steps sk
     replace ovd := ovd.steps sk
     replace Fxa := Hid.mk_ (Fxa.out.steps sk)
     replace Fxb := Hid.mk_ (Fxb.out.steps sk)
     replace Fy := Hid.mk_ (Fy.out.steps sk)
     replace kk := kk.then_ sk
     clear st sk cvx0 cvx1 cvx2 cvx3 lvx cvy0 cvy1 cvy2 cvy3 lvy
     obtain ⟨cvd0, cvd1, cvd2, cvd3⟩ := ovd.r3
     have lvd := ovd.lt
     obtain ⟨xe1, xe2, xe3, xe4, xe5, xe6, xe7, xe8, rfl⟩ := hvxe.shape
     have Fxe := Hid.mk_ hvxe
     clear hvxe
     have zvm_3 : wr.heap.size < w3.heap.size := ovm.lt
     have zz3 := B.size
     go_wp2_with fail
     refine (cik _ _ _ belowB (Fxe.out.keeps keepsB) (Fy.out.keeps keepsB)).mono ?_
     rintro e w4 ⟨rfl, hb4⟩
     have st : Steps _ w4 := hb4
     have sk : Below w3.heap.size w3 w4 := belowA st
     replace B := below_steps B (Nat.le_refl _) sk
     have ove : Blk w4 (w3.heap.size) 28 #[.bool xe1, .slice xe2 xe3 xe4, .bool xe5, .slice xe6 xe7 xe8] := Blk.stepsK st
     replace os := os.steps sk
     replace ovn := ovn.steps sk
     replace ovx := ovx.steps sk
     replace ovy := ovy.steps sk
     replace oq := oq.steps sk
     replace ovd := ovd.steps sk
     replace ovm := ovm.steps sk
     replace Fxa := Hid.mk_ (Fxa.out.steps sk)
     replace Fxb := Hid.mk_ (Fxb.out.steps sk)
     replace Fy := Hid.mk_ (Fy.out.steps sk)
     replace Fxe := Hid.mk_ (Fxe.out.steps sk)
     replace kk := kk.then_ sk
     clear st sk cvd0 cvd1 cvd2 cvd3 lvd
     dsimp only
     have lq := oq.lt
     have fq := oq.fr
     have cqk : w4.cell? ⟨w.heap.size + 1, i, none⟩ = some (.int .i64 pk) := (oq.cell i).trans (Array.getElem?_setIfInBounds_self_of_lt (by omega))
     by_cases c1 : c < 0
     ·
      have e0 := sq.1 (by omega)
      have lve := ove.lt
      have lvd := ovd.lt
      have fvd := ovd.fr
      obtain ⟨cve0, cve1, cve2, cve3⟩ := ove.r3
      obtain ⟨cvd0, cvd1, cvd2, cvd3⟩ := ovd.r3
      have nqd : w.heap.size + 1 ≠ w2.heap.size := by omega
      have nqe : w.heap.size + 1 ≠ w3.heap.size := by omega
      have nde : w2.heap.size ≠ w3.heap.size := by omega
      go_upto_region 15 with fail
      go_region
      have kq : Keeps w4 (w4.setCell ⟨w.heap.size + 1, i, none⟩ (.int .i64 (k : Int))) := Keeps.set (Keeps.refl _) ⟨_, _, oq, noU_set hno i pk⟩
      have oq2 : Blk (w4.setCell ⟨w.heap.size + 1, i, none⟩ (.int .i64 (k : Int))) (w.heap.size + 1) 3 (CO.setIfInBounds i (.int .i64 (k : Int))) := by have := oq.set_ i (.int .i64 (k : Int)); rw [Array.setIfInBounds_setIfInBounds] at this; exact this
      go_wp2_with fail
      go_roundw
      case rel => exact ⟨k + 1, _, _, _, _, _, _, _, _, by omega, by go_num, (by rw [e0]; exact ownK), ownK, (by rw [e0]; exact Fxe.out.keeps (kq.trans keepsB)), ownK, ownK, ownK, ownK, belowB, kk.trans (kq.trans keepsB)⟩
      case measure => simp [intOf]; omega
     ·
      by_cases c2 : c = 0
      ·
       by_cases c3 : pk < 0
       ·
        have e0 := sq.2.1 (by omega) (by omega)
        subst c2
        have lve := ove.lt
        have lvd := ovd.lt
        have fvd := ovd.fr
        obtain ⟨cve0, cve1, cve2, cve3⟩ := ove.r3
        obtain ⟨cvd0, cvd1, cvd2, cvd3⟩ := ovd.r3
        have nqd : w.heap.size + 1 ≠ w2.heap.size := by omega
        have nqe : w.heap.size + 1 ≠ w3.heap.size := by omega
        have nde : w2.heap.size ≠ w3.heap.size := by omega
        go_upto_region 15 with fail
        go_region
        have kq : Keeps w4 (w4.setCell ⟨w.heap.size + 1, i, none⟩ (.int .i64 (k : Int))) := Keeps.set (Keeps.refl _) ⟨_, _, oq, noU_set hno i pk⟩
        have oq2 : Blk (w4.setCell ⟨w.heap.size + 1, i, none⟩ (.int .i64 (k : Int))) (w.heap.size + 1) 3 (CO.setIfInBounds i (.int .i64 (k : Int))) := by have := oq.set_ i (.int .i64 (k : Int)); rw [Array.setIfInBounds_setIfInBounds] at this; exact this
        go_wp2_with fail
        go_roundw
        case rel => exact ⟨k + 1, _, _, _, _, _, _, _, _, by omega, by go_num, (by rw [e0]; exact ownK), ownK, (by rw [e0]; exact Fxe.out.keeps (kq.trans keepsB)), ownK, ownK, ownK, ownK, belowB, kk.trans (kq.trans keepsB)⟩
        case measure => simp [intOf]; omega
       ·
        have e0 := sq.2.2 (by omega) (by first | omega | (intro h; omega) | (rintro ⟨h, g⟩; omega))
        subst c2
        go_wp2_with fail
        go_roundw
        case rel => exact ⟨k + 1, _, _, _, _, _, _, _, _, by omega, by go_num, (by rw [e0, hpk]; exact ownK), ownK, (by rw [e0]; exact Fy.out.keeps keepsB), ownK, ownK, ownK, ownK, belowB, kk.trans keepsB⟩
        case measure => simp [intOf]; omega
      ·
       have e0 := sq.2.2 (by omega) (by first | omega | (intro h; omega) | (rintro ⟨h, g⟩; omega))
       go_wp2_with fail
       go_roundw
       case rel => exact ⟨k + 1, _, _, _, _, _, _, _, _, by omega, by go_num, (by rw [e0, hpk]; exact ownK), ownK, (by rw [e0]; exact Fy.out.keeps keepsB), ownK, ownK, ownK, ownK, belowB, kk.trans keepsB⟩
       case measure => simp [intOf]; omega
    ·
     have hltM : decide ((k : Int) < (M : Int)) = false := decide_eq_false (by omega)
     have eM : k = M := by omega
     rw [eM] at hpk
     go_wp2_with fail
     go_roundw
     case rel => exact ⟨i + 1, CO.setIfInBounds i (.int .i64 pk), by omega, by go_num, by rw [Array.size_setIfInBounds]; exact hs, by rw [ps, hpk]; exact cur_next (by omega) (PL0 i) htk pk, noU_set hno i pk, ownK, ownK, belowB, kko.trans (kk.trans keepsB)⟩
     case measure => simp [intOf]; omega
  ·
   have eN : i = N := by omega
   have hltN : decide ((i : Int) < (N : Int)) = false := decide_eq_false (by omega)
   rw [eN] at htk
   go_wp2_with fail
   refine bodyPost_ret (by simp [results, Tryz.results61, go_sem, cs0, cs1, cs2, cs3, cs4, cs5, cs6, cs7, cs8, cs9, cs10, cs11, cs12, cs13, cs14, cs15, ls]; rfl) rfl ?_
   exact ⟨_, rfl, ints_of_cur ownK (PL0 N) (Nat.le_refl _) htk, belowB⟩
def pairsE (cl cm : Int) (lim : Bool) (rad : Int) : Int := if cl ≠ 0 then cl else if cm ≠ 0 then cm else if lim = false then 8 else if rad < 1 ∨ 65536 < rad then 2 else 0
def pairsR (e : Int) (l : List Int) : List Int := if e = 0 then l else []
theorem mPairs {ka1 ka5 kb1 kb5 kc1 kc5 kd1 kd5 : Bool} {ka2 ka6 kb2 kb6 kc2 kc6 kd2 kd6 : Option Addr} {ka3 ka4 ka7 ka8 kb3 kb4 kb7 kb8 kc3 kc4 kc7 kc8 kd3 kd4 kd7 kd8 : Nat} {O : Nat → Option Rat} {vl vm : Value} {l m : PL} (rad : Int) (w : World) (b0 : FB w (.agg #[.bool ka1, .slice ka2 ka3 ka4, .bool ka5, .slice ka6 ka7 ka8]) (O 0)) (b1 : FB w (.agg #[.bool kb1, .slice kb2 kb3 kb4, .bool kb5, .slice kb6 kb7 kb8]) (O 1)) (b2 : FB w (.agg #[.bool kc1, .slice kc2 kc3 kc4, .bool kc5, .slice kc6 kc7 kc8]) (O 2)) (b3 : FB w (.agg #[.bool kd1, .slice kd2 kd3 kd4, .bool kd5, .slice kd6 kd7 kd8]) (O 3)) (fw : FewL O (f4v ka3 kb3 kc3 kd3) (f4v ka7 kb7 kc7 kd7) 4) (hl : Pts w vl l) (hm : Pts w vm m) (ll : l.length ≤ 1000) (lm : m.length ≤ 1000) :
  Calls Tryz.prog 23 #[.agg #[.bool ka1, .slice ka2 ka3 ka4, .bool ka5, .slice ka6 ka7 ka8, .bool kb1, .slice kb2 kb3 kb4, .bool kb5, .slice kb6 kb7 kb8, .bool kc1, .slice kc2 kc3 kc4, .bool kc5, .slice kc6 kc7 kc8, .bool kd1, .slice kd2 kd3 kd4, .bool kd5, .slice kd6 kd7 kd8], vl, vm, .int .i64 rad] w fun e w' => ∃ u, e = .returned (.tuple #[u, .int .i64 (pairsE (chkP l) (chkP m) (limL 16 O (f4v ka3 kb3 kc3 kd3) (f4v ka7 kb7 kc7 kd7) 4) rad)]) ∧ IntsR w' u (pairsR (pairsE (chkP l) (chkP m) (limL 16 O (f4v ka3 kb3 kc3 kd3) (f4v ka7 kb7 kc7 kd7) 4) rad) (partners (fun i => (O i).getD 0) (rad : Rat) l m l.length)) ∧ Steps w w' := by
 have CL : ∀ w', Steps w w' → Calls Tryz.prog 37 #[vl] w' fun e w2 => e = .returned (.int .i64 (chkP l)) ∧ Steps w' w2 := fun w' s => qcheckP w' (hl.steps s) ll
 have CN : ∀ w', Steps w w' → Calls Tryz.prog 37 #[vm] w' fun e w2 => e = .returned (.int .i64 (chkP m)) ∧ Steps w' w2 := fun w' s => qcheckP w' (hm.steps s) lm
 have LM : ∀ w' g t, Keeps w w' → Blk w' g t #[.bool ka1, .slice ka2 ka3 ka4, .bool ka5, .slice ka6 ka7 ka8, .bool kb1, .slice kb2 kb3 kb4, .bool kb5, .slice kb6 kb7 kb8, .bool kc1, .slice kc2 kc3 kc4, .bool kc5, .slice kc6 kc7 kc8, .bool kd1, .slice kd2 kd3 kd4, .bool kd5, .slice kd6 kd7 kd8] → Calls Tryz.prog 41 #[.int .i64 16, .slice (some ⟨g, 0, none⟩) 4 4] w' fun e w2 => e = .returned (.bool (limL 16 O (f4v ka3 kb3 kc3 kd3) (f4v ka7 kb7 kc7 kd7) 4)) ∧ Steps w' w2 := fun w' g t k hb => mlimited 16 w' (fls4 hb (b0.keeps k) (b1.keeps k) (b2.keeps k) (b3.keeps k)) (by omega)
 have PR : chkP l = 0 → chkP m = 0 → limL 16 O (f4v ka3 kb3 kc3 kd3) (f4v ka7 kb7 kc7 kd7) 4 = true → 1 ≤ rad → rad ≤ 65536 → ∀ w' g, Keeps w w' → Steps w w' → Blk w' g 89 #[.int .i64 0] → Calls Tryz.prog 61 #[.pointer (some ⟨g, 0, none⟩), .agg #[.bool ka1, .slice ka2 ka3 ka4, .bool ka5, .slice ka6 ka7 ka8, .bool kb1, .slice kb2 kb3 kb4, .bool kb5, .slice kb6 kb7 kb8, .bool kc1, .slice kc2 kc3 kc4, .bool kc5, .slice kc6 kc7 kc8, .bool kd1, .slice kd2 kd3 kd4, .bool kd5, .slice kd6 kd7 kd8], vl, vm, .int .i64 rad] w' fun e w2 => ∃ u, e = .returned u ∧ IntsR w2 u (partners (fun i => (O i).getD 0) (rad : Rat) l m l.length) ∧ Steps w' w2 := fun c1 c2 hL r0 r1 w' g k s hb => by
  obtain ⟨q0, e0, z0⟩ := limL_sz hL fw 0 (by omega)
  obtain ⟨q1, e1, z1⟩ := limL_sz hL fw 1 (by omega)
  obtain ⟨q2, e2, z2⟩ := limL_sz hL fw 2 (by omega)
  obtain ⟨q3, e3, z3⟩ := limL_sz hL fw 3 (by omega)
  have g0 : (O 0).getD 0 = q0 := by rw [e0]; rfl
  have g1 : (O 1).getD 0 = q1 := by rw [e1]; rfl
  have g2 : (O 2).getD 0 = q2 := by rw [e2]; rfl
  have g3 : (O 3).getD 0 = q3 := by rw [e3]; rfl
  rw [e0] at b0
  rw [e1] at b1
  rw [e2] at b2
  rw [e3] at b3
  exact mpairs (t := fun i => (O i).getD 0) rad w' hb (by show FR _ _ ((O 0).getD 0); rw [g0]; exact FR.keeps b0 k) (by show FR _ _ ((O 1).getD 0); rw [g1]; exact FR.keeps b1 k) (by show FR _ _ ((O 2).getD 0); rw [g2]; exact FR.keeps b2 k) (by show FR _ _ ((O 3).getD 0); rw [g3]; exact FR.keeps b3 k) (fun i hi => by
   rcases (show i = 0 ∨ i = 1 ∨ i = 2 ∨ i = 3 by omega) with rfl | rfl | rfl | rfl
   · show sz ((O 0).getD 0) 16; rw [g0]; exact z0
   · show sz ((O 1).getD 0) 16; rw [g1]; exact z1
   · show sz ((O 2).getD 0) 16; rw [g2]; exact z2
   · show sz ((O 3).getD 0) 16; rw [g3]; exact z3) (hl.steps s) (hm.steps s) c1 c2 r0 r1
 obtain ⟨la, lc, rfl⟩ := hl.shape
 obtain ⟨ma, mc, rfl⟩ := hm.shape
 generalize partners (fun i => (O i).getD 0) (rad : Rat) l m l.length = P at *
 generalize limL 16 O (f4v ka3 kb3 kc3 kd3) (f4v ka7 kb7 kc7 kd7) 4 = L at *
 generalize chkP l = cl at *
 generalize chkP m = cm at *
 obtain ⟨N, hN⟩ : ∃ n, l.length = n := ⟨_, rfl⟩
 obtain ⟨M, hM⟩ : ∃ n, m.length = n := ⟨_, rfl⟩
 rw [hN, hM] at PR
 rw [hN] at CL
 rw [hM] at CN
 rw [hN, hM]
 clear hl hm ll lm b0 b1 b2 b3 fw hN hM
 by_cases c1 : cl = 0
 ·
  subst c1
  by_cases c2 : cm = 0
  ·
   subst c2
   cases L with
   | false =>
    have eE : pairsE 0 0 false rad = 8 := by simp [pairsE]
    rw [eE]
    clear PR
    show Calls _ _ _ _ fun e w' => ∃ u, e = _ ∧ IntsR w' u [] ∧ _
    go_enter Tryz.func23, Tryz.ntmps23
    have kk := Keeps.refl w
    go_wp2_with fail
    refine (CL _ belowB).mono ?_
    rintro e w1 ⟨rfl, hb1⟩
    have st : Steps _ w1 := hb1
    have B : Below w.heap.size w w1 := belowA st
    have kp : Keeps w w1 := Keeps.then_ keepsB st
    replace kk := kk.trans kp
    have os : Blk w1 (w.heap.size) 30 #[.bool ka1, .slice ka2 ka3 ka4, .bool ka5, .slice ka6 ka7 ka8, .bool kb1, .slice kb2 kb3 kb4, .bool kb5, .slice kb6 kb7 kb8, .bool kc1, .slice kc2 kc3 kc4, .bool kc5, .slice kc6 kc7 kc8, .bool kd1, .slice kd2 kd3 kd4, .bool kd5, .slice kd6 kd7 kd8] := Blk.stepsK st
    clear kp
    clear st
    go_wp2_with fail
    refine (CN _ belowB).mono ?_
    rintro e w2 ⟨rfl, hb2⟩
    have st : Steps _ w2 := hb2
    have sk : Below w1.heap.size w1 w2 := belowA st
    replace B := below_steps B (Nat.le_refl _) sk
    replace os := os.steps sk
    replace kk := kk.then_ sk
    clear st sk
    obtain ⟨cs0, cs1, cs2, cs3, cs4, cs5, cs6, cs7, cs8, cs9, cs10, cs11, cs12, cs13, cs14, cs15⟩ := os.r15
    have ls := os.lt
    have zs_2 : w.heap.size < w2.heap.size := os.lt
    have zz2 := B.size
    go_wp2_with fail
    refine (LM _ (w2.heap.size) 28 (kk.trans keepsB) ownK).mono ?_
    rintro e w3 ⟨rfl, hb3⟩
    have st : Steps _ w3 := hb3
    have sk : Below w2.heap.size w2 w3 := belowA st
    replace B := below_steps B (Nat.le_refl _) sk
    replace os := os.steps sk
    replace kk := kk.then_ sk
    clear st sk cs0 cs1 cs2 cs3 cs4 cs5 cs6 cs7 cs8 cs9 cs10 cs11 cs12 cs13 cs14 cs15 ls
    go_wp2_with fail
    refine bodyPost_ret (by simp [results, Tryz.results23, go_sem, ]; rfl) rfl ?_
    exact ⟨_, rfl, IntsR.nil _, belowB⟩
   | true =>
    rcases (show rad < 1 ∨ (¬ rad < 1 ∧ 65536 < rad) ∨ (¬ rad < 1 ∧ ¬ 65536 < rad) by omega) with r0 | ⟨r0, r1⟩ | ⟨r0, r1⟩
    ·
     have eE : pairsE 0 0 true rad = 2 := by simp [pairsE]; omega
     rw [eE]
     clear PR
     show Calls _ _ _ _ fun e w' => ∃ u, e = _ ∧ IntsR w' u [] ∧ _
     go_enter Tryz.func23, Tryz.ntmps23
     have kk := Keeps.refl w
     go_wp2_with fail
     refine (CL _ belowB).mono ?_
     rintro e w1 ⟨rfl, hb1⟩
     have st : Steps _ w1 := hb1
     have B : Below w.heap.size w w1 := belowA st
     have kp : Keeps w w1 := Keeps.then_ keepsB st
     replace kk := kk.trans kp
     have os : Blk w1 (w.heap.size) 30 #[.bool ka1, .slice ka2 ka3 ka4, .bool ka5, .slice ka6 ka7 ka8, .bool kb1, .slice kb2 kb3 kb4, .bool kb5, .slice kb6 kb7 kb8, .bool kc1, .slice kc2 kc3 kc4, .bool kc5, .slice kc6 kc7 kc8, .bool kd1, .slice kd2 kd3 kd4, .bool kd5, .slice kd6 kd7 kd8] := Blk.stepsK st
     clear kp
     clear st
     go_wp2_with fail
     refine (CN _ belowB).mono ?_
     rintro e w2 ⟨rfl, hb2⟩
     have st : Steps _ w2 := hb2
     have sk : Below w1.heap.size w1 w2 := belowA st
     replace B := below_steps B (Nat.le_refl _) sk
     replace os := os.steps sk
     replace kk := kk.then_ sk
     clear st sk
     obtain ⟨cs0, cs1, cs2, cs3, cs4, cs5, cs6, cs7, cs8, cs9, cs10, cs11, cs12, cs13, cs14, cs15⟩ := os.r15
     have ls := os.lt
     have zs_2 : w.heap.size < w2.heap.size := os.lt
     have zz2 := B.size
     go_wp2_with fail
     refine (LM _ (w2.heap.size) 28 (kk.trans keepsB) ownK).mono ?_
     rintro e w3 ⟨rfl, hb3⟩
     have st : Steps _ w3 := hb3
     have sk : Below w2.heap.size w2 w3 := belowA st
     replace B := below_steps B (Nat.le_refl _) sk
     replace os := os.steps sk
     replace kk := kk.then_ sk
     clear st sk cs0 cs1 cs2 cs3 cs4 cs5 cs6 cs7 cs8 cs9 cs10 cs11 cs12 cs13 cs14 cs15 ls
     go_wp2_with fail
     refine bodyPost_ret (by simp [results, Tryz.results23, go_sem, ]; rfl) rfl ?_
     exact ⟨_, rfl, IntsR.nil _, belowB⟩
    ·
     have eE : pairsE 0 0 true rad = 2 := by simp [pairsE]; omega
     rw [eE]
     clear PR
     show Calls _ _ _ _ fun e w' => ∃ u, e = _ ∧ IntsR w' u [] ∧ _
     go_enter Tryz.func23, Tryz.ntmps23
     have kk := Keeps.refl w
     go_wp2_with fail
     refine (CL _ belowB).mono ?_
     rintro e w1 ⟨rfl, hb1⟩
     have st : Steps _ w1 := hb1
     have B : Below w.heap.size w w1 := belowA st
     have kp : Keeps w w1 := Keeps.then_ keepsB st
     replace kk := kk.trans kp
     have os : Blk w1 (w.heap.size) 30 #[.bool ka1, .slice ka2 ka3 ka4, .bool ka5, .slice ka6 ka7 ka8, .bool kb1, .slice kb2 kb3 kb4, .bool kb5, .slice kb6 kb7 kb8, .bool kc1, .slice kc2 kc3 kc4, .bool kc5, .slice kc6 kc7 kc8, .bool kd1, .slice kd2 kd3 kd4, .bool kd5, .slice kd6 kd7 kd8] := Blk.stepsK st
     clear kp
     clear st
     go_wp2_with fail
     refine (CN _ belowB).mono ?_
     rintro e w2 ⟨rfl, hb2⟩
     have st : Steps _ w2 := hb2
     have sk : Below w1.heap.size w1 w2 := belowA st
     replace B := below_steps B (Nat.le_refl _) sk
     replace os := os.steps sk
     replace kk := kk.then_ sk
     clear st sk
     obtain ⟨cs0, cs1, cs2, cs3, cs4, cs5, cs6, cs7, cs8, cs9, cs10, cs11, cs12, cs13, cs14, cs15⟩ := os.r15
     have ls := os.lt
     have zs_2 : w.heap.size < w2.heap.size := os.lt
     have zz2 := B.size
     go_wp2_with fail
     refine (LM _ (w2.heap.size) 28 (kk.trans keepsB) ownK).mono ?_
     rintro e w3 ⟨rfl, hb3⟩
     have st : Steps _ w3 := hb3
     have sk : Below w2.heap.size w2 w3 := belowA st
     replace B := below_steps B (Nat.le_refl _) sk
     replace os := os.steps sk
     replace kk := kk.then_ sk
     clear st sk cs0 cs1 cs2 cs3 cs4 cs5 cs6 cs7 cs8 cs9 cs10 cs11 cs12 cs13 cs14 cs15 ls
     go_wp2_with fail
     refine bodyPost_ret (by simp [results, Tryz.results23, go_sem, ]; rfl) rfl ?_
     exact ⟨_, rfl, IntsR.nil _, belowB⟩
    ·
     have eE : pairsE 0 0 true rad = 0 := by simp [pairsE]; omega
     rw [eE]
     replace PR := PR rfl rfl rfl (by omega) (by omega)
     show Calls _ _ _ _ fun e w' => ∃ u, e = _ ∧ IntsR w' u P ∧ _
     go_enter Tryz.func23, Tryz.ntmps23
     have kk := Keeps.refl w
     go_wp2_with fail
     refine (CL _ belowB).mono ?_
     rintro e w1 ⟨rfl, hb1⟩
     have st : Steps _ w1 := hb1
     have B : Below w.heap.size w w1 := belowA st
     have kp : Keeps w w1 := Keeps.then_ keepsB st
     replace kk := kk.trans kp
     have os : Blk w1 (w.heap.size) 30 #[.bool ka1, .slice ka2 ka3 ka4, .bool ka5, .slice ka6 ka7 ka8, .bool kb1, .slice kb2 kb3 kb4, .bool kb5, .slice kb6 kb7 kb8, .bool kc1, .slice kc2 kc3 kc4, .bool kc5, .slice kc6 kc7 kc8, .bool kd1, .slice kd2 kd3 kd4, .bool kd5, .slice kd6 kd7 kd8] := Blk.stepsK st
     clear kp
     clear st
     go_wp2_with fail
     refine (CN _ belowB).mono ?_
     rintro e w2 ⟨rfl, hb2⟩
     have st : Steps _ w2 := hb2
     have sk : Below w1.heap.size w1 w2 := belowA st
     replace B := below_steps B (Nat.le_refl _) sk
     replace os := os.steps sk
     replace kk := kk.then_ sk
     clear st sk
     obtain ⟨cs0, cs1, cs2, cs3, cs4, cs5, cs6, cs7, cs8, cs9, cs10, cs11, cs12, cs13, cs14, cs15⟩ := os.r15
     have ls := os.lt
     have zs_2 : w.heap.size < w2.heap.size := os.lt
     have zz2 := B.size
     go_wp2_with fail
     refine (LM _ (w2.heap.size) 28 (kk.trans keepsB) ownK).mono ?_
     rintro e w3 ⟨rfl, hb3⟩
     have st : Steps _ w3 := hb3
     have sk : Below w2.heap.size w2 w3 := belowA st
     replace B := below_steps B (Nat.le_refl _) sk
     replace os := os.steps sk
     replace kk := kk.then_ sk
     clear st sk cs0 cs1 cs2 cs3 cs4 cs5 cs6 cs7 cs8 cs9 cs10 cs11 cs12 cs13 cs14 cs15 ls
     obtain ⟨cs0, cs1, cs2, cs3, cs4, cs5, cs6, cs7, cs8, cs9, cs10, cs11, cs12, cs13, cs14, cs15⟩ := os.r15
     have ls := os.lt
     have zs_3 : w.heap.size < w3.heap.size := os.lt
     have zz3 := B.size
     go_wp2_with fail
     refine (PR _ (w3.heap.size) (kk.trans keepsB) belowB ownK).mono ?_
     rintro e w4 ⟨vu, rfl, hvu, hb4⟩
     have st : Steps _ w4 := hb4
     have sk : Below w3.heap.size w3 w4 := belowA st
     replace B := below_steps B (Nat.le_refl _) sk
     have ovc : Blk w4 (w3.heap.size) 89 #[.int .i64 0] := Blk.stepsK st
     replace os := os.steps sk
     replace kk := kk.then_ sk
     clear st sk cs0 cs1 cs2 cs3 cs4 cs5 cs6 cs7 cs8 cs9 cs10 cs11 cs12 cs13 cs14 cs15 ls
     have cvc0 := ovc.q0
     have lvc := ovc.lt
     obtain ⟨ua, uc, rfl⟩ := hvu.shape
     go_wp2_with fail
     refine bodyPost_ret (by simp [results, Tryz.results23, go_sem, cvc0, lvc]; rfl) rfl ?_
     exact ⟨_, rfl, hvu, belowB⟩
  ·
   have eE : pairsE 0 cm L rad = cm := by simp [pairsE, c2]
   have eR : pairsR cm P = [] := if_neg c2
   rw [eE, eR]
   clear PR LM
   go_enter Tryz.func23, Tryz.ntmps23
   have kk := Keeps.refl w
   go_wp2_with fail
   refine (CL _ belowB).mono ?_
   rintro e w1 ⟨rfl, hb1⟩
   have st : Steps _ w1 := hb1
   have B : Below w.heap.size w w1 := belowA st
   have kp : Keeps w w1 := Keeps.then_ keepsB st
   replace kk := kk.trans kp
   have os : Blk w1 (w.heap.size) 30 #[.bool ka1, .slice ka2 ka3 ka4, .bool ka5, .slice ka6 ka7 ka8, .bool kb1, .slice kb2 kb3 kb4, .bool kb5, .slice kb6 kb7 kb8, .bool kc1, .slice kc2 kc3 kc4, .bool kc5, .slice kc6 kc7 kc8, .bool kd1, .slice kd2 kd3 kd4, .bool kd5, .slice kd6 kd7 kd8] := Blk.stepsK st
   clear kp
   clear st
   go_wp2_with fail
   refine (CN _ belowB).mono ?_
   rintro e w2 ⟨rfl, hb2⟩
   have st : Steps _ w2 := hb2
   have sk : Below w1.heap.size w1 w2 := belowA st
   replace B := below_steps B (Nat.le_refl _) sk
   replace os := os.steps sk
   replace kk := kk.then_ sk
   clear st sk
   go_wp2_with fail
   refine bodyPost_ret (by simp [results, Tryz.results23, go_sem, ]; rfl) rfl ?_
   exact ⟨_, rfl, IntsR.nil _, belowB⟩
 ·
  have eE : pairsE cl cm L rad = cl := by simp [pairsE, c1]
  have eR : pairsR cl P = [] := if_neg c1
  rw [eE, eR]
  clear PR LM CN
  go_enter Tryz.func23, Tryz.ntmps23
  have kk := Keeps.refl w
  go_wp2_with fail
  refine (CL _ belowB).mono ?_
  rintro e w1 ⟨rfl, hb1⟩
  have st : Steps _ w1 := hb1
  have B : Below w.heap.size w w1 := belowA st
  have kp : Keeps w w1 := Keeps.then_ keepsB st
  replace kk := kk.trans kp
  have os : Blk w1 (w.heap.size) 30 #[.bool ka1, .slice ka2 ka3 ka4, .bool ka5, .slice ka6 ka7 ka8, .bool kb1, .slice kb2 kb3 kb4, .bool kb5, .slice kb6 kb7 kb8, .bool kc1, .slice kc2 kc3 kc4, .bool kc5, .slice kc6 kc7 kc8, .bool kd1, .slice kd2 kd3 kd4, .bool kd5, .slice kd6 kd7 kd8] := Blk.stepsK st
  clear kp
  clear st
  go_wp2_with fail
  refine bodyPost_ret (by simp [results, Tryz.results23, go_sem, ]; rfl) rfl ?_
  exact ⟨_, rfl, IntsR.nil _, belowB⟩
theorem near_walk {ka1 ka5 kb1 kb5 kc1 kc5 kd1 kd5 : Bool} {ka2 ka6 kb2 kb6 kc2 kc6 kd2 kd6 : Option Addr} {ka3 ka4 ka7 ka8 kb3 kb4 kb7 kb8 kc3 kc4 kc7 kc8 kd3 kd4 kd7 kd8 : Nat} {O : Nat → Option Rat} {vl vm : Value} {l m : PL} (rad : Int) (w : World) (b0 : FB w (.agg #[.bool ka1, .slice ka2 ka3 ka4, .bool ka5, .slice ka6 ka7 ka8]) (O 0)) (b1 : FB w (.agg #[.bool kb1, .slice kb2 kb3 kb4, .bool kb5, .slice kb6 kb7 kb8]) (O 1)) (b2 : FB w (.agg #[.bool kc1, .slice kc2 kc3 kc4, .bool kc5, .slice kc6 kc7 kc8]) (O 2)) (b3 : FB w (.agg #[.bool kd1, .slice kd2 kd3 kd4, .bool kd5, .slice kd6 kd7 kd8]) (O 3)) (fw : FewL O (f4v ka3 kb3 kc3 kd3) (f4v ka7 kb7 kc7 kd7) 4) (hl : Pts w vl l) (hm : Pts w vm m) (rr : (-9223372036854775808 ≤ rad ∧ rad ≤ 9223372036854775807)) :
  Calls Tryz.prog 6 #[.agg #[.bool ka1, .slice ka2 ka3 ka4, .bool ka5, .slice ka6 ka7 ka8, .bool kb1, .slice kb2 kb3 kb4, .bool kb5, .slice kb6 kb7 kb8, .bool kc1, .slice kc2 kc3 kc4, .bool kc5, .slice kc6 kc7 kc8, .bool kd1, .slice kd2 kd3 kd4, .bool kd5, .slice kd6 kd7 kd8], vl, vm, .int .i64 rad] w fun e w' => e = .returned (.bool true) ∧ Steps w w' := by
 have VA := fun w' (k : Keeps w w') => rValid21 w' (b0.keeps k) (b1.keeps k) (b2.keeps k) (b3.keeps k)
 have PA : l.length ≤ 12 → m.length ≤ 12 → limL 16 O (f4v ka3 kb3 kc3 kd3) (f4v ka7 kb7 kc7 kd7) 4 = true → ∀ w', Steps w w' → Calls Tryz.prog 23 #[.agg #[.bool ka1, .slice ka2 ka3 ka4, .bool ka5, .slice ka6 ka7 ka8, .bool kb1, .slice kb2 kb3 kb4, .bool kb5, .slice kb6 kb7 kb8, .bool kc1, .slice kc2 kc3 kc4, .bool kc5, .slice kc6 kc7 kc8, .bool kd1, .slice kd2 kd3 kd4, .bool kd5, .slice kd6 kd7 kd8], vl, vm, .int .i64 rad] w' fun e w2 => ∃ u, e = .returned (.tuple #[u, .int .i64 (pairsE (chkP l) (chkP m) true rad)]) ∧ IntsR w2 u (pairsR (pairsE (chkP l) (chkP m) true rad) (partners (fun i => (O i).getD 0) (rad : Rat) l m l.length)) ∧ Steps w' w2 := fun h1 h2 hL w' s => by
  have k := Keeps.steps s
  have := mPairs rad w' (b0.keeps k) (b1.keeps k) (b2.keeps k) (b3.keeps k) fw (hl.steps s) (hm.steps s) (by omega) (by omega)
  rw [hL] at this
  exact this
 have AP : limL 16 O (f4v ka3 kb3 kc3 kd3) (f4v ka7 kb7 kc7 kd7) 4 = true → chkP l = 0 → ∀ i, i < l.length → ∀ w', Steps w w' → Calls Tryz.prog 13 #[.agg #[.bool ka1, .slice ka2 ka3 ka4, .bool ka5, .slice ka6 ka7 ka8, .bool kb1, .slice kb2 kb3 kb4, .bool kb5, .slice kb6 kb7 kb8, .bool kc1, .slice kc2 kc3 kc4, .bool kc5, .slice kc6 kc7 kc8, .bool kd1, .slice kd2 kd3 kd4, .bool kd5, .slice kd6 kd7 kd8], .agg #[.int .i64 (pt l i).1, .int .i64 (pt l i).2]] w' fun e w2 => ∃ u v, e = .returned (.tuple #[u, v, .int .i64 0]) ∧ FR w2 u (apX (fun i => (O i).getD 0) (pt l i)) ∧ FR w2 v (apY (fun i => (O i).getD 0) (pt l i)) ∧ Steps w' w2 := fun hL cl i hi w' s => by
  have k := Keeps.steps s
  have ok := chk_okP cl i hi
  have hk : apOk O (f4v ka3 kb3 kc3 kd3) (f4v ka7 kb7 kc7 kd7) ((pt l i).1, (pt l i).2) = true := by unfold apOk; rw [hL, Bool.true_and]; exact decide_eq_true ok
  have := mApply (pt l i).1 (pt l i).2 w' (b0.keeps k) (b1.keeps k) (b2.keeps k) (b3.keeps k) fw (by have h1 := ok.1; have h2 := ok.2.1; omega) (by have h1 := ok.2.2.1; have h2 := ok.2.2.2; omega)
  rw [hk] at this
  exact this
 have SA : limL 16 O (f4v ka3 kb3 kc3 kd3) (f4v ka7 kb7 kc7 kd7) 4 = true → chkP l = 0 → ∀ i, i < l.length → sz (apX (fun i => (O i).getD 0) (pt l i)) 60 ∧ sz (apY (fun i => (O i).getD 0) (pt l i)) 60 := fun hL cl i hi => sz_apX (fun j hj => by
  obtain ⟨q, e, z⟩ := limL_sz hL fw j hj
  show sz ((O j).getD 0) 16
  rw [e]
  exact z) (chk_okP cl i hi)
 have OF : ∀ w', Calls Tryz.prog 29 #[.int .i64 rad, .int .i64 1] w' fun e w2 => ∃ v, e = .returned v ∧ FR w2 v (rad : Rat) ∧ Steps w' w2 := fun w' => by
  have := lof21 rad 1 w' rr.1 rr.2 (by decide) (by decide) (by decide)
  rw [one_divQ] at this
  exact this
 have EE : l.length ≤ 12 → m.length ≤ 12 → (pairsE (chkP l) (chkP m) true rad) = 8 ∨ (pairsE (chkP l) (chkP m) true rad) = 2 ∨ ((pairsE (chkP l) (chkP m) true rad) = 0 ∧ chkP l = 0 ∧ chkP m = 0 ∧ 1 ≤ rad ∧ rad ≤ 65536) := fun h1 h2 => by
  have c1 : chkP l = 0 ∨ chkP l = 8 := by unfold chkP; rw [if_neg (by omega)]; split <;> simp
  have c2 : chkP m = 0 ∨ chkP m = 8 := by unfold chkP; rw [if_neg (by omega)]; split <;> simp
  rcases c1 with c1 | c1
  ·
   rcases c2 with c2 | c2
   ·
    rw [c1, c2]
    by_cases hr : rad < 1 ∨ 65536 < rad
    · right; left; simp [pairsE, hr]
    · right; right; exact ⟨by simp [pairsE, hr], rfl, rfl, by omega, by omega⟩
   · left; rw [c1, c2]; simp [pairsE]
  · left; rw [c1]; simp [pairsE]
 obtain ⟨la, lc, rfl⟩ := hl.shape
 obtain ⟨ma, mc, rfl⟩ := hm.shape
 have HPl := Hid.mk_ hl
 have HPm := Hid.mk_ hm
 generalize limL 16 O (f4v ka3 kb3 kc3 kd3) (f4v ka7 kb7 kc7 kd7) 4 = V at *
 obtain ⟨N, hN⟩ : ∃ n, l.length = n := ⟨_, rfl⟩
 obtain ⟨M, hM⟩ : ∃ n, m.length = n := ⟨_, rfl⟩
 have HN := Hid.mk_ hN
 have HM := Hid.mk_ hM
 rw [hN] at PA AP SA EE HPl ⊢
 rw [hM] at PA EE HPm ⊢
 clear b0 b1 b2 b3 fw hl hm rr hN hM
 cases V with
 | false =>
  clear PA AP SA EE OF HN HM HPl HPm
  go_enter Tryz.func6, Tryz.ntmps6
  have kk := Keeps.refl w
  go_wp2_with fail
  refine (lalive21 _).mono ?_
  rintro e w1 ⟨rfl, hb1⟩
  have st : Steps _ w1 := hb1
  have B : Below w.heap.size w w1 := belowA st
  have kp : Keeps w w1 := Keeps.then_ keepsB st
  replace kk := kk.trans kp
  have os : Blk w1 (w.heap.size) 30 #[.bool ka1, .slice ka2 ka3 ka4, .bool ka5, .slice ka6 ka7 ka8, .bool kb1, .slice kb2 kb3 kb4, .bool kb5, .slice kb6 kb7 kb8, .bool kc1, .slice kc2 kc3 kc4, .bool kc5, .slice kc6 kc7 kc8, .bool kd1, .slice kd2 kd3 kd4, .bool kd5, .slice kd6 kd7 kd8] := Blk.stepsK st
  clear kp
  clear st
  go_wp2_with (first
   | (
     (with_reducible show wpList _ _ _ (⟨some 23, _, _, _, _, _⟩ :: _) _ _)
     refine load_big rfl 30 (.tmp 4) rfl (w.heap.size) rfl 30 #[.bool ka1, .slice ka2 ka3 ka4, .bool ka5, .slice ka6 ka7 ka8, .bool kb1, .slice kb2 kb3 kb4, .bool kb5, .slice kb6 kb7 kb8, .bool kc1, .slice kc2 kc3 kc4, .bool kc5, .slice kc6 kc7 kc8, .bool kd1, .slice kd2 kd3 kd4, .bool kd5, .slice kd6 kd7 kd8] _ ownK Tryz.underlying30 rfl (by kernel_rfl) ?_
     skip)
   )
  refine (VA _ (kk.trans keepsB)).mono ?_
  rintro e w2 ⟨rfl, hb2⟩
  have st : Steps _ w2 := hb2
  have sk : Below w1.heap.size w1 w2 := belowA st
  replace B := below_steps B (Nat.le_refl _) sk
  replace os := os.steps sk
  replace kk := kk.then_ sk
  clear st sk
  go_wp2_with fail
  refine bodyPost_ret (by simp [results, Tryz.results6, go_sem, ]; rfl) rfl ?_
  exact ⟨rfl, belowB⟩
 | true =>
  replace PA := fun h1 h2 => PA h1 h2 rfl
  replace AP := AP rfl
  replace SA := SA rfl
  rcases (show 12 < N ∨ (¬ 12 < N ∧ 12 < M) ∨ (¬ 12 < N ∧ ¬ 12 < M) by omega) with g1 | ⟨g1, g2⟩ | ⟨g1, g2⟩
  ·
   clear PA AP SA EE OF HN HM HPl HPm
   have hlt : decide ((12 : Int) < (N : Int)) = true := decide_eq_true (by omega)
   go_enter Tryz.func6, Tryz.ntmps6
   have kk := Keeps.refl w
   go_wp2_with fail
   refine (lalive21 _).mono ?_
   rintro e w1 ⟨rfl, hb1⟩
   have st : Steps _ w1 := hb1
   have B : Below w.heap.size w w1 := belowA st
   have kp : Keeps w w1 := Keeps.then_ keepsB st
   replace kk := kk.trans kp
   have os : Blk w1 (w.heap.size) 30 #[.bool ka1, .slice ka2 ka3 ka4, .bool ka5, .slice ka6 ka7 ka8, .bool kb1, .slice kb2 kb3 kb4, .bool kb5, .slice kb6 kb7 kb8, .bool kc1, .slice kc2 kc3 kc4, .bool kc5, .slice kc6 kc7 kc8, .bool kd1, .slice kd2 kd3 kd4, .bool kd5, .slice kd6 kd7 kd8] := Blk.stepsK st
   clear kp
   clear st
   go_wp2_with (first
    | (
      (with_reducible show wpList _ _ _ (⟨some 23, _, _, _, _, _⟩ :: _) _ _)
      refine load_big rfl 30 (.tmp 4) rfl (w.heap.size) rfl 30 #[.bool ka1, .slice ka2 ka3 ka4, .bool ka5, .slice ka6 ka7 ka8, .bool kb1, .slice kb2 kb3 kb4, .bool kb5, .slice kb6 kb7 kb8, .bool kc1, .slice kc2 kc3 kc4, .bool kc5, .slice kc6 kc7 kc8, .bool kd1, .slice kd2 kd3 kd4, .bool kd5, .slice kd6 kd7 kd8] _ ownK Tryz.underlying30 rfl (by kernel_rfl) ?_
      skip)
    )
   refine (VA _ (kk.trans keepsB)).mono ?_
   rintro e w2 ⟨rfl, hb2⟩
   have st : Steps _ w2 := hb2
   have sk : Below w1.heap.size w1 w2 := belowA st
   replace B := below_steps B (Nat.le_refl _) sk
   replace os := os.steps sk
   replace kk := kk.then_ sk
   clear st sk
   go_wp2_with fail
   refine bodyPost_ret (by simp [results, Tryz.results6, go_sem, ]; rfl) rfl ?_
   exact ⟨rfl, belowB⟩
  ·
   clear PA AP SA EE OF HN HM HPl HPm
   have hlt : decide ((12 : Int) < (N : Int)) = false := decide_eq_false (by omega)
   have hlu : decide ((12 : Int) < (M : Int)) = true := decide_eq_true (by omega)
   go_enter Tryz.func6, Tryz.ntmps6
   have kk := Keeps.refl w
   go_wp2_with fail
   refine (lalive21 _).mono ?_
   rintro e w1 ⟨rfl, hb1⟩
   have st : Steps _ w1 := hb1
   have B : Below w.heap.size w w1 := belowA st
   have kp : Keeps w w1 := Keeps.then_ keepsB st
   replace kk := kk.trans kp
   have os : Blk w1 (w.heap.size) 30 #[.bool ka1, .slice ka2 ka3 ka4, .bool ka5, .slice ka6 ka7 ka8, .bool kb1, .slice kb2 kb3 kb4, .bool kb5, .slice kb6 kb7 kb8, .bool kc1, .slice kc2 kc3 kc4, .bool kc5, .slice kc6 kc7 kc8, .bool kd1, .slice kd2 kd3 kd4, .bool kd5, .slice kd6 kd7 kd8] := Blk.stepsK st
   clear kp
   clear st
   go_wp2_with (first
    | (
      (with_reducible show wpList _ _ _ (⟨some 23, _, _, _, _, _⟩ :: _) _ _)
      refine load_big rfl 30 (.tmp 4) rfl (w.heap.size) rfl 30 #[.bool ka1, .slice ka2 ka3 ka4, .bool ka5, .slice ka6 ka7 ka8, .bool kb1, .slice kb2 kb3 kb4, .bool kb5, .slice kb6 kb7 kb8, .bool kc1, .slice kc2 kc3 kc4, .bool kc5, .slice kc6 kc7 kc8, .bool kd1, .slice kd2 kd3 kd4, .bool kd5, .slice kd6 kd7 kd8] _ ownK Tryz.underlying30 rfl (by kernel_rfl) ?_
      skip)
    )
   refine (VA _ (kk.trans keepsB)).mono ?_
   rintro e w2 ⟨rfl, hb2⟩
   have st : Steps _ w2 := hb2
   have sk : Below w1.heap.size w1 w2 := belowA st
   replace B := below_steps B (Nat.le_refl _) sk
   replace os := os.steps sk
   replace kk := kk.then_ sk
   clear st sk
   go_wp2_with fail
   refine bodyPost_ret (by simp [results, Tryz.results6, go_sem, ]; rfl) rfl ?_
   exact ⟨rfl, belowB⟩
  ·
   have hlt : decide ((12 : Int) < (N : Int)) = false := decide_eq_false (by omega)
   have hlu : decide ((12 : Int) < (M : Int)) = false := decide_eq_false (by omega)
   replace PA := PA (by omega) (by omega)
   rcases EE (by omega) (by omega) with eE | eE | ⟨eE, cl, cm, r0, r1⟩
   ·
    have P0 : ∀ w', Steps w w' → Calls Tryz.prog 23 #[.agg #[.bool ka1, .slice ka2 ka3 ka4, .bool ka5, .slice ka6 ka7 ka8, .bool kb1, .slice kb2 kb3 kb4, .bool kb5, .slice kb6 kb7 kb8, .bool kc1, .slice kc2 kc3 kc4, .bool kc5, .slice kc6 kc7 kc8, .bool kd1, .slice kd2 kd3 kd4, .bool kd5, .slice kd6 kd7 kd8], .slice la N lc, .slice ma M mc, .int .i64 rad] w' fun e w2 => ∃ a c, e = .returned (.tuple #[.slice a 0 c, .int .i64 8]) ∧ Steps w' w2 := fun w' s => by
     have := PA w' s
     rw [eE] at this
     refine this.mono fun e w2 h => ?_
     obtain ⟨u, h1, h2, h3⟩ := h
     obtain ⟨a, c, rfl⟩ := h2.shape
     exact ⟨a, c, h1, h3⟩
    clear PA AP SA EE OF HN HM HPl HPm eE
    go_enter Tryz.func6, Tryz.ntmps6
    have kk := Keeps.refl w
    go_wp2_with fail
    refine (lalive21 _).mono ?_
    rintro e w1 ⟨rfl, hb1⟩
    have st : Steps _ w1 := hb1
    have B : Below w.heap.size w w1 := belowA st
    have kp : Keeps w w1 := Keeps.then_ keepsB st
    replace kk := kk.trans kp
    have os : Blk w1 (w.heap.size) 30 #[.bool ka1, .slice ka2 ka3 ka4, .bool ka5, .slice ka6 ka7 ka8, .bool kb1, .slice kb2 kb3 kb4, .bool kb5, .slice kb6 kb7 kb8, .bool kc1, .slice kc2 kc3 kc4, .bool kc5, .slice kc6 kc7 kc8, .bool kd1, .slice kd2 kd3 kd4, .bool kd5, .slice kd6 kd7 kd8] := Blk.stepsK st
    clear kp
    clear st
    go_wp2_with (first
     | (
       (with_reducible show wpList _ _ _ (⟨some 23, _, _, _, _, _⟩ :: _) _ _)
       refine load_big rfl 30 (.tmp 4) rfl (w.heap.size) rfl 30 #[.bool ka1, .slice ka2 ka3 ka4, .bool ka5, .slice ka6 ka7 ka8, .bool kb1, .slice kb2 kb3 kb4, .bool kb5, .slice kb6 kb7 kb8, .bool kc1, .slice kc2 kc3 kc4, .bool kc5, .slice kc6 kc7 kc8, .bool kd1, .slice kd2 kd3 kd4, .bool kd5, .slice kd6 kd7 kd8] _ ownK Tryz.underlying30 rfl (by kernel_rfl) ?_
       skip)
     )
    refine (VA _ (kk.trans keepsB)).mono ?_
    rintro e w2 ⟨rfl, hb2⟩
    have st : Steps _ w2 := hb2
    have sk : Below w1.heap.size w1 w2 := belowA st
    replace B := below_steps B (Nat.le_refl _) sk
    replace os := os.steps sk
    replace kk := kk.then_ sk
    clear st sk
    go_wp2_with (first
     | (
       (with_reducible show wpList _ _ _ (⟨some 42, _, _, _, _, _⟩ :: _) _ _)
       refine load_big rfl 30 (.tmp 4) rfl (w.heap.size) rfl 30 #[.bool ka1, .slice ka2 ka3 ka4, .bool ka5, .slice ka6 ka7 ka8, .bool kb1, .slice kb2 kb3 kb4, .bool kb5, .slice kb6 kb7 kb8, .bool kc1, .slice kc2 kc3 kc4, .bool kc5, .slice kc6 kc7 kc8, .bool kd1, .slice kd2 kd3 kd4, .bool kd5, .slice kd6 kd7 kd8] _ ownK Tryz.underlying30 rfl (by kernel_rfl) ?_
       skip)
     )
    refine (P0 _ belowB).mono ?_
    rintro e w3 ⟨ua, uc, rfl, hb3⟩
    have st : Steps _ w3 := hb3
    have sk : Below w2.heap.size w2 w3 := belowA st
    replace B := below_steps B (Nat.le_refl _) sk
    replace os := os.steps sk
    replace kk := kk.then_ sk
    clear st sk
    go_wp2_with fail
    refine bodyPost_ret (by simp [results, Tryz.results6, go_sem, ]; rfl) rfl ?_
    exact ⟨rfl, belowB⟩
   ·
    have P0 : ∀ w', Steps w w' → Calls Tryz.prog 23 #[.agg #[.bool ka1, .slice ka2 ka3 ka4, .bool ka5, .slice ka6 ka7 ka8, .bool kb1, .slice kb2 kb3 kb4, .bool kb5, .slice kb6 kb7 kb8, .bool kc1, .slice kc2 kc3 kc4, .bool kc5, .slice kc6 kc7 kc8, .bool kd1, .slice kd2 kd3 kd4, .bool kd5, .slice kd6 kd7 kd8], .slice la N lc, .slice ma M mc, .int .i64 rad] w' fun e w2 => ∃ a c, e = .returned (.tuple #[.slice a 0 c, .int .i64 2]) ∧ Steps w' w2 := fun w' s => by
     have := PA w' s
     rw [eE] at this
     refine this.mono fun e w2 h => ?_
     obtain ⟨u, h1, h2, h3⟩ := h
     obtain ⟨a, c, rfl⟩ := h2.shape
     exact ⟨a, c, h1, h3⟩
    clear PA AP SA EE OF HN HM HPl HPm eE
    go_enter Tryz.func6, Tryz.ntmps6
    have kk := Keeps.refl w
    go_wp2_with fail
    refine (lalive21 _).mono ?_
    rintro e w1 ⟨rfl, hb1⟩
    have st : Steps _ w1 := hb1
    have B : Below w.heap.size w w1 := belowA st
    have kp : Keeps w w1 := Keeps.then_ keepsB st
    replace kk := kk.trans kp
    have os : Blk w1 (w.heap.size) 30 #[.bool ka1, .slice ka2 ka3 ka4, .bool ka5, .slice ka6 ka7 ka8, .bool kb1, .slice kb2 kb3 kb4, .bool kb5, .slice kb6 kb7 kb8, .bool kc1, .slice kc2 kc3 kc4, .bool kc5, .slice kc6 kc7 kc8, .bool kd1, .slice kd2 kd3 kd4, .bool kd5, .slice kd6 kd7 kd8] := Blk.stepsK st
    clear kp
    clear st
    go_wp2_with (first
     | (
       (with_reducible show wpList _ _ _ (⟨some 23, _, _, _, _, _⟩ :: _) _ _)
       refine load_big rfl 30 (.tmp 4) rfl (w.heap.size) rfl 30 #[.bool ka1, .slice ka2 ka3 ka4, .bool ka5, .slice ka6 ka7 ka8, .bool kb1, .slice kb2 kb3 kb4, .bool kb5, .slice kb6 kb7 kb8, .bool kc1, .slice kc2 kc3 kc4, .bool kc5, .slice kc6 kc7 kc8, .bool kd1, .slice kd2 kd3 kd4, .bool kd5, .slice kd6 kd7 kd8] _ ownK Tryz.underlying30 rfl (by kernel_rfl) ?_
       skip)
     )
    refine (VA _ (kk.trans keepsB)).mono ?_
    rintro e w2 ⟨rfl, hb2⟩
    have st : Steps _ w2 := hb2
    have sk : Below w1.heap.size w1 w2 := belowA st
    replace B := below_steps B (Nat.le_refl _) sk
    replace os := os.steps sk
    replace kk := kk.then_ sk
    clear st sk
    go_wp2_with (first
     | (
       (with_reducible show wpList _ _ _ (⟨some 42, _, _, _, _, _⟩ :: _) _ _)
       refine load_big rfl 30 (.tmp 4) rfl (w.heap.size) rfl 30 #[.bool ka1, .slice ka2 ka3 ka4, .bool ka5, .slice ka6 ka7 ka8, .bool kb1, .slice kb2 kb3 kb4, .bool kb5, .slice kb6 kb7 kb8, .bool kc1, .slice kc2 kc3 kc4, .bool kc5, .slice kc6 kc7 kc8, .bool kd1, .slice kd2 kd3 kd4, .bool kd5, .slice kd6 kd7 kd8] _ ownK Tryz.underlying30 rfl (by kernel_rfl) ?_
       skip)
     )
    refine (P0 _ belowB).mono ?_
    rintro e w3 ⟨ua, uc, rfl, hb3⟩
    have st : Steps _ w3 := hb3
    have sk : Below w2.heap.size w2 w3 := belowA st
    replace B := below_steps B (Nat.le_refl _) sk
    replace os := os.steps sk
    replace kk := kk.then_ sk
    clear st sk
    go_wp2_with fail
    refine bodyPost_ret (by simp [results, Tryz.results6, go_sem, ]; rfl) rfl ?_
    exact ⟨rfl, belowB⟩
   ·
    have ht := SA cl
    replace AP := AP cl
    have zr : sz (rad : Rat) 2 := sz_coord ⟨by omega, by omega⟩
    have NS : ∀ i, _ := fun i => near_spec (apX (fun i => (O i).getD 0) (pt l i)) (apY (fun i => (O i).getD 0) (pt l i)) (rad : Rat) m
    rw [HM.out] at NS
    have PG : ∀ i, i < N → (partners (fun i => (O i).getD 0) (rad : Rat) l m N).getD i 0 = (prtP (apX (fun i => (O i).getD 0) (pt l i)) (apY (fun i => (O i).getD 0) (pt l i)) (rad : Rat) m M).1 := fun i hi => by
     rw [partners_get (fun i => (O i).getD 0) (rad : Rat) l m N i hi, HM.out]
    have PLN := partners_len (fun i => (O i).getD 0) (rad : Rat) l m N
    have DI : ∀ i, i < N → ∀ k, k < M → ∀ (w' : World) (u v : Value), FR w' u (apX (fun i => (O i).getD 0) (pt l i)) → FR w' v (apY (fun i => (O i).getD 0) (pt l i)) → Calls Tryz.prog 30 #[u, v, .agg #[.int .i64 (pt m k).1, .int .i64 (pt m k).2]] w' fun e w2 => ∃ d, e = .returned d ∧ FR w2 d (apartQ (apX (fun i => (O i).getD 0) (pt l i)) (apY (fun i => (O i).getD 0) (pt l i)) (pt m k)) ∧ Steps w' w2 := fun i hi k hk w' u v hu hv => prapart (pt m k).1 (pt m k).2 w' hu hv ((ht i hi).1.mono (by omega)) ((ht i hi).2.mono (by omega)) (chk_okP cm k (by have := HM.out; omega))
    have CM : ∀ i, i < N → ∀ k, k < M → ∀ (w' : World) (u v : Value), FR w' u (apartQ (apX (fun i => (O i).getD 0) (pt l i)) (apY (fun i => (O i).getD 0) (pt l i)) (pt m k)) → FR w' v (prtP (apX (fun i => (O i).getD 0) (pt l i)) (apY (fun i => (O i).getD 0) (pt l i)) (rad : Rat) m M).2 → Calls Tryz.prog 21 #[u, v] w' fun e w2 => e = .returned (.tuple #[.int .i64 (cmpQ (apartQ (apX (fun i => (O i).getD 0) (pt l i)) (apY (fun i => (O i).getD 0) (pt l i)) (pt m k)) (prtP (apX (fun i => (O i).getD 0) (pt l i)) (apY (fun i => (O i).getD 0) (pt l i)) (rad : Rat) m M).2), .int .i64 0]) ∧ Steps w' w2 := fun i hi k hk w' u v hu hv => fCmpQ w' hu hv (sz_apart (ht i hi).1 (ht i hi).2 (chk_okP cm k (by have := HM.out; omega))) (prtP_sz (ht i hi).1 (ht i hi).2 zr cm M (by have := HM.out; omega)) (by omega)
    have CR : ∀ i, i < N → ∀ (w' : World) (u v : Value), FR w' u (prtP (apX (fun i => (O i).getD 0) (pt l i)) (apY (fun i => (O i).getD 0) (pt l i)) (rad : Rat) m M).2 → FR w' v (rad : Rat) → Calls Tryz.prog 21 #[u, v] w' fun e w2 => e = .returned (.tuple #[.int .i64 (cmpQ (prtP (apX (fun i => (O i).getD 0) (pt l i)) (apY (fun i => (O i).getD 0) (pt l i)) (rad : Rat) m M).2 (rad : Rat)), .int .i64 0]) ∧ Steps w' w2 := fun i hi w' u v hu hv => fCmpQ w' hu hv (prtP_sz (ht i hi).1 (ht i hi).2 zr cm M (by have := HM.out; omega)) zr (by omega)
    have P0 : ∀ w', Steps w w' → Calls Tryz.prog 23 #[.agg #[.bool ka1, .slice ka2 ka3 ka4, .bool ka5, .slice ka6 ka7 ka8, .bool kb1, .slice kb2 kb3 kb4, .bool kb5, .slice kb6 kb7 kb8, .bool kc1, .slice kc2 kc3 kc4, .bool kc5, .slice kc6 kc7 kc8, .bool kd1, .slice kd2 kd3 kd4, .bool kd5, .slice kd6 kd7 kd8], .slice la N lc, .slice ma M mc, .int .i64 rad] w' fun e w2 => ∃ a c, e = .returned (.tuple #[.slice a N c, .int .i64 0]) ∧ IntsR w2 (.slice a N c) (partners (fun i => (O i).getD 0) (rad : Rat) l m N) ∧ Steps w' w2 := fun w' s => by
     have := PA w' s
     rw [eE] at this
     refine this.mono fun e w2 h => ?_
     obtain ⟨u, h1, h2, h3⟩ := h
     obtain ⟨a, c, rfl⟩ := h2.shape
     have e9 : (pairsR 0 (partners (fun i => (O i).getD 0) (rad : Rat) l m N)).length = N := PLN
     rw [e9] at h1 h2
     exact ⟨a, c, h1, h2, h3⟩
    obtain ⟨PQ, hPQ⟩ : ∃ f, partners (fun i => (O i).getD 0) (rad : Rat) l m N = f := ⟨_, rfl⟩
    obtain ⟨XX, hXX⟩ : ∃ f : Nat → Rat, ∀ i, apX (fun i => (O i).getD 0) (pt l i) = f i := ⟨_, fun _ => rfl⟩
    obtain ⟨YY, hYY⟩ : ∃ f : Nat → Rat, ∀ i, apY (fun i => (O i).getD 0) (pt l i) = f i := ⟨_, fun _ => rfl⟩
    simp only [hXX, hYY, hPQ] at AP DI CM CR NS P0 PG PLN
    obtain ⟨DD, hDD⟩ : ∃ f : Nat → Nat → Rat, ∀ i k, apartQ (XX i) (YY i) (pt m k) = f i k := ⟨_, fun _ _ => rfl⟩
    obtain ⟨PP, hPP⟩ : ∃ f : Nat → Int × Rat, ∀ i, prtP (XX i) (YY i) (rad : Rat) m M = f i := ⟨_, fun _ => rfl⟩
    simp only [hDD, hPP] at DI CM CR NS PG
    generalize (rad : Rat) = RQ at OF CR NS
    have NS' := Hid.mk_ NS
    have PG' := Hid.mk_ PG
    have PN' := Hid.mk_ PLN
    clear PA SA EE eE cl cm r0 r1 ht zr hPQ hXX hYY hDD hPP NS PG PLN
    go_enter Tryz.func6, Tryz.ntmps6
    have kk := Keeps.refl w
    go_wp2_with fail
    refine (lalive21 _).mono ?_
    rintro e w1 ⟨rfl, hb1⟩
    have st : Steps _ w1 := hb1
    have B : Below w.heap.size w w1 := belowA st
    have kp : Keeps w w1 := Keeps.then_ keepsB st
    replace kk := kk.trans kp
    have os : Blk w1 (w.heap.size) 30 #[.bool ka1, .slice ka2 ka3 ka4, .bool ka5, .slice ka6 ka7 ka8, .bool kb1, .slice kb2 kb3 kb4, .bool kb5, .slice kb6 kb7 kb8, .bool kc1, .slice kc2 kc3 kc4, .bool kc5, .slice kc6 kc7 kc8, .bool kd1, .slice kd2 kd3 kd4, .bool kd5, .slice kd6 kd7 kd8] := Blk.stepsK st
    clear kp
    clear st
    go_wp2_with (first
     | (
       (with_reducible show wpList _ _ _ (⟨some 23, _, _, _, _, _⟩ :: _) _ _)
       refine load_big rfl 30 (.tmp 4) rfl (w.heap.size) rfl 30 #[.bool ka1, .slice ka2 ka3 ka4, .bool ka5, .slice ka6 ka7 ka8, .bool kb1, .slice kb2 kb3 kb4, .bool kb5, .slice kb6 kb7 kb8, .bool kc1, .slice kc2 kc3 kc4, .bool kc5, .slice kc6 kc7 kc8, .bool kd1, .slice kd2 kd3 kd4, .bool kd5, .slice kd6 kd7 kd8] _ ownK Tryz.underlying30 rfl (by kernel_rfl) ?_
       skip)
     )
    refine (VA _ (kk.trans keepsB)).mono ?_
    rintro e w2 ⟨rfl, hb2⟩
    have st : Steps _ w2 := hb2
    have sk : Below w1.heap.size w1 w2 := belowA st
    replace B := below_steps B (Nat.le_refl _) sk
    replace os := os.steps sk
    replace kk := kk.then_ sk
    clear st sk
    go_wp2_with (first
     | (
       (with_reducible show wpList _ _ _ (⟨some 42, _, _, _, _, _⟩ :: _) _ _)
       refine load_big rfl 30 (.tmp 4) rfl (w.heap.size) rfl 30 #[.bool ka1, .slice ka2 ka3 ka4, .bool ka5, .slice ka6 ka7 ka8, .bool kb1, .slice kb2 kb3 kb4, .bool kb5, .slice kb6 kb7 kb8, .bool kc1, .slice kc2 kc3 kc4, .bool kc5, .slice kc6 kc7 kc8, .bool kd1, .slice kd2 kd3 kd4, .bool kd5, .slice kd6 kd7 kd8] _ ownK Tryz.underlying30 rfl (by kernel_rfl) ?_
       skip)
     )
    refine (P0 _ belowB).mono ?_
    rintro e w3 ⟨ua, uc, rfl, hvu, hb3⟩
    have st : Steps _ w3 := hb3
    have sk : Below w2.heap.size w2 w3 := belowA st
    replace B := below_steps B (Nat.le_refl _) sk
    replace os := os.steps sk
    replace kk := kk.then_ sk
    clear st sk
    have HI := Hid.mk_ hvu
    clear hvu
    have BP : Below w.heap.size w w3 := B
    have zs0 : w.heap.size < w3.heap.size := os.lt
    have AP2 : ∀ i, i < N → ∀ w', Steps w3 w' → _ := fun i hi w' s => AP i hi w' (below_steps BP (Nat.le_refl _) s)
    have HL := Hid.mk_ (HPl.out.steps BP)
    have HMm := Hid.mk_ (HPm.out.steps BP)
    clear B kk AP HPl HPm P0
    have kk := Keeps.refl w3
    have B := Below.refl w3.heap.size w3
    go_wp2_with fail
    go_loopw [12] (fun sl0 wr => ∃ (i : Nat), i ≤ N ∧ sl0 = .int .i64 i ∧ Blk wr (w.heap.size) 30 #[.bool ka1, .slice ka2 ka3 ka4, .bool ka5, .slice ka6 ka7 ka8, .bool kb1, .slice kb2 kb3 kb4, .bool kb5, .slice kb6 kb7 kb8, .bool kc1, .slice kc2 kc3 kc4, .bool kc5, .slice kc6 kc7 kc8, .bool kd1, .slice kd2 kd3 kd4, .bool kd5, .slice kd6 kd7 kd8] ∧ Below w3.heap.size w3 wr ∧ Keeps w3 wr) (fun sl0 _ => N - (intOf sl0).toNat)
    case atStart => exact ⟨0, by omega, rfl, ownK, belowB, keepsB⟩
    case round =>
     rename World => wo
     clear os
     try clear B
     try clear kk
     obtain ⟨i, hi, rfl, os, B, kk⟩ := hrel
     obtain ⟨cs0, cs1, cs2, cs3, cs4, cs5, cs6, cs7, cs8, cs9, cs10, cs11, cs12, cs13, cs14, cs15⟩ := os.r15
     have ls := os.lt
     rcases Nat.lt_or_ge i N with i4 | i4
     ·
      have hltN : decide ((i : Int) < (N : Int)) = true := decide_eq_true (by omega)
      obtain ⟨b, of, rfl, hbl, hx0, hy0⟩ := HL.out.at (a := i) (by have := HN.out; omega)
      obtain ⟨b3, of3, rfl, hb3, hp0⟩ := HI.out.at' (t := i) (by have := PN'.out; omega)
      rw [PG'.out i i4] at hp0
      have ap := AP2 i i4
      have di := DI i i4
      have cmp := CM i i4
      have cr := CR i i4
      obtain ⟨⟨n1, n2⟩, n3, n4, n5, n6⟩ := NS'.out i
      obtain ⟨pk, hpk⟩ : ∃ z, (PP i).1 = z := ⟨_, rfl⟩
      obtain ⟨LS, hLS⟩ : ∃ z, (PP i).2 = z := ⟨_, rfl⟩
      rw [hpk] at hp0 n1 n2 n3 n4 n6
      rw [hLS] at cmp cr n3 n4 n5 n6
      have n7 := Hid.mk_ n6
      clear hpk hLS n6
      have dl : decide (pk < -1) = false := decide_eq_false (by omega)
      have dm : decide ((M : Int) ≤ pk) = false := decide_eq_false (by omega)
      go_wp2_with fail
      have zs_10 : w.heap.size < wo.heap.size := os.lt
      have zz10 := B.size
      go_upto_region 12 with fail
      refine Reg.wp_chain_n (fun N0 D v W => Below w3.heap.size w3 W ∧ Keeps wo W ∧ N0 ≤ W.heap.size ∧ Blk W (w.heap.size) 30 #[.bool ka1, .slice ka2 ka3 ka4, .bool ka5, .slice ka6 ka7 ka8, .bool kb1, .slice kb2 kb3 kb4, .bool kb5, .slice kb6 kb7 kb8, .bool kc1, .slice kc2 kc3 kc4, .bool kc5, .slice kc6 kc7 kc8, .bool kd1, .slice kd2 kd3 kd4, .bool kd5, .slice kd6 kd7 kd8] ∧ (D 10 = true → ∃ g : Nat, v 10 = .pointer (some ⟨g, 0, none⟩) ∧ N0 ≤ g ∧ g < W.heap.size ∧ (D 12 = false → Blk W g 28 #[.bool false, .slice none 0 0, .bool false, .slice none 0 0]) ∧ (D 12 = true → D 5 = true ∧ ∃ cs, tupAt 0 (v 5) = .agg cs ∧ Blk W g 28 cs)) ∧ (D 11 = true → ∃ g : Nat, v 11 = .pointer (some ⟨g, 0, none⟩) ∧ N0 ≤ g ∧ g < W.heap.size ∧ (D 13 = false → Blk W g 28 #[.bool false, .slice none 0 0, .bool false, .slice none 0 0]) ∧ (D 13 = true → D 5 = true ∧ ∃ cs, tupAt 1 (v 5) = .agg cs ∧ Blk W g 28 cs)) ∧ (D 10 = true → D 11 = true → v 10 ≠ v 11))
       (Reg.inl [5, 10, 11, 12, 13]) (Reg.gv [(5, IsFr2E 0), (10, IsPtr), (11, IsPtr)]) (gw [(5, GFr2E ((XX i)) ((YY i)) 0)]) (fun _ => Keeps) (fun _ _ => False) (Reg.pl [(12, [(5, some 82), (10, some 13)]), (13, [(5, some 82), (11, some 14)]), (15, [(5, some 82), (10, some 13), (11, some 14)])]) (Reg.pl [(10, [12]), (5, [12, 13]), (11, [13])])
       (by kernel_rfl) (by kernel_rfl) (by kernel_rfl) (Reg.gv_some _ (by intro p hp; simp only [List.mem_cons, List.not_mem_nil, or_false] at hp; rcases hp with rfl | rfl | rfl <;> first | exact ⟨_, rfl⟩ | exact ⟨_, 0, rfl⟩ | exact ⟨_, none, 0, 0, rfl⟩ | exact ⟨_, false, none, 0, 0, rfl⟩ | exact ⟨_, false, none, 0, 0, false, none, 0, 0, rfl⟩ | exact ⟨_, false, none, 0, 0, false, none, 0, 0, false, none, 0, 0, false, none, 0, 0, rfl⟩)) (fun N0 hN0 => ⟨fun v => ?_, fun D v v' W hv hj => ?_, fun D v k j W W' x _ _ _ _ hk hg => gw_keeps _ (by intro p hp; simp only [List.mem_cons, List.not_mem_nil, or_false] at hp; rcases hp with rfl <;> first | exact GFr.keeps | exact GFrE.keeps | exact GNu.keeps | exact GNuE.keeps | exact GLi.keeps | exact GFr2.keeps | exact GFr2E.keeps) hk hg, fun _ _ _ _ h => h.elim, fun ops' Q' hops hQ => ?_⟩)
      · exact ⟨belowB, keepsB, by first | with_reducible exact Nat.le_of_eq hN0.out | (simp only [World.size_drew]; with_reducible exact Nat.le_of_eq hN0.out), ownK, (fun h => Bool.noConfusion h), (fun h => Bool.noConfusion h), (fun h => Bool.noConfusion h)⟩
      ·
       obtain ⟨j0, jk, jn, b_s, a_10, a_11, q_10_11⟩ := hj
       exact ⟨j0, jk, jn, b_s, fun h => by obtain ⟨g, e1, e2, e3, e4, e5⟩ := a_10 h; exact ⟨g, (hv 10 h) ▸ e1, e2, e3, e4, fun h => by obtain ⟨d, cs, e, hb⟩ := e5 h; exact ⟨d, cs, (hv 5 d) ▸ e, hb⟩⟩, fun h => by obtain ⟨g, e1, e2, e3, e4, e5⟩ := a_11 h; exact ⟨g, (hv 11 h) ▸ e1, e2, e3, e4, fun h => by obtain ⟨d, cs, e, hb⟩ := e5 h; exact ⟨d, cs, (hv 5 d) ▸ e, hb⟩⟩, fun h h' => (hv 10 h) ▸ (hv 11 h') ▸ q_10_11 h h'⟩
      have eN := hN0.out
      try simp only [World.size_alloc, World.size_setCell, World.size_drew, World.heap_drewN] at eN
      have i_s : w.heap.size < N0 := by first | omega | (have h := os.lt; omega)
      have iw : w3.heap.size ≤ N0 := by first | omega | (have h := B.size; omega)
      clear cs0 cs1 cs2 cs3 cs4 cs5 cs6 cs7 cs8 cs9 cs10 cs11 cs12 cs13 cs14 cs15 ls
      clear hN0
      apply Reg.RP rfl rfl rfl 77 rfl rfl
      ·
       intro D v' W' hc hj hf K hK
       obtain ⟨j0, jk, jn, b_s, a_10, a_11, q_10_11⟩ := hj
       obtain ⟨c0, c1, c2, c3, c4, c5, c6, c7, c8, c9, c10, c11, c12, c13, c14, c15⟩ := b_s.r15
       go_step
       exact hK.out
      · rfl
      refine Reg.RP0 78 ?_
      refine Reg.RP0 79 ?_
      refine Reg.RP0 80 ?_
      apply Reg.RP rfl rfl rfl 81 rfl rfl
      ·
       intro D v' W' hc hj hf K hK
       obtain ⟨j0, jk, jn, b_s, a_10, a_11, q_10_11⟩ := hj
       have x0_ : W'.cell? ⟨b, of + i * 2, none⟩ = some (.int .i64 (pt l i).1) := (j0.cell (p := ⟨b, _, none⟩) hbl).trans hx0
       have x1_ : W'.cell? ⟨b, of + i * 2 + 1, none⟩ = some (.int .i64 (pt l i).2) := (j0.cell (p := ⟨b, _, none⟩) hbl).trans hy0
       go_step
       exact hK.out
      · rfl
      refine Reg.RC_call rfl (tlt rfl) rfl (fun D v' W' hc hj hf K hK => ?_) ?_
      ·
       obtain ⟨j0, jk, jn, b_s, a_10, a_11, q_10_11⟩ := hj
       clear hf
       go_step
       refine (ap W' j0).mono ?_
       rintro e W2 ⟨u, u', rfl, hu, hu', hs⟩
       obtain ⟨xa1, xa2, xa3, xa4, xa5, xa6, xa7, xa8, rfl⟩ := hu.shape
       obtain ⟨xb1, xb2, xb3, xb4, xb5, xb6, xb7, xb8, rfl⟩ := hu'.shape
       exact hK.out _ W2 (Keeps.steps hs) ⟨jst j0 hs, jk.then_ hs, jsz jn hs, b_s.steps hs, fun h => by obtain ⟨g, e1, e2, e3, e4, e5⟩ := a_10 h; exact ⟨g, e1, e2, Nat.lt_of_lt_of_le e3 (hs).size, fun h => (e4 h).steps hs, fun h => Bool.noConfusion ((hc.2 12 (by decide)).symm.trans h)⟩, fun h => by obtain ⟨g, e1, e2, e3, e4, e5⟩ := a_11 h; exact ⟨g, e1, e2, Nat.lt_of_lt_of_le e3 (hs).size, fun h => (e4 h).steps hs, fun h => Bool.noConfusion ((hc.2 13 (by decide)).symm.trans h)⟩, q_10_11⟩ ⟨_, _, rfl, hu, hu'⟩ ⟨_, _, _, _, _, _, _, _, _, _, _, _, _, _, _, _, rfl⟩
      rintro _ ⟨xa1, xa2, xa3, xa4, xa5, xa6, xa7, xa8, xb1, xb2, xb3, xb4, xb5, xb6, xb7, xb8, rfl⟩
      refine Reg.at182 rfl ?_
      refine Reg.RP0 76 ?_
      refine Reg.RP0 83 ?_
      refine Reg.RP0 84 ?_
      refine Reg.RP0 85 ?_
      refine Reg.RC_call rfl (tlt rfl) rfl (fun D v' W' hc hj hf K hK => ?_) ?_
      ·
       obtain ⟨j0, jk, jn, b_s, a_10, a_11, q_10_11⟩ := hj
       go_step
       have hs : ∀ o : Obj, Steps W' (W'.alloc o) := fun o => (Below.refl _ _).alloc (Nat.le_refl _) o
       exact hK.out _ _ (Keeps.steps (hs _)) ⟨jst j0 (hs _), jk.then_ (hs _), jsz jn (hs _), b_s.steps (hs _), fun _ => ⟨W'.heap.size, rfl, jn, by rw [World.size_alloc]; omega, fun _ => Blk.new _ _ _, fun h => Bool.noConfusion ((hc.2 12 (by decide)).symm.trans h)⟩, fun h => by obtain ⟨g, e1, e2, e3, e4, e5⟩ := a_11 h; exact ⟨g, e1, e2, Nat.lt_of_lt_of_le e3 ((hs _)).size, fun h => (e4 h).steps (hs _), fun h => by obtain ⟨d, cs, e, hb⟩ := e5 h; exact ⟨d, cs, e, hb.steps (hs _)⟩⟩, fun _ h' => by obtain ⟨g, e1, e2, e3, e4, e5⟩ := a_11 h'; exact fun e => Reg.ptr_ne e3 (e.trans e1)⟩ trivial ⟨_, rfl⟩
      rintro _ ⟨p13, rfl⟩
      refine Reg.at182 rfl ?_
      refine Reg.RC_call rfl (tlt rfl) rfl (fun D v' W' hc hj hf K hK => ?_) ?_
      ·
       obtain ⟨j0, jk, jn, b_s, a_10, a_11, q_10_11⟩ := hj
       go_step
       have hs : ∀ o : Obj, Steps W' (W'.alloc o) := fun o => (Below.refl _ _).alloc (Nat.le_refl _) o
       exact hK.out _ _ (Keeps.steps (hs _)) ⟨jst j0 (hs _), jk.then_ (hs _), jsz jn (hs _), b_s.steps (hs _), fun h => by obtain ⟨g, e1, e2, e3, e4, e5⟩ := a_10 h; exact ⟨g, e1, e2, Nat.lt_of_lt_of_le e3 ((hs _)).size, fun h => (e4 h).steps (hs _), fun h => by obtain ⟨d, cs, e, hb⟩ := e5 h; exact ⟨d, cs, e, hb.steps (hs _)⟩⟩, fun _ => ⟨W'.heap.size, rfl, jn, by rw [World.size_alloc]; omega, fun _ => Blk.new _ _ _, fun h => Bool.noConfusion ((hc.2 13 (by decide)).symm.trans h)⟩, fun h _ => by obtain ⟨g, e1, e2, e3, e4, e5⟩ := a_10 h; exact fun e => Reg.ptr_ne e3 (e.symm.trans e1)⟩ trivial ⟨_, rfl⟩
      rintro _ ⟨p14, rfl⟩
      refine Reg.at182 rfl ?_
      refine Reg.RC_call rfl (by intro t ht; cases ht) rfl (fun D v' W' hc hj hf K hK => ?_) (fun _ _ => Reg.RC_at (b := ⟨_, _⟩) rfl ?_)
      ·
       obtain ⟨j0, jk, jn, b_s, a_10, a_11, q_10_11⟩ := hj
       have f := hf (10, some 13) (.tail _ (.head _)) rfl
       have e6 : v' 10 = .pointer (some ⟨p13, 0, none⟩) := f.2.1
       obtain ⟨g, e1, e2, e3, e4, e5⟩ := a_10 f.1
       obtain rfl : p13 = g := Reg.ptr_eq (e6.symm.trans e1)
       have hb := e4 hc.1
       clear e4 e5
       have fc := hf (5, some 82) (.head _) rfl
       have ec : tupAt 0 (v' 5) = .agg #[.bool xa1, .slice xa2 xa3 xa4, .bool xa5, .slice xa6 xa7 xa8] := by rw [fc.2.1]; rfl
       have ff := hb.fr
       obtain ⟨cc0, cc1, cc2, cc3⟩ := hb.r3
       go_step
       exact hK.out undef _ (keeps4 hb rfl) ⟨(below4 j0 (by show w3.heap.size ≤ p13; omega)), jk.trans (keeps4 hb rfl), by simpa using jn, (b_s).far4 (show w.heap.size ≠ p13 by omega), fun _ => ⟨p13, e1, e2, by simpa using e3, fun h => Bool.noConfusion h, fun _ => ⟨fc.1, _, ec, (Blk.set2 (cs' := #[.bool xa1, .slice xa2 xa3 xa4, .bool xa5, .slice xa6 xa7 xa8]) (Blk.set2 (cs' := #[.bool xa1, .slice xa2 xa3 xa4, .bool xa5, .slice none 0 0]) (Blk.set2 (cs' := #[.bool xa1, .slice xa2 xa3 xa4, .bool false, .slice none 0 0]) (Blk.set2 (cs' := #[.bool xa1, .slice none 0 0, .bool false, .slice none 0 0]) hb (i := 0) rfl) (i := 1) rfl) (i := 2) rfl) (i := 3) rfl)⟩⟩, fun h => by obtain ⟨g, k1, k2, k3, k4, k5⟩ := a_11 h; have hne : g ≠ p13 := fun e => (q_10_11 f.1 h) (by rw [e6, k1, e]); exact ⟨g, k1, k2, by simpa using k3, fun h => (k4 h).far4 hne, fun h => by obtain ⟨d, cs, e, hb2⟩ := k5 h; exact ⟨d, cs, e, (hb2).far4 hne⟩⟩, q_10_11⟩ trivial trivial
      refine Reg.RC_call rfl (by intro t ht; cases ht) rfl (fun D v' W' hc hj hf K hK => ?_) (fun _ _ => Reg.RC_at (b := ⟨_, _⟩) rfl ?_)
      ·
       obtain ⟨j0, jk, jn, b_s, a_10, a_11, q_10_11⟩ := hj
       have f := hf (11, some 14) (.tail _ (.head _)) rfl
       have e6 : v' 11 = .pointer (some ⟨p14, 0, none⟩) := f.2.1
       obtain ⟨g, e1, e2, e3, e4, e5⟩ := a_11 f.1
       obtain rfl : p14 = g := Reg.ptr_eq (e6.symm.trans e1)
       have hb := e4 hc.1
       clear e4 e5
       have fc := hf (5, some 82) (.head _) rfl
       have ec : tupAt 1 (v' 5) = .agg #[.bool xb1, .slice xb2 xb3 xb4, .bool xb5, .slice xb6 xb7 xb8] := by rw [fc.2.1]; rfl
       have ff := hb.fr
       obtain ⟨cc0, cc1, cc2, cc3⟩ := hb.r3
       go_step
       exact hK.out undef _ (keeps4 hb rfl) ⟨(below4 j0 (by show w3.heap.size ≤ p14; omega)), jk.trans (keeps4 hb rfl), by simpa using jn, (b_s).far4 (show w.heap.size ≠ p14 by omega), fun h => by obtain ⟨g, k1, k2, k3, k4, k5⟩ := a_10 h; have hne : g ≠ p14 := fun e => (q_10_11 h f.1) (by rw [e6, k1, e]); exact ⟨g, k1, k2, by simpa using k3, fun h => (k4 h).far4 hne, fun h => by obtain ⟨d, cs, e, hb2⟩ := k5 h; exact ⟨d, cs, e, (hb2).far4 hne⟩⟩, fun _ => ⟨p14, e1, e2, by simpa using e3, fun h => Bool.noConfusion h, fun _ => ⟨fc.1, _, ec, (Blk.set2 (cs' := #[.bool xb1, .slice xb2 xb3 xb4, .bool xb5, .slice xb6 xb7 xb8]) (Blk.set2 (cs' := #[.bool xb1, .slice xb2 xb3 xb4, .bool xb5, .slice none 0 0]) (Blk.set2 (cs' := #[.bool xb1, .slice xb2 xb3 xb4, .bool false, .slice none 0 0]) (Blk.set2 (cs' := #[.bool xb1, .slice none 0 0, .bool false, .slice none 0 0]) hb (i := 0) rfl) (i := 1) rfl) (i := 2) rfl) (i := 3) rfl)⟩⟩, q_10_11⟩ trivial trivial
      refine Reg.RP0 15 ?_
      refine Reg.RC_end (fun Dn v' w11 hd hj hf => ?_)
      obtain ⟨j0, jk, jn, b_s, a_10, a_11, q_10_11⟩ := hj
      have B := j0
      have os := b_s
      clear b_s
      have f := hf (10, some 13) (.tail _ (.head _)) rfl
      have e6_ : v' 10 = .pointer (some ⟨p13, 0, none⟩) := f.2.1
      obtain ⟨g, e1_, zvx, -, -, e5_⟩ := a_10 f.1
      obtain rfl : p13 = g := Reg.ptr_eq (e6_.symm.trans e1_)
      obtain ⟨-, cs_, ee, ovx⟩ := e5_ (hd 12 (Nat.le_of_ble_eq_true rfl))
      have ef : tupAt 0 (v' 5) = .agg #[.bool xa1, .slice xa2 xa3 xa4, .bool xa5, .slice xa6 xa7 xa8] := by rw [(hf (5, some 82) (.head _) rfl).2.1]; rfl
      obtain rfl : #[.bool xa1, .slice xa2 xa3 xa4, .bool xa5, .slice xa6 xa7 xa8] = cs_ := by have := ef.symm.trans ee; simpa only [Value.tuple.injEq, Value.agg.injEq, Array.mk.injEq, List.cons.injEq, and_true, true_and] using this
      clear ee ef f e5_ e1_ e6_
      have f := hf (11, some 14) (.tail _ (.tail _ (.head _))) rfl
      have e6_ : v' 11 = .pointer (some ⟨p14, 0, none⟩) := f.2.1
      obtain ⟨g, e1_, zvy, -, -, e5_⟩ := a_11 f.1
      obtain rfl : p14 = g := Reg.ptr_eq (e6_.symm.trans e1_)
      obtain ⟨-, cs_, ee, ovy⟩ := e5_ (hd 13 (Nat.le_of_ble_eq_true rfl))
      have ef : tupAt 1 (v' 5) = .agg #[.bool xb1, .slice xb2 xb3 xb4, .bool xb5, .slice xb6 xb7 xb8] := by rw [(hf (5, some 82) (.head _) rfl).2.1]; rfl
      obtain rfl : #[.bool xb1, .slice xb2 xb3 xb4, .bool xb5, .slice xb6 xb7 xb8] = cs_ := by have := ef.symm.trans ee; simpa only [Value.tuple.injEq, Value.agg.injEq, Array.mk.injEq, List.cons.injEq, and_true, true_and] using this
      clear ee ef f e5_ e1_ e6_
      have y_10_11 : p13 ≠ p14 := fun e => q_10_11 (hf (10, some 13) (.tail _ (.head _)) rfl).1 (hf (11, some 14) (.tail _ (.tail _ (.head _))) rfl).1 (by have h1 := (hf (10, some 13) (.tail _ (.head _)) rfl).2.1; have h2 := (hf (11, some 14) (.tail _ (.tail _ (.head _))) rfl).2.1; rw [h1, h2]; show Value.pointer _ = .pointer _; rw [e])
      have F2_ := GFr2E.get (r := (XX i)) (s := (YY i)) (u := .agg #[.bool xa1, .slice xa2 xa3 xa4, .bool xa5, .slice xa6 xa7 xa8]) (v := .agg #[.bool xb1, .slice xb2 xb3 xb4, .bool xb5, .slice xb6 xb7 xb8]) (hf (5, some 82) (.head _) rfl).2.2
      have Fxa := Hid.mk_ F2_.1
      have Fxb := Hid.mk_ F2_.2
      clear F2_
      replace kk := kk.trans jk
      clear hd hf jk j0 q_10_11
      refine hQ _ _ ?_
      clear hQ hops Q' ops'
      have cp0 : w11.cell? ⟨b3, of3 + i, none⟩ = some (.int .i64 pk) := (B.cell (p := ⟨b3, _, none⟩) hb3).trans hp0
      go_wp2_with fail
      refine (OF _).mono ?_
      rintro e w12 ⟨vxr, rfl, hvxr, hb12⟩
      have st : Steps _ w12 := hb12
      have sk : Below w11.heap.size w11 w12 := belowA st
      replace B := below_steps B (Nat.le_refl _) sk
      replace os := os.steps sk
      replace ovx := ovx.steps sk
      replace ovy := ovy.steps sk
      replace Fxa := Hid.mk_ (Fxa.out.steps sk)
      replace Fxb := Hid.mk_ (Fxb.out.steps sk)
      replace kk := kk.then_ sk
      clear st sk  cp0
      obtain ⟨cvx0, cvx1, cvx2, cvx3⟩ := ovx.r3
      have lvx := ovx.lt
      obtain ⟨cvy0, cvy1, cvy2, cvy3⟩ := ovy.r3
      have lvy := ovy.lt
      obtain ⟨xr1, xr2, xr3, xr4, xr5, xr6, xr7, xr8, rfl⟩ := hvxr.shape
      have Fxr := Hid.mk_ hvxr
      clear hvxr
      have zvy_12 : p14 < w12.heap.size := ovy.lt
      have zvx_12 : p13 < w12.heap.size := ovx.lt
      have zz12 := B.size
      have cp2 : w12.cell? ⟨b3, of3 + i, none⟩ = some (.int .i64 pk) := (B.cell (p := ⟨b3, _, none⟩) hb3).trans hp0
      have lp3 : b3 < w12.heap.size := Nat.lt_of_lt_of_le hb3 B.size
      dsimp only
      by_cases p0 : 0 ≤ pk
      ·
       obtain ⟨q, rfl⟩ : ∃ q : Nat, pk = q := ⟨pk.toNat, by omega⟩
       have q4 : q < M := by omega
       obtain ⟨b', of', rfl, hbl', hmx, hmy⟩ := HMm.out.at (a := q) (by have := HM.out; omega)
       have diq := di q q4
       have eD : DD i q = LS := n3 (by omega)
       rw [eD] at diq
       have crq := cr
       obtain ⟨c1, hc1⟩ : ∃ c, cmpQ LS RQ = c := ⟨_, rfl⟩
       rw [hc1] at crq n5
       have dz : decide (0 < c1) = false := decide_eq_false (by omega)
       clear eD hc1 cr
       have dp : decide (0 ≤ (q : Int)) = true := decide_eq_true (by omega)
       go_wp2_with fail
       go_upto_region 17 with fail
       refine Reg.wp_chain_n (fun N0 D v W => Below w3.heap.size w3 W ∧ Keeps w12 W ∧ N0 ≤ W.heap.size ∧ Blk W (w.heap.size) 30 #[.bool ka1, .slice ka2 ka3 ka4, .bool ka5, .slice ka6 ka7 ka8, .bool kb1, .slice kb2 kb3 kb4, .bool kb5, .slice kb6 kb7 kb8, .bool kc1, .slice kc2 kc3 kc4, .bool kc5, .slice kc6 kc7 kc8, .bool kd1, .slice kd2 kd3 kd4, .bool kd5, .slice kd6 kd7 kd8] ∧ Blk W (p13) 28 #[.bool xa1, .slice xa2 xa3 xa4, .bool xa5, .slice xa6 xa7 xa8] ∧ Blk W (p14) 28 #[.bool xb1, .slice xb2 xb3 xb4, .bool xb5, .slice xb6 xb7 xb8] ∧ ((D 10 = false → Blk W (w12.heap.size) 28 #[.bool xr1, .slice xr2 xr3 xr4, .bool xr5, .slice xr6 xr7 xr8]) ∧ (D 10 = true → D 9 = true ∧ ∃ cs, v 9 = .agg cs ∧ Blk W (w12.heap.size) 28 cs)))
        (Reg.inl [9, 10]) (Reg.gv [(9, IsFr)]) (gw [(9, GFr (LS))]) (fun _ => Keeps) (fun _ _ => False) (Reg.pl [(10, [(9, some 120)]), (11, [(9, some 120)])]) (Reg.pl [(9, [10])])
        (by kernel_rfl) (by kernel_rfl) (by kernel_rfl) (Reg.gvA _) (fun N0 hN0 => ⟨fun v => ?_, fun D v v' W hv hj => ?_, fun D v k j W W' x _ _ _ _ hk hg => gwA hk hg, fun _ _ _ _ h => h.elim, fun ops' Q' hops hQ => ?_⟩)
       · exact ⟨belowB, keepsB, by first | with_reducible exact Nat.le_of_eq hN0.out | (simp only [World.size_drew]; with_reducible exact Nat.le_of_eq hN0.out), ownK, ownK, ownK, ⟨fun _ => ownK, (fun h => Bool.noConfusion h)⟩⟩
       ·
        obtain ⟨j0, jk, jn, b_s, b_vx, b_vy, b_vl⟩ := hj
        exact ⟨j0, jk, jn, b_s, b_vx, b_vy, ⟨b_vl.1, fun h => by obtain ⟨d, cs, e, hb⟩ := b_vl.2 h; exact ⟨d, cs, (hv 9 d) ▸ e, hb⟩⟩⟩
       have eN := hN0.out
       try simp only [World.size_alloc, World.size_setCell, World.size_drew, World.heap_drewN] at eN
       have i_s : w.heap.size < N0 := by first | omega | (have h := os.lt; omega)
       have i_vx : p13 < N0 := by first | omega | (have h := ovx.lt; omega)
       have i_vy : p14 < N0 := by first | omega | (have h := ovy.lt; omega)
       have i_vl : w12.heap.size < N0 := by first | omega | (have h := ovl.lt; omega)
       have iw : w3.heap.size ≤ N0 := by first | omega | (have h := B.size; omega)
       clear cvx0 cvx1 cvx2 cvx3 lvx cvy0 cvy1 cvy2 cvy3 lvy
       clear hN0
       apply Reg.RP rfl rfl rfl 111 rfl rfl
       ·
        intro D v' W' hc hj hf K hK
        obtain ⟨j0, jk, jn, b_s, b_vx, b_vy, b_vl⟩ := hj
        obtain ⟨c0, c1, c2, c3⟩ := b_vx.r3
        go_step
        exact hK.out
       · rfl
       apply Reg.RP rfl rfl rfl 112 rfl rfl
       ·
        intro D v' W' hc hj hf K hK
        obtain ⟨j0, jk, jn, b_s, b_vx, b_vy, b_vl⟩ := hj
        obtain ⟨c0, c1, c2, c3⟩ := b_vy.r3
        go_step
        exact hK.out
       · rfl
       refine Reg.RP0 113 ?_
       refine Reg.RP0 114 ?_
       refine Reg.RP0 115 ?_
       refine Reg.RP0 116 ?_
       apply Reg.RP rfl rfl rfl 117 rfl rfl
       ·
        intro D v' W' hc hj hf K hK
        obtain ⟨j0, jk, jn, b_s, b_vx, b_vy, b_vl⟩ := hj
        have x0_ : W'.cell? ⟨b3, of3 + i, none⟩ = some (.int .i64 (q : Int)) := (j0.cell (p := ⟨b3, _, none⟩) hb3).trans hp0
        go_step
        exact hK.out
       · rfl
       refine Reg.RP0 118 ?_
       apply Reg.RP rfl rfl rfl 119 rfl rfl
       ·
        intro D v' W' hc hj hf K hK
        obtain ⟨j0, jk, jn, b_s, b_vx, b_vy, b_vl⟩ := hj
        have x0_ : W'.cell? ⟨b', of' + q * 2, none⟩ = some (.int .i64 (pt m q).1) := (j0.cell (p := ⟨b', _, none⟩) hbl').trans hmx
        have x1_ : W'.cell? ⟨b', of' + q * 2 + 1, none⟩ = some (.int .i64 (pt m q).2) := (j0.cell (p := ⟨b', _, none⟩) hbl').trans hmy
        go_step
        exact hK.out
       · rfl
       refine Reg.RC_call rfl (tlt rfl) rfl (fun D v' W' hc hj hf K hK => ?_) ?_
       ·
        obtain ⟨j0, jk, jn, b_s, b_vx, b_vy, b_vl⟩ := hj
        clear hf
        go_step
        refine (diq W' _ _ (Fxa.out.keeps jk) (Fxb.out.keeps jk)).mono ?_
        rintro e W2 ⟨u, rfl, hu, hs⟩
        obtain ⟨xl1, xl2, xl3, xl4, xl5, xl6, xl7, xl8, rfl⟩ := hu.shape
        exact hK.out _ W2 (Keeps.steps hs) ⟨jst j0 hs, jk.then_ hs, jsz jn hs, b_s.steps hs, b_vx.steps hs, b_vy.steps hs, ⟨fun h => (b_vl.1 h).steps hs, fun h => Bool.noConfusion ((hc.2 10 (by decide)).symm.trans h)⟩⟩ hu ⟨_, _, _, _, _, _, _, _, rfl⟩
       rintro _ ⟨xl1, xl2, xl3, xl4, xl5, xl6, xl7, xl8, rfl⟩
       refine Reg.at182 rfl ?_
       refine Reg.RC_call rfl (by intro t ht; cases ht) rfl (fun D v' W' hc hj hf K hK => ?_) (fun _ _ => Reg.RC_at (b := ⟨_, _⟩) rfl ?_)
       ·
        obtain ⟨j0, jk, jn, b_s, b_vx, b_vy, b_vl⟩ := hj
        have hb := b_vl.1 hc.1
        have e2 : w3.heap.size ≤ w12.heap.size := by omega
        have fc := hf (9, some 120) (.head _) rfl
        have ec : v' 9 = .agg #[.bool xl1, .slice xl2 xl3 xl4, .bool xl5, .slice xl6 xl7 xl8] := fc.2.1
        have ff := hb.fr
        obtain ⟨cc0, cc1, cc2, cc3⟩ := hb.r3
        go_step
        exact hK.out undef _ (keeps4 hb rfl) ⟨(below4 j0 (by show w3.heap.size ≤ w12.heap.size; omega)), jk.trans (keeps4 hb rfl), by simpa using jn, (b_s).far4 (show w.heap.size ≠ w12.heap.size by omega), (b_vx).far4 (show p13 ≠ w12.heap.size by omega), (b_vy).far4 (show p14 ≠ w12.heap.size by omega), ⟨fun h => Bool.noConfusion h, fun _ => ⟨fc.1, _, ec, (Blk.set2 (cs' := #[.bool xl1, .slice xl2 xl3 xl4, .bool xl5, .slice xl6 xl7 xl8]) (Blk.set2 (cs' := #[.bool xl1, .slice xl2 xl3 xl4, .bool xl5, .slice xr6 xr7 xr8]) (Blk.set2 (cs' := #[.bool xl1, .slice xl2 xl3 xl4, .bool xr5, .slice xr6 xr7 xr8]) (Blk.set2 (cs' := #[.bool xl1, .slice xr2 xr3 xr4, .bool xr5, .slice xr6 xr7 xr8]) hb (i := 0) rfl) (i := 1) rfl) (i := 2) rfl) (i := 3) rfl)⟩⟩⟩ trivial trivial
       refine Reg.RC_end (fun Dn v' w13 hd hj hf => ?_)
       obtain ⟨j0, jk, jn, b_s, b_vx, b_vy, b_vl⟩ := hj
       have B := j0
       have os := b_s
       clear b_s
       have ovx := b_vx
       clear b_vx
       have ovy := b_vy
       clear b_vy
       obtain ⟨-, cs_, ee, ovl⟩ := b_vl.2 (hd 10 (Nat.le_of_ble_eq_true rfl))
       have ef : v' 9 = .agg #[.bool xl1, .slice xl2 xl3 xl4, .bool xl5, .slice xl6 xl7 xl8] := (hf (9, some 120) (.head _) rfl).2.1
       obtain rfl : #[.bool xl1, .slice xl2 xl3 xl4, .bool xl5, .slice xl6 xl7 xl8] = cs_ := by have := ef.symm.trans ee; simpa only [Value.tuple.injEq, Value.agg.injEq, Array.mk.injEq, List.cons.injEq, and_true, true_and] using this
       clear b_vl ee ef
       have Fxl : Hid (FR w13 (.agg #[.bool xl1, .slice xl2 xl3 xl4, .bool xl5, .slice xl6 xl7 xl8]) (LS)) := (hf (9, some 120) (.head _) rfl).2.2
       replace Fxa := Hid.mk_ (Fxa.out.keeps jk)
       replace Fxb := Hid.mk_ (Fxb.out.keeps jk)
       replace Fxr := Hid.mk_ (Fxr.out.keeps jk)
       replace kk := kk.trans jk
       clear hd hf jk j0
       refine hQ _ _ ?_
       clear hQ hops Q' ops'
       obtain ⟨cvl0, cvl1, cvl2, cvl3⟩ := ovl.r3
       have lvl := ovl.lt
       go_wp2_with fail
       have zvl_13 : w12.heap.size < w13.heap.size := ovl.lt
       have zvx_13 : p13 < w13.heap.size := ovx.lt
       have zvy_13 : p14 < w13.heap.size := ovy.lt
       have zz13 := B.size
       go_upto_region 18 with fail
       refine Reg.wp_chain_n (fun N0 D v W => Below w3.heap.size w3 W ∧ Keeps w13 W ∧ N0 ≤ W.heap.size ∧ Blk W (w.heap.size) 30 #[.bool ka1, .slice ka2 ka3 ka4, .bool ka5, .slice ka6 ka7 ka8, .bool kb1, .slice kb2 kb3 kb4, .bool kb5, .slice kb6 kb7 kb8, .bool kc1, .slice kc2 kc3 kc4, .bool kc5, .slice kc6 kc7 kc8, .bool kd1, .slice kd2 kd3 kd4, .bool kd5, .slice kd6 kd7 kd8] ∧ Blk W (p13) 28 #[.bool xa1, .slice xa2 xa3 xa4, .bool xa5, .slice xa6 xa7 xa8] ∧ Blk W (p14) 28 #[.bool xb1, .slice xb2 xb3 xb4, .bool xb5, .slice xb6 xb7 xb8] ∧ Blk W (w12.heap.size) 28 #[.bool xl1, .slice xl2 xl3 xl4, .bool xl5, .slice xl6 xl7 xl8])
        (Reg.inl [2, 3]) (Reg.gv [(2, IsFr), (3, fun z_ => z_ = .tuple #[.int .i64 c1, .int .i64 0])]) (gw [(2, GFr (RQ))]) (fun _ => Keeps) (fun _ _ => False) (Reg.pl [(3, [(2, some 124)]), (9, [(2, some 124), (3, some 125)])]) (Reg.pl [])
        (by kernel_rfl) (by kernel_rfl) (by kernel_rfl) (Reg.gvA _) (fun N0 hN0 => ⟨fun v => ?_, fun D v v' W hv hj => ?_, fun D v k j W W' x _ _ _ _ hk hg => gwA hk hg, fun _ _ _ _ h => h.elim, fun ops' Q' hops hQ => ?_⟩)
       · exact ⟨belowB, keepsB, by first | with_reducible exact Nat.le_of_eq hN0.out | (simp only [World.size_drew]; with_reducible exact Nat.le_of_eq hN0.out), ownK, ownK, ownK, ownK⟩
       ·
        obtain ⟨j0, jk, jn, b_s, b_vx, b_vy, b_vl⟩ := hj
        exact ⟨j0, jk, jn, b_s, b_vx, b_vy, b_vl⟩
       have eN := hN0.out
       try simp only [World.size_alloc, World.size_setCell, World.size_drew, World.heap_drewN] at eN
       have i_s : w.heap.size < N0 := by first | omega | (have h := os.lt; omega)
       have i_vx : p13 < N0 := by first | omega | (have h := ovx.lt; omega)
       have i_vy : p14 < N0 := by first | omega | (have h := ovy.lt; omega)
       have i_vl : w12.heap.size < N0 := by first | omega | (have h := ovl.lt; omega)
       have iw : w3.heap.size ≤ N0 := by first | omega | (have h := B.size; omega)
       clear cvl0 cvl1 cvl2 cvl3 lvl
       clear hN0
       apply Reg.RP rfl rfl rfl 122 rfl rfl
       ·
        intro D v' W' hc hj hf K hK
        obtain ⟨j0, jk, jn, b_s, b_vx, b_vy, b_vl⟩ := hj
        obtain ⟨c0, c1, c2, c3⟩ := b_vl.r3
        go_step
        exact hK.out
       · rfl
       refine Reg.RP0 123 ?_
       refine Reg.RC_call rfl (tlt rfl) rfl (fun D v' W' hc hj hf K hK => ?_) ?_
       ·
        obtain ⟨j0, jk, jn, b_s, b_vx, b_vy, b_vl⟩ := hj
        clear hf
        go_step
        refine (OF W').mono ?_
        rintro e W2 ⟨u, rfl, hu, hs⟩
        obtain ⟨xo1, xo2, xo3, xo4, xo5, xo6, xo7, xo8, rfl⟩ := hu.shape
        exact hK.out _ W2 (Keeps.steps hs) ⟨jst j0 hs, jk.then_ hs, jsz jn hs, b_s.steps hs, b_vx.steps hs, b_vy.steps hs, b_vl.steps hs⟩ hu ⟨_, _, _, _, _, _, _, _, rfl⟩
       rintro _ ⟨xo1, xo2, xo3, xo4, xo5, xo6, xo7, xo8, rfl⟩
       refine Reg.at182 rfl ?_
       refine Reg.RC_call rfl (tlt rfl) rfl (fun D v' W' hc hj hf K hK => ?_) ?_
       ·
        obtain ⟨j0, jk, jn, b_s, b_vx, b_vy, b_vl⟩ := hj
        have g2 : GFr (RQ) _ W' := (hf (2, some 124) (.head _) rfl).2.2
        have g2 : FR W' _ (RQ) := g2
        clear hf
        go_step
        refine (crq W' _ _ (Fxl.out.keeps jk) g2).mono ?_
        rintro e W2 ⟨rfl, hs⟩
        exact hK.out _ W2 (Keeps.steps hs) ⟨jst j0 hs, jk.then_ hs, jsz jn hs, b_s.steps hs, b_vx.steps hs, b_vy.steps hs, b_vl.steps hs⟩ trivial rfl
       rintro _ rfl
       refine Reg.at182 rfl ?_
       refine Reg.RP0 121 ?_
       refine Reg.RP0 126 ?_
       refine Reg.RP0 127 ?_
       refine Reg.RP0 17 ?_
       refine Reg.RP0 18 ?_
       refine Reg.RC_end (fun Dn v' w14 hd hj hf => ?_)
       obtain ⟨j0, jk, jn, b_s, b_vx, b_vy, b_vl⟩ := hj
       have B := j0
       have os := b_s
       clear b_s
       have ovx := b_vx
       clear b_vx
       have ovy := b_vy
       clear b_vy
       have ovl := b_vl
       clear b_vl
       replace Fxa := Hid.mk_ (Fxa.out.keeps jk)
       replace Fxb := Hid.mk_ (Fxb.out.keeps jk)
       replace Fxr := Hid.mk_ (Fxr.out.keeps jk)
       replace Fxl := Hid.mk_ (Fxl.out.keeps jk)
       replace kk := kk.trans jk
       clear hd hf jk j0
       refine hQ _ _ ?_
       clear hQ hops Q' ops'
       go_wp2_with fail
       go_loopw [19] (fun sl0 wr => ∃ (k : Nat), k ≤ M ∧ sl0 = .int .i64 k ∧ Blk wr (w.heap.size) 30 #[.bool ka1, .slice ka2 ka3 ka4, .bool ka5, .slice ka6 ka7 ka8, .bool kb1, .slice kb2 kb3 kb4, .bool kb5, .slice kb6 kb7 kb8, .bool kc1, .slice kc2 kc3 kc4, .bool kc5, .slice kc6 kc7 kc8, .bool kd1, .slice kd2 kd3 kd4, .bool kd5, .slice kd6 kd7 kd8] ∧ Blk wr (p13) 28 #[.bool xa1, .slice xa2 xa3 xa4, .bool xa5, .slice xa6 xa7 xa8] ∧ Blk wr (p14) 28 #[.bool xb1, .slice xb2 xb3 xb4, .bool xb5, .slice xb6 xb7 xb8] ∧ Blk wr (w12.heap.size) 28 #[.bool xl1, .slice xl2 xl3 xl4, .bool xl5, .slice xl6 xl7 xl8] ∧ Below w3.heap.size w3 wr ∧ Keeps w14 wr) (fun sl0 _ => M - (intOf sl0).toNat)
       case atStart => exact ⟨0, by omega, rfl, ownK, ownK, ownK, ownK, belowB, keepsB⟩
       case round =>
        clear os ovx ovy ovl
        try clear B
        have kko := kk.trans keepsB
        try clear kk
        obtain ⟨k, hk, rfl, os, ovx, ovy, ovl, B, kk⟩ := hrel
        replace Fxa := Hid.mk_ (Fxa.out.keeps kk)
        replace Fxb := Hid.mk_ (Fxb.out.keeps kk)
        replace Fxr := Hid.mk_ (Fxr.out.keeps kk)
        replace Fxl := Hid.mk_ (Fxl.out.keeps kk)
        obtain ⟨cvx0, cvx1, cvx2, cvx3⟩ := ovx.r3
        have lvx := ovx.lt
        obtain ⟨cvy0, cvy1, cvy2, cvy3⟩ := ovy.r3
        have lvy := ovy.lt
        obtain ⟨cvl0, cvl1, cvl2, cvl3⟩ := ovl.r3
        have lvl := ovl.lt
        rcases Nat.lt_or_ge k M with k4 | k4
        ·
         have hltM : decide ((k : Int) < (M : Int)) = true := decide_eq_true (by omega)
         obtain ⟨b5, o5, e9, hbl', hmx, hmy⟩ := HMm.out.at (a := k) (by have := HM.out; omega)
         cases e9
         have dik := di k k4
         have cik := cmp k k4
         obtain ⟨c, hcc⟩ : ∃ c, cmpQ (DD i k) LS = c := ⟨_, rfl⟩
         have sss := Hid.mk_ (n7.out k k4 c hcc)
         rw [hcc] at cik
         clear hcc
         have d0 : decide (c < 0) = false := decide_eq_false (by have := sss.out.1; omega)
         go_wp2_with fail
         have zvl_14 : w12.heap.size < wr.heap.size := ovl.lt
         have zvx_14 : p13 < wr.heap.size := ovx.lt
         have zvy_14 : p14 < wr.heap.size := ovy.lt
         have zz14 := B.size
         go_upto_region 24 with fail
         refine Reg.wp_chain_n (fun N0 D v W => Below w3.heap.size w3 W ∧ Keeps wr W ∧ N0 ≤ W.heap.size ∧ Blk W (w.heap.size) 30 #[.bool ka1, .slice ka2 ka3 ka4, .bool ka5, .slice ka6 ka7 ka8, .bool kb1, .slice kb2 kb3 kb4, .bool kb5, .slice kb6 kb7 kb8, .bool kc1, .slice kc2 kc3 kc4, .bool kc5, .slice kc6 kc7 kc8, .bool kd1, .slice kd2 kd3 kd4, .bool kd5, .slice kd6 kd7 kd8] ∧ Blk W (p13) 28 #[.bool xa1, .slice xa2 xa3 xa4, .bool xa5, .slice xa6 xa7 xa8] ∧ Blk W (p14) 28 #[.bool xb1, .slice xb2 xb3 xb4, .bool xb5, .slice xb6 xb7 xb8] ∧ Blk W (w12.heap.size) 28 #[.bool xl1, .slice xl2 xl3 xl4, .bool xl5, .slice xl6 xl7 xl8])
          (Reg.inl [6, 8]) (Reg.gv [(6, IsFr), (8, fun z_ => z_ = .tuple #[.int .i64 c, .int .i64 0])]) (gw [(6, GFr ((DD i k)))]) (fun _ => Keeps) (fun _ _ => False) (Reg.pl [(8, [(6, some 147)]), (14, [(6, some 147), (8, some 149)])]) (Reg.pl [])
          (by kernel_rfl) (by kernel_rfl) (by kernel_rfl) (Reg.gvA _) (fun N0 hN0 => ⟨fun v => ?_, fun D v v' W hv hj => ?_, fun D v k j W W' x _ _ _ _ hk hg => gwA hk hg, fun _ _ _ _ h => h.elim, fun ops' Q' hops hQ => ?_⟩)
         · exact ⟨belowB, keepsB, by first | with_reducible exact Nat.le_of_eq hN0.out | (simp only [World.size_drew]; with_reducible exact Nat.le_of_eq hN0.out), ownK, ownK, ownK, ownK⟩
         ·
          obtain ⟨j0, jk, jn, b_s, b_vx, b_vy, b_vl⟩ := hj
          exact ⟨j0, jk, jn, b_s, b_vx, b_vy, b_vl⟩
         have eN := hN0.out
         try simp only [World.size_alloc, World.size_setCell, World.size_drew, World.heap_drewN] at eN
         have i_s : w.heap.size < N0 := by first | omega | (have h := os.lt; omega)
         have i_vx : p13 < N0 := by first | omega | (have h := ovx.lt; omega)
         have i_vy : p14 < N0 := by first | omega | (have h := ovy.lt; omega)
         have i_vl : w12.heap.size < N0 := by first | omega | (have h := ovl.lt; omega)
         have iw : w3.heap.size ≤ N0 := by first | omega | (have h := B.size; omega)
         clear cvx0 cvx1 cvx2 cvx3 lvx cvy0 cvy1 cvy2 cvy3 lvy cvl0 cvl1 cvl2 cvl3 lvl
         clear hN0
         apply Reg.RP rfl rfl rfl 141 rfl rfl
         ·
          intro D v' W' hc hj hf K hK
          obtain ⟨j0, jk, jn, b_s, b_vx, b_vy, b_vl⟩ := hj
          obtain ⟨c0, c1, c2, c3⟩ := b_vx.r3
          go_step
          exact hK.out
         · rfl
         apply Reg.RP rfl rfl rfl 142 rfl rfl
         ·
          intro D v' W' hc hj hf K hK
          obtain ⟨j0, jk, jn, b_s, b_vx, b_vy, b_vl⟩ := hj
          obtain ⟨c0, c1, c2, c3⟩ := b_vy.r3
          go_step
          exact hK.out
         · rfl
         refine Reg.RP0 143 ?_
         refine Reg.RP0 144 ?_
         refine Reg.RP0 145 ?_
         apply Reg.RP rfl rfl rfl 146 rfl rfl
         ·
          intro D v' W' hc hj hf K hK
          obtain ⟨j0, jk, jn, b_s, b_vx, b_vy, b_vl⟩ := hj
          have x0_ : W'.cell? ⟨b', of' + k * 2, none⟩ = some (.int .i64 (pt m k).1) := (j0.cell (p := ⟨b', _, none⟩) hbl').trans hmx
          have x1_ : W'.cell? ⟨b', of' + k * 2 + 1, none⟩ = some (.int .i64 (pt m k).2) := (j0.cell (p := ⟨b', _, none⟩) hbl').trans hmy
          go_step
          exact hK.out
         · rfl
         refine Reg.RC_call rfl (tlt rfl) rfl (fun D v' W' hc hj hf K hK => ?_) ?_
         ·
          obtain ⟨j0, jk, jn, b_s, b_vx, b_vy, b_vl⟩ := hj
          clear hf
          go_step
          refine (dik W' _ _ (Fxa.out.keeps jk) (Fxb.out.keeps jk)).mono ?_
          rintro e W2 ⟨u, rfl, hu, hs⟩
          obtain ⟨xe1, xe2, xe3, xe4, xe5, xe6, xe7, xe8, rfl⟩ := hu.shape
          exact hK.out _ W2 (Keeps.steps hs) ⟨jst j0 hs, jk.then_ hs, jsz jn hs, b_s.steps hs, b_vx.steps hs, b_vy.steps hs, b_vl.steps hs⟩ hu ⟨_, _, _, _, _, _, _, _, rfl⟩
         rintro _ ⟨xe1, xe2, xe3, xe4, xe5, xe6, xe7, xe8, rfl⟩
         refine Reg.at182 rfl ?_
         apply Reg.RP rfl rfl rfl 148 rfl rfl
         ·
          intro D v' W' hc hj hf K hK
          obtain ⟨j0, jk, jn, b_s, b_vx, b_vy, b_vl⟩ := hj
          obtain ⟨c0, c1, c2, c3⟩ := b_vl.r3
          go_step
          exact hK.out
         · rfl
         refine Reg.RC_call rfl (tlt rfl) rfl (fun D v' W' hc hj hf K hK => ?_) ?_
         ·
          obtain ⟨j0, jk, jn, b_s, b_vx, b_vy, b_vl⟩ := hj
          have g6 : GFr ((DD i k)) _ W' := (hf (6, some 147) (.head _) rfl).2.2
          have g6 : FR W' _ ((DD i k)) := g6
          clear hf
          go_step
          refine (cik W' _ _ g6 (Fxl.out.keeps jk)).mono ?_
          rintro e W2 ⟨rfl, hs⟩
          exact hK.out _ W2 (Keeps.steps hs) ⟨jst j0 hs, jk.then_ hs, jsz jn hs, b_s.steps hs, b_vx.steps hs, b_vy.steps hs, b_vl.steps hs⟩ trivial rfl
         rintro _ rfl
         refine Reg.at182 rfl ?_
         refine Reg.RP0 140 ?_
         refine Reg.RP0 150 ?_
         refine Reg.RP0 151 ?_
         refine Reg.RP0 20 ?_
         refine Reg.RP0 21 ?_
         refine Reg.RC_end (fun Dn v' w15 hd hj hf => ?_)
         obtain ⟨j0, jk, jn, b_s, b_vx, b_vy, b_vl⟩ := hj
         have B := j0
         have os := b_s
         clear b_s
         have ovx := b_vx
         clear b_vx
         have ovy := b_vy
         clear b_vy
         have ovl := b_vl
         clear b_vl
         replace Fxa := Hid.mk_ (Fxa.out.keeps jk)
         replace Fxb := Hid.mk_ (Fxb.out.keeps jk)
         replace Fxr := Hid.mk_ (Fxr.out.keeps jk)
         replace Fxl := Hid.mk_ (Fxl.out.keeps jk)
         replace kk := kk.trans jk
         clear hd hf jk j0
         refine hQ _ _ ?_
         clear hQ hops Q' ops'
         have cp1 : w15.cell? ⟨b3, of3 + i, none⟩ = some (.int .i64 (q : Int)) := (B.cell (p := ⟨b3, _, none⟩) hb3).trans hp0
         by_cases c0 : c = 0
         ·
          subst c0
          have d1 : q ≤ k := by have h := sss.out.2.1; have h2 : ¬ (k : Int) < (q : Int) := fun g => h ⟨rfl, g⟩; omega
          have d2 : decide ((q : Int) < 0) = false := decide_eq_false (by omega)
          go_wp2_with fail
          go_roundw
          case rel => exact ⟨k + 1, by omega, by go_num, ownK, ownK, ownK, ownK, belowB, kk.trans keepsB⟩
          case measure => simp [intOf]; omega
         ·
          have d3 : (c == 0) = false := by simpa using c0
          go_wp2_with fail
          go_roundw
          case rel => exact ⟨k + 1, by omega, by go_num, ownK, ownK, ownK, ownK, belowB, kk.trans keepsB⟩
          case measure => simp [intOf]; omega
        ·
         have hltM : decide ((k : Int) < (M : Int)) = false := decide_eq_false (by omega)
         go_wp2_with fail
         go_roundw
         case rel => exact ⟨i + 1, by omega, by go_num, ownK, belowB, kko.trans (kk.trans keepsB)⟩
         case measure => simp [intOf]; omega
      ·
       have dp : decide (0 ≤ pk) = false := decide_eq_false p0
       have eL : RQ = LS := n4 (by omega)
       rw [eL] at Fxr
       clear cr
       go_wp2_with fail
       go_loopw [19] (fun sl0 wr => ∃ (k : Nat), k ≤ M ∧ sl0 = .int .i64 k ∧ Blk wr (w.heap.size) 30 #[.bool ka1, .slice ka2 ka3 ka4, .bool ka5, .slice ka6 ka7 ka8, .bool kb1, .slice kb2 kb3 kb4, .bool kb5, .slice kb6 kb7 kb8, .bool kc1, .slice kc2 kc3 kc4, .bool kc5, .slice kc6 kc7 kc8, .bool kd1, .slice kd2 kd3 kd4, .bool kd5, .slice kd6 kd7 kd8] ∧ Blk wr (p13) 28 #[.bool xa1, .slice xa2 xa3 xa4, .bool xa5, .slice xa6 xa7 xa8] ∧ Blk wr (p14) 28 #[.bool xb1, .slice xb2 xb3 xb4, .bool xb5, .slice xb6 xb7 xb8] ∧ Blk wr (w12.heap.size) 28 #[.bool xr1, .slice xr2 xr3 xr4, .bool xr5, .slice xr6 xr7 xr8] ∧ Below w3.heap.size w3 wr ∧ Keeps w12 wr) (fun sl0 _ => M - (intOf sl0).toNat)
       case atStart => exact ⟨0, by omega, rfl, ownK, ownK, ownK, ownK, belowB, keepsB⟩
       case round =>
        clear cvx0 cvx1 cvx2 cvx3 lvx cvy0 cvy1 cvy2 cvy3 lvy
        clear os ovx ovy
        try clear B
        have kko := kk.trans keepsB
        try clear kk
        obtain ⟨k, hk, rfl, os, ovx, ovy, ovl, B, kk⟩ := hrel
        replace Fxa := Hid.mk_ (Fxa.out.keeps kk)
        replace Fxb := Hid.mk_ (Fxb.out.keeps kk)
        replace Fxr := Hid.mk_ (Fxr.out.keeps kk)
        obtain ⟨cvx0, cvx1, cvx2, cvx3⟩ := ovx.r3
        have lvx := ovx.lt
        obtain ⟨cvy0, cvy1, cvy2, cvy3⟩ := ovy.r3
        have lvy := ovy.lt
        obtain ⟨cvl0, cvl1, cvl2, cvl3⟩ := ovl.r3
        have lvl := ovl.lt
        rcases Nat.lt_or_ge k M with k4 | k4
        ·
         have hltM : decide ((k : Int) < (M : Int)) = true := decide_eq_true (by omega)
         obtain ⟨b', of', rfl, hbl', hmx, hmy⟩ := HMm.out.at (a := k) (by have := HM.out; omega)
         have dik := di k k4
         have cik := cmp k k4
         obtain ⟨c, hcc⟩ : ∃ c, cmpQ (DD i k) LS = c := ⟨_, rfl⟩
         have sss := Hid.mk_ (n7.out k k4 c hcc)
         rw [hcc] at cik
         clear hcc
         have d0 : decide (c < 0) = false := decide_eq_false (by have := sss.out.1; omega)
         go_wp2_with fail
         have zvl_12 : w12.heap.size < wr.heap.size := ovl.lt
         have zvx_12 : p13 < wr.heap.size := ovx.lt
         have zvy_12 : p14 < wr.heap.size := ovy.lt
         have zz12 := B.size
         go_upto_region 24 with fail
         refine Reg.wp_chain_n (fun N0 D v W => Below w3.heap.size w3 W ∧ Keeps wr W ∧ N0 ≤ W.heap.size ∧ Blk W (w.heap.size) 30 #[.bool ka1, .slice ka2 ka3 ka4, .bool ka5, .slice ka6 ka7 ka8, .bool kb1, .slice kb2 kb3 kb4, .bool kb5, .slice kb6 kb7 kb8, .bool kc1, .slice kc2 kc3 kc4, .bool kc5, .slice kc6 kc7 kc8, .bool kd1, .slice kd2 kd3 kd4, .bool kd5, .slice kd6 kd7 kd8] ∧ Blk W (p13) 28 #[.bool xa1, .slice xa2 xa3 xa4, .bool xa5, .slice xa6 xa7 xa8] ∧ Blk W (p14) 28 #[.bool xb1, .slice xb2 xb3 xb4, .bool xb5, .slice xb6 xb7 xb8] ∧ Blk W (w12.heap.size) 28 #[.bool xr1, .slice xr2 xr3 xr4, .bool xr5, .slice xr6 xr7 xr8])
          (Reg.inl [6, 8]) (Reg.gv [(6, IsFr), (8, fun z_ => z_ = .tuple #[.int .i64 c, .int .i64 0])]) (gw [(6, GFr ((DD i k)))]) (fun _ => Keeps) (fun _ _ => False) (Reg.pl [(8, [(6, some 147)]), (14, [(6, some 147), (8, some 149)])]) (Reg.pl [])
          (by kernel_rfl) (by kernel_rfl) (by kernel_rfl) (Reg.gvA _) (fun N0 hN0 => ⟨fun v => ?_, fun D v v' W hv hj => ?_, fun D v k j W W' x _ _ _ _ hk hg => gwA hk hg, fun _ _ _ _ h => h.elim, fun ops' Q' hops hQ => ?_⟩)
         · exact ⟨belowB, keepsB, by first | with_reducible exact Nat.le_of_eq hN0.out | (simp only [World.size_drew]; with_reducible exact Nat.le_of_eq hN0.out), ownK, ownK, ownK, ownK⟩
         ·
          obtain ⟨j0, jk, jn, b_s, b_vx, b_vy, b_vl⟩ := hj
          exact ⟨j0, jk, jn, b_s, b_vx, b_vy, b_vl⟩
         have eN := hN0.out
         try simp only [World.size_alloc, World.size_setCell, World.size_drew, World.heap_drewN] at eN
         have i_s : w.heap.size < N0 := by first | omega | (have h := os.lt; omega)
         have i_vx : p13 < N0 := by first | omega | (have h := ovx.lt; omega)
         have i_vy : p14 < N0 := by first | omega | (have h := ovy.lt; omega)
         have i_vl : w12.heap.size < N0 := by first | omega | (have h := ovl.lt; omega)
         have iw : w3.heap.size ≤ N0 := by first | omega | (have h := B.size; omega)
         clear cvx0 cvx1 cvx2 cvx3 lvx cvy0 cvy1 cvy2 cvy3 lvy cvl0 cvl1 cvl2 cvl3 lvl
         clear hN0
         apply Reg.RP rfl rfl rfl 141 rfl rfl
         ·
          intro D v' W' hc hj hf K hK
          obtain ⟨j0, jk, jn, b_s, b_vx, b_vy, b_vl⟩ := hj
          obtain ⟨c0, c1, c2, c3⟩ := b_vx.r3
          go_step
          exact hK.out
         · rfl
         apply Reg.RP rfl rfl rfl 142 rfl rfl
         ·
          intro D v' W' hc hj hf K hK
          obtain ⟨j0, jk, jn, b_s, b_vx, b_vy, b_vl⟩ := hj
          obtain ⟨c0, c1, c2, c3⟩ := b_vy.r3
          go_step
          exact hK.out
         · rfl
         refine Reg.RP0 143 ?_
         refine Reg.RP0 144 ?_
         refine Reg.RP0 145 ?_
         apply Reg.RP rfl rfl rfl 146 rfl rfl
         ·
          intro D v' W' hc hj hf K hK
          obtain ⟨j0, jk, jn, b_s, b_vx, b_vy, b_vl⟩ := hj
          have x0_ : W'.cell? ⟨b', of' + k * 2, none⟩ = some (.int .i64 (pt m k).1) := (j0.cell (p := ⟨b', _, none⟩) hbl').trans hmx
          have x1_ : W'.cell? ⟨b', of' + k * 2 + 1, none⟩ = some (.int .i64 (pt m k).2) := (j0.cell (p := ⟨b', _, none⟩) hbl').trans hmy
          go_step
          exact hK.out
         · rfl
         refine Reg.RC_call rfl (tlt rfl) rfl (fun D v' W' hc hj hf K hK => ?_) ?_
         ·
          obtain ⟨j0, jk, jn, b_s, b_vx, b_vy, b_vl⟩ := hj
          clear hf
          go_step
          refine (dik W' _ _ (Fxa.out.keeps jk) (Fxb.out.keeps jk)).mono ?_
          rintro e W2 ⟨u, rfl, hu, hs⟩
          obtain ⟨xe1, xe2, xe3, xe4, xe5, xe6, xe7, xe8, rfl⟩ := hu.shape
          exact hK.out _ W2 (Keeps.steps hs) ⟨jst j0 hs, jk.then_ hs, jsz jn hs, b_s.steps hs, b_vx.steps hs, b_vy.steps hs, b_vl.steps hs⟩ hu ⟨_, _, _, _, _, _, _, _, rfl⟩
         rintro _ ⟨xe1, xe2, xe3, xe4, xe5, xe6, xe7, xe8, rfl⟩
         refine Reg.at182 rfl ?_
         apply Reg.RP rfl rfl rfl 148 rfl rfl
         ·
          intro D v' W' hc hj hf K hK
          obtain ⟨j0, jk, jn, b_s, b_vx, b_vy, b_vl⟩ := hj
          obtain ⟨c0, c1, c2, c3⟩ := b_vl.r3
          go_step
          exact hK.out
         · rfl
         refine Reg.RC_call rfl (tlt rfl) rfl (fun D v' W' hc hj hf K hK => ?_) ?_
         ·
          obtain ⟨j0, jk, jn, b_s, b_vx, b_vy, b_vl⟩ := hj
          have g6 : GFr ((DD i k)) _ W' := (hf (6, some 147) (.head _) rfl).2.2
          have g6 : FR W' _ ((DD i k)) := g6
          clear hf
          go_step
          refine (cik W' _ _ g6 (Fxr.out.keeps jk)).mono ?_
          rintro e W2 ⟨rfl, hs⟩
          exact hK.out _ W2 (Keeps.steps hs) ⟨jst j0 hs, jk.then_ hs, jsz jn hs, b_s.steps hs, b_vx.steps hs, b_vy.steps hs, b_vl.steps hs⟩ trivial rfl
         rintro _ rfl
         refine Reg.at182 rfl ?_
         refine Reg.RP0 140 ?_
         refine Reg.RP0 150 ?_
         refine Reg.RP0 151 ?_
         refine Reg.RP0 20 ?_
         refine Reg.RP0 21 ?_
         refine Reg.RC_end (fun Dn v' w13 hd hj hf => ?_)
         obtain ⟨j0, jk, jn, b_s, b_vx, b_vy, b_vl⟩ := hj
         have B := j0
         have os := b_s
         clear b_s
         have ovx := b_vx
         clear b_vx
         have ovy := b_vy
         clear b_vy
         have ovl := b_vl
         clear b_vl
         replace Fxa := Hid.mk_ (Fxa.out.keeps jk)
         replace Fxb := Hid.mk_ (Fxb.out.keeps jk)
         replace Fxr := Hid.mk_ (Fxr.out.keeps jk)
         replace kk := kk.trans jk
         clear hd hf jk j0
         refine hQ _ _ ?_
         clear hQ hops Q' ops'
         have cp1 : w13.cell? ⟨b3, of3 + i, none⟩ = some (.int .i64 pk) := (B.cell (p := ⟨b3, _, none⟩) hb3).trans hp0
         have c0 : ¬ c = 0 := fun h => sss.out.2.2 ⟨h, by omega⟩
         have d3 : (c == 0) = false := by simpa using c0
         go_wp2_with fail
         go_roundw
         case rel => exact ⟨k + 1, by omega, by go_num, ownK, ownK, ownK, ownK, belowB, kk.trans keepsB⟩
         case measure => simp [intOf]; omega
        ·
         have hltM : decide ((k : Int) < (M : Int)) = false := decide_eq_false (by omega)
         go_wp2_with fail
         go_roundw
         case rel => exact ⟨i + 1, by omega, by go_num, ownK, belowB, kko.trans (kk.trans keepsB)⟩
         case measure => simp [intOf]; omega
     ·
      have hltN : decide ((i : Int) < (N : Int)) = false := decide_eq_false (by omega)
      go_wp2_with fail
      refine bodyPost_ret (by simp [results, Tryz.results6, go_sem, cs0, cs1, cs2, cs3, cs4, cs5, cs6, cs7, cs8, cs9, cs10, cs11, cs12, cs13, cs14, cs15, ls]; rfl) rfl ?_
      exact ⟨rfl, below_steps BP (Nat.le_refl _) belowB⟩
end Go.Proofs.YtffmbepfbienaaaGreat
