import Derived.Test.YtffmbepfbienaaaGreatDMf
set_option linter.unusedVariables false
set_option linter.unusedSimpArgs false
set_option maxHeartbeats 6400000
set_option maxRecDepth 1000000
namespace Go.Proofs.YtffmbepfbienaaaGreat
open Go.RowKit
def out4 (o0 o1 o2 o3 : Int) (i : Nat) : Bool := ((i : Int) == o0) || ((i : Int) == o1) || ((i : Int) == o2) || ((i : Int) == o3)
theorem oddsQ_congr {w s : Rat} {l : List Int} {f g : Nat → Bool} : ∀ n, (∀ i, i < n → f i = g i) → oddsQ w s l f n = oddsQ w s l g n
 | 0, _ => rfl
 | n + 1, h => by
  unfold oddsQ
  rw [h n (by omega), oddsQ_congr n (fun i hi => h i (by omega))]
theorem prodds {ua1 ua5 ub1 ub5 uc1 uc5 : Bool} {ua2 ua6 ub2 ub6 uc2 uc6 : Option Addr} {ua3 ua4 ua7 ua8 ub3 ub4 ub7 ub8 uc3 uc4 uc7 uc8 : Nat} {R A n o0 o1 o2 o3 : Int} {s : Rat} {vp : Value} {l : List Int} (w : World) (hub : FR w (.agg #[.bool ub1, .slice ub2 ub3 ub4, .bool ub5, .slice ub6 ub7 ub8]) s) (ss : sz s 2) (r0 : 1 ≤ R) (r1 : R ≤ 65536) (a0 : 1 ≤ A) (a1 : A ≤ 17592186044416) (n2 : 1 ≤ n) (n1 : n ≤ 200) (hl : IntsR w vp l) (l0 : l.length ≤ 200) :
  Calls Tryz.prog 65 #[.agg #[.bool ua1, .slice ua2 ua3 ua4, .bool ua5, .slice ua6 ua7 ua8, .int .i64 R, .int .i64 A, .bool ub1, .slice ub2 ub3 ub4, .bool ub5, .slice ub6 ub7 ub8, .bool uc1, .slice uc2 uc3 uc4, .bool uc5, .slice uc6 uc7 uc8], vp, .int .i64 n, .agg #[.int .i64 o0, .int .i64 o1, .int .i64 o2, .int .i64 o3]] w fun e w' => ∃ v, e = .returned v ∧ FR w' v (oddsQ (withQ s (chanceQ R A n)) s l (out4 o0 o1 o2 o3) l.length) ∧ Steps w w' := by
 have sc := (sz_chance r0 r1 a0 a1 (show 0 ≤ n by omega) n1).1
 have hp := chance_pos r0 a0 n2
 have hne : chanceQ R A n ≠ 0 := Rat.ne_of_gt hp
 have sw := sz_with ss sc hne
 have FA := fun (w' : World) (k : Keeps w w') => rFactors (ua1 := ua1) (ua2 := ua2) (ua3 := ua3) (ua4 := ua4) (ua5 := ua5) (ua6 := ua6) (ua7 := ua7) (ua8 := ua8) (ub1 := ub1) (ub2 := ub2) (ub3 := ub3) (ub4 := ub4) (ub5 := ub5) (ub6 := ub6) (ub7 := ub7) (ub8 := ub8) (uc1 := uc1) (uc2 := uc2) (uc3 := uc3) (uc4 := uc4) (uc5 := uc5) (uc6 := uc6) (uc7 := uc7) (uc8 := uc8) R A n w' r0 r1 a0 a1 (by omega) n1 n2 (hub.keeps k) ss
 have O1 : ∀ w', Calls Tryz.prog 47 #[.int .i64 1] w' fun e w2 => ∃ v, e = .returned v ∧ FR w2 v (1 : Rat) ∧ Steps w' w2 := fun w' => by have := rwhole 1 w' (by decide) (by decide); rw [one_cast] at this; exact this
 have s1 : sz (1 : Rat) 2 := sz_one
 have OS := fun k => oddsQ_sz (w := withQ s (chanceQ R A n)) (s := s) sw (ss.mono (by omega)) l (out4 o0 o1 o2 o3) k
 have OO := fun k => odds_out (w := withQ s (chanceQ R A n)) (s := s) (l := l) (out := out4 o0 o1 o2 o3) (i := k)
 have OW := fun k => odds_with (w := withQ s (chanceQ R A n)) (s := s) (l := l) (out := out4 o0 o1 o2 o3) (i := k)
 have OL := fun k => odds_less (w := withQ s (chanceQ R A n)) (s := s) (l := l) (out := out4 o0 o1 o2 o3) (i := k)
 have OZ : oddsQ (withQ s (chanceQ R A n)) s l (out4 o0 o1 o2 o3) 0 = 1 := rfl
 generalize hOF : oddsQ (withQ s (chanceQ R A n)) s l (out4 o0 o1 o2 o3) = OF at *
 generalize hWQ : withQ s (chanceQ R A n) = wq at *
 generalize chanceQ R A n = q at *
 obtain ⟨ao, cap, rfl⟩ := hl.shape
 have HP := Hid.mk_ hl
 obtain ⟨N, hN⟩ : ∃ m, l.length = m := ⟨_, rfl⟩
 have HL := Hid.mk_ hN
 rw [hN] at HP l0 ⊢
 clear r0 r1 a0 a1 n2 n1 hp hub hl hOF hWQ hN
 go_enter Tryz.func65, Tryz.ntmps65
 have kk := Keeps.refl w
 go_wp2_with (first
  | (
    (with_reducible show wpList _ _ _ (⟨some 14, _, _, _, _, _⟩ :: _) _ _)
    refine load_big rfl 45 (.tmp 4) rfl (w.heap.size) rfl 45 #[.bool ua1, .slice ua2 ua3 ua4, .bool ua5, .slice ua6 ua7 ua8, .int .i64 R, .int .i64 A, .bool ub1, .slice ub2 ub3 ub4, .bool ub5, .slice ub6 ub7 ub8, .bool uc1, .slice uc2 uc3 uc4, .bool uc5, .slice uc6 uc7 uc8] _ ownK Tryz.underlying45 rfl (by kernel_rfl) ?_
    skip)
  )
 refine (FA _ (kk.trans keepsB)).mono ?_
 rintro e w1 ⟨vwi, vwo, rfl, hvwi, hvwo, hb1⟩
 have st : Steps _ w1 := hb1
 have B : Below w.heap.size w w1 := belowA st
 have kp : Keeps w w1 := Keeps.then_ keepsB st
 replace kk := kk.trans kp
 have ou : Blk w1 (w.heap.size) 45 #[.bool ua1, .slice ua2 ua3 ua4, .bool ua5, .slice ua6 ua7 ua8, .int .i64 R, .int .i64 A, .bool ub1, .slice ub2 ub3 ub4, .bool ub5, .slice ub6 ub7 ub8, .bool uc1, .slice uc2 uc3 uc4, .bool uc5, .slice uc6 uc7 uc8] := Blk.stepsK st
 have oj : Blk w1 (w.heap.size + 1) 80 #[.int .i64 o0, .int .i64 o1, .int .i64 o2, .int .i64 o3] := Blk.stepsK st
 have or : Blk w1 (w.heap.size + 1 + 1) 28 #[.bool false, .slice none 0 0, .bool false, .slice none 0 0] := Blk.stepsK st
 clear kp
 clear st
 obtain ⟨wi1, wi2, wi3, wi4, wi5, wi6, wi7, wi8, rfl⟩ := hvwi.shape
 obtain ⟨wo1, wo2, wo3, wo4, wo5, wo6, wo7, wo8, rfl⟩ := hvwo.shape
 have Fwi := Hid.mk_ hvwi
 clear hvwi
 have Fwo := Hid.mk_ hvwo
 clear hvwo
 have zr_1 : w.heap.size + 1 + 1 < w1.heap.size := or.lt
 have zz1 := B.size
 go_wp2_with fail
 refine (O1 _).mono ?_
 rintro e w2 ⟨vp_, rfl, hvp_, hb2⟩
 have st : Steps _ w2 := hb2
 have sk : Below w1.heap.size w1 w2 := belowA st
 replace B := below_steps B (Nat.le_refl _) sk
 have ovw : Blk w2 (w1.heap.size) 28 #[.bool wi1, .slice wi2 wi3 wi4, .bool wi5, .slice wi6 wi7 wi8] := Blk.stepsK st
 have ovl : Blk w2 (w1.heap.size + 1) 28 #[.bool wo1, .slice wo2 wo3 wo4, .bool wo5, .slice wo6 wo7 wo8] := Blk.stepsK st
 replace ou := ou.steps sk
 replace oj := oj.steps sk
 replace or := or.steps sk
 replace Fwi := Hid.mk_ (Fwi.out.steps sk)
 replace Fwo := Hid.mk_ (Fwo.out.steps sk)
 replace kk := kk.then_ sk
 clear st sk
 obtain ⟨p_1, p_2, p_3, p_4, p_5, p_6, p_7, p_8, rfl⟩ := hvp_.shape
 have Fp_ := Hid.mk_ hvp_
 clear hvp_
 have zvl_2 : w1.heap.size + 1 < w2.heap.size := ovl.lt
 have zz2 := B.size
 go_wp2_with fail
 have OZ' : Hid (FR _ (.agg #[.bool p_1, .slice p_2 p_3 p_4, .bool p_5, .slice p_6 p_7 p_8]) (OF 0)) := Hid.mk_ (by rw [OZ]; exact Fp_.out)
 go_loopw [12] (fun sl0 wr => ∃ (i : Nat) (y1 : Bool) (y2 : Option Addr) (y3 y4 : Nat) (y5 : Bool) (y6 : Option Addr) (y7 y8 : Nat), i ≤ N ∧ sl0 = .int .i64 i ∧ Blk wr (w2.heap.size) 28 #[.bool y1, .slice y2 y3 y4, .bool y5, .slice y6 y7 y8] ∧ FR wr (.agg #[.bool y1, .slice y2 y3 y4, .bool y5, .slice y6 y7 y8]) (OF i) ∧ Blk wr (w.heap.size) 45 #[.bool ua1, .slice ua2 ua3 ua4, .bool ua5, .slice ua6 ua7 ua8, .int .i64 R, .int .i64 A, .bool ub1, .slice ub2 ub3 ub4, .bool ub5, .slice ub6 ub7 ub8, .bool uc1, .slice uc2 uc3 uc4, .bool uc5, .slice uc6 uc7 uc8] ∧ Blk wr (w.heap.size + 1) 80 #[.int .i64 o0, .int .i64 o1, .int .i64 o2, .int .i64 o3] ∧ Blk wr (w.heap.size + 1 + 1) 28 #[.bool false, .slice none 0 0, .bool false, .slice none 0 0] ∧ Blk wr (w1.heap.size) 28 #[.bool wi1, .slice wi2 wi3 wi4, .bool wi5, .slice wi6 wi7 wi8] ∧ Blk wr (w1.heap.size + 1) 28 #[.bool wo1, .slice wo2 wo3 wo4, .bool wo5, .slice wo6 wo7 wo8] ∧ Below w.heap.size w wr ∧ Keeps w2 wr) (fun sl0 _ => N - (intOf sl0).toNat)
 case atStart => exact ⟨0, _, _, _, _, _, _, _, _, by omega, rfl, ownK, OZ'.out.keeps keepsB, ownK, ownK, ownK, ownK, ownK, belowB, keepsB⟩
 case round =>
  clear OZ' Fp_ kk
  clear ou oj or ovw ovl
  clear B
  obtain ⟨i, y1, y2, y3, y4, y5, y6, y7, y8, hi, rfl, ovp, fy, ou, oj, or, ovw, ovl, B, kk⟩ := hrel
  replace Fwi := Hid.mk_ (Fwi.out.keeps kk)
  replace Fwo := Hid.mk_ (Fwo.out.keeps kk)
  have Fy := Hid.mk_ fy
  clear fy
  have OSi := OS i
  have lu := ou.lt
  obtain ⟨cj0, cj1, cj2, cj3⟩ := oj.r3
  have lj := oj.lt
  obtain ⟨cr0, cr1, cr2, cr3, fr, lr⟩ := or.s3
  obtain ⟨cvw0, cvw1, cvw2, cvw3⟩ := ovw.r3
  have lvw := ovw.lt
  obtain ⟨cvl0, cvl1, cvl2, cvl3⟩ := ovl.r3
  have lvl := ovl.lt
  obtain ⟨cvp0, cvp1, cvp2, cvp3⟩ := ovp.r3
  have lvp := ovp.lt
  rcases Nat.lt_or_ge i N with i4 | i4
  ·
   have hlt : decide ((i : Int) < (N : Int)) = true := decide_eq_true (by omega)
   obtain ⟨b, of, rfl, hbl, h0⟩ := HP.out.at' (t := i) (by have := HL.out; omega)
   have c0 : wr.cell? ⟨b, of + i, none⟩ = some (.int .i64 (l.getD i 0)) := (B.cell (p := ⟨b, _, none⟩) hbl).trans h0
   have oo := OO i
   have ow := OW i
   have ol := OL i
   generalize l.getD i 0 = y at c0 ow ol
   have oT : ∀ m, out4 o0 o1 o2 o3 i = m → (((i : Int) == o0) || ((i : Int) == o1) || ((i : Int) == o2) || ((i : Int) == o3)) = m := fun m h => h
   have oE : out4 o0 o1 o2 o3 i = (((i : Int) == o0) || ((i : Int) == o1) || ((i : Int) == o2) || ((i : Int) == o3)) := rfl
   rw [oE] at oo ow ol
   clear h0 OO OW OL OS oT oE
   cases q0 : ((i : Int) == o0) with
   | true =>
    have e0 := oo (by rw [q0]; simp)
    clear oo ow ol c0
    go_wp2_with fail
    go_roundw
    case rel => exact ⟨i + 1, _, _, _, _, _, _, _, _, by omega, by go_num, ownK, (by rw [e0]; exact Fy.out.keeps keepsB), ownK, ownK, ownK, ownK, ownK, belowB, kk.trans keepsB⟩
    case measure => simp [intOf]; omega
   | false =>
    cases q1 : ((i : Int) == o1) with
    | true =>
     have e0 := oo (by rw [q0, q1]; simp)
     clear oo ow ol c0
     go_wp2_with fail
     go_roundw
     case rel => exact ⟨i + 1, _, _, _, _, _, _, _, _, by omega, by go_num, ownK, (by rw [e0]; exact Fy.out.keeps keepsB), ownK, ownK, ownK, ownK, ownK, belowB, kk.trans keepsB⟩
     case measure => simp [intOf]; omega
    | false =>
     cases q2 : ((i : Int) == o2) with
     | true =>
      have e0 := oo (by rw [q0, q1, q2]; simp)
      clear oo ow ol c0
      go_wp2_with fail
      go_roundw
      case rel => exact ⟨i + 1, _, _, _, _, _, _, _, _, by omega, by go_num, ownK, (by rw [e0]; exact Fy.out.keeps keepsB), ownK, ownK, ownK, ownK, ownK, belowB, kk.trans keepsB⟩
      case measure => simp [intOf]; omega
     | false =>
      cases q3 : ((i : Int) == o3) with
      | true =>
       have e0 := oo (by rw [q0, q1, q2, q3]; simp)
       clear oo ow ol c0
       go_wp2_with fail
       go_roundw
       case rel => exact ⟨i + 1, _, _, _, _, _, _, _, _, by omega, by go_num, ownK, (by rw [e0]; exact Fy.out.keeps keepsB), ownK, ownK, ownK, ownK, ownK, belowB, kk.trans keepsB⟩
       case measure => simp [intOf]; omega
      | false =>
       have f4 : ((((i : Int) == o0) || ((i : Int) == o1)) || ((i : Int) == o2) || ((i : Int) == o3)) = false := by rw [q0, q1, q2, q3]; rfl
       have ow' := ow f4
       have ol' := ol f4
       clear oo ow ol f4
       by_cases h0 : 0 ≤ y
       ·
        have e0 := ow' (by omega)
        clear ow' ol'
        go_wp2_with fail
        refine (prmul _ (Fy.out.keeps keepsB) (Fwi.out.keeps keepsB) OSi sw (by omega)).mono ?_
        rintro e w3 ⟨vxb, rfl, hvxb, hb3⟩
        have st : Steps _ w3 := hb3
        have sk : Below wr.heap.size wr w3 := belowA st
        replace B := below_steps B (Nat.le_refl _) sk
        replace ou := ou.steps sk
        replace oj := oj.steps sk
        replace or := or.steps sk
        replace ovw := ovw.steps sk
        replace ovl := ovl.steps sk
        replace ovp := ovp.steps sk
        replace Fwi := Hid.mk_ (Fwi.out.steps sk)
        replace Fwo := Hid.mk_ (Fwo.out.steps sk)
        replace Fy := Hid.mk_ (Fy.out.steps sk)
        replace kk := kk.then_ sk
        clear st sk lu cj0 cj1 cj2 cj3 lj cr0 cr1 cr2 cr3 fr lr cvw0 cvw1 cvw2 cvw3 lvw cvl0 cvl1 cvl2 cvl3 lvl cvp0 cvp1 cvp2 cvp3 lvp
        obtain ⟨cvp0, cvp1, cvp2, cvp3, fvp, lvp⟩ := ovp.s3
        obtain ⟨xb1, xb2, xb3, xb4, xb5, xb6, xb7, xb8, rfl⟩ := hvxb.shape
        have Fxb := Hid.mk_ hvxb
        clear hvxb
        go_wp2_with fail
        go_roundw
        case rel => exact ⟨i + 1, _, _, _, _, _, _, _, _, by omega, by go_num, ownK, (by rw [e0]; exact Fxb.out.keeps keepsB), ownK, ownK, ownK, ownK, ownK, belowB, kk.trans keepsB⟩
        case measure => simp [intOf]; omega
       ·
        have e0 := ol' (by omega)
        clear ow' ol'
        go_wp2_with fail
        refine (prmul _ (Fy.out.keeps keepsB) (Fwo.out.keeps keepsB) OSi ss (by omega)).mono ?_
        rintro e w3 ⟨vxd, rfl, hvxd, hb3⟩
        have st : Steps _ w3 := hb3
        have sk : Below wr.heap.size wr w3 := belowA st
        replace B := below_steps B (Nat.le_refl _) sk
        replace ou := ou.steps sk
        replace oj := oj.steps sk
        replace or := or.steps sk
        replace ovw := ovw.steps sk
        replace ovl := ovl.steps sk
        replace ovp := ovp.steps sk
        replace Fwi := Hid.mk_ (Fwi.out.steps sk)
        replace Fwo := Hid.mk_ (Fwo.out.steps sk)
        replace Fy := Hid.mk_ (Fy.out.steps sk)
        replace kk := kk.then_ sk
        clear st sk lu cj0 cj1 cj2 cj3 lj cr0 cr1 cr2 cr3 fr lr cvw0 cvw1 cvw2 cvw3 lvw cvl0 cvl1 cvl2 cvl3 lvl cvp0 cvp1 cvp2 cvp3 lvp
        obtain ⟨cvp0, cvp1, cvp2, cvp3, fvp, lvp⟩ := ovp.s3
        obtain ⟨xd1, xd2, xd3, xd4, xd5, xd6, xd7, xd8, rfl⟩ := hvxd.shape
        have Fxd := Hid.mk_ hvxd
        clear hvxd
        go_wp2_with fail
        go_roundw
        case rel => exact ⟨i + 1, _, _, _, _, _, _, _, _, by omega, by go_num, ownK, (by rw [e0]; exact Fxd.out.keeps keepsB), ownK, ownK, ownK, ownK, ownK, belowB, kk.trans keepsB⟩
        case measure => simp [intOf]; omega
  ·
   obtain rfl : i = N := by omega
   go_wp2_with fail
   refine bodyPost_ret (by simp [results, Tryz.results65, go_sem, lu, cj0, cj1, cj2, cj3, lj, cr0, cr1, cr2, cr3, fr, lr, cvw0, cvw1, cvw2, cvw3, lvw, cvl0, cvl1, cvl2, cvl3, lvl, cvp0, cvp1, cvp2, cvp3, lvp]; rfl) rfl ?_
   exact ⟨_, rfl, Fy.out.keeps keepsB, belowB⟩
theorem oddsQ_out4 {w s : Rat} {l : List Int} (n : Nat) : oddsQ w s l (out4 (-1) (-1) (-1) (-1)) n = oddsQ w s l noOut n := by
 refine oddsQ_congr n fun i _ => ?_
 have e : (((i : Nat) : Int) == (-1 : Int)) = false := beq_eq_false_iff_ne.2 (by omega)
 unfold out4 noOut
 rw [e]; rfl
theorem prOdds {ua1 ua5 ub1 ub5 uc1 uc5 : Bool} {ua2 ua6 ub2 ub6 uc2 uc6 : Option Addr} {ua3 ua4 ua7 ua8 ub3 ub4 ub7 ub8 uc3 uc4 uc7 uc8 : Nat} {R A n : Int} {O : Nat → Option Rat} {vp : Value} {l : List Int} (w : World) (b0 : FB w (.agg #[.bool ua1, .slice ua2 ua3 ua4, .bool ua5, .slice ua6 ua7 ua8]) (O 0)) (b1 : FB w (.agg #[.bool ub1, .slice ub2 ub3 ub4, .bool ub5, .slice ub6 ub7 ub8]) (O 1)) (b2 : FB w (.agg #[.bool uc1, .slice uc2 uc3 uc4, .bool uc5, .slice uc6 uc7 uc8]) (O 2)) (fw : FewL O (f4v ua3 ub3 uc3 uc3) (f4v ua7 ub7 uc7 uc7) 3) (hl : IntsR w vp l) :
  Calls Tryz.prog 25 #[.agg #[.bool ua1, .slice ua2 ua3 ua4, .bool ua5, .slice ua6 ua7 ua8, .int .i64 R, .int .i64 A, .bool ub1, .slice ub2 ub3 ub4, .bool ub5, .slice ub6 ub7 ub8, .bool uc1, .slice uc2 uc3 uc4, .bool uc5, .slice uc6 uc7 uc8], vp, .int .i64 n] w fun e w' => ∃ v, e = .returned (.tuple #[v, .int .i64 (oddsE (ruleOk O (f4v ua3 ub3 uc3 uc3) (f4v ua7 ub7 uc7 uc7) R A ua1) l.length (okK l n l.length) n (decide (chanceQ R A n < 1)))]) ∧ FO w' v (oddsR (oddsE (ruleOk O (f4v ua3 ub3 uc3 uc3) (f4v ua7 ub7 uc7 uc7) R A ua1) l.length (okK l n l.length) n (decide (chanceQ R A n < 1))) (oddsQ (withQ ((O 1).getD 0) (chanceQ R A n)) ((O 1).getD 0) l noOut l.length)) ∧ Steps w w' := by
 have CK : ∀ w', Keeps w w' → Calls Tryz.prog 18 #[.agg #[.bool ua1, .slice ua2 ua3 ua4, .bool ua5, .slice ua6 ua7 ua8, .int .i64 R, .int .i64 A, .bool ub1, .slice ub2 ub3 ub4, .bool ub5, .slice ub6 ub7 ub8, .bool uc1, .slice uc2 uc3 uc4, .bool uc5, .slice uc6 uc7 uc8]] w' fun e w2 => e = .returned (.int .i64 (apErr (ruleOk O (f4v ua3 ub3 uc3 uc3) (f4v ua7 ub7 uc7 uc7) R A ua1))) ∧ Steps w' w2 := fun w' k => prCheck w' (b0.keeps k) (b1.keeps k) (b2.keeps k) fw
 have RK : ruleOk O (f4v ua3 ub3 uc3 uc3) (f4v ua7 ub7 uc7 uc7) R A ua1 = true → (1 ≤ R ∧ R ≤ 65536 ∧ 1 ≤ A ∧ A ≤ 17592186044416) ∧ ∃ r, O 1 = some r ∧ (O 1).getD 0 = r ∧ sz r 2 := fun h => by
  obtain ⟨hL, hR, _⟩ := ruleOk_iff.1 h
  obtain ⟨r1, e1, z1⟩ := limL_sz hL fw 1 (by omega)
  exact ⟨hR, r1, e1, by rw [e1]; rfl, z1⟩
 have CH : (1 ≤ R ∧ R ≤ 65536 ∧ 1 ≤ A ∧ A ≤ 17592186044416) → 1 ≤ n → n ≤ 200 → ∀ w', Calls Tryz.prog 64 #[.agg #[.bool ua1, .slice ua2 ua3 ua4, .bool ua5, .slice ua6 ua7 ua8, .int .i64 R, .int .i64 A, .bool ub1, .slice ub2 ub3 ub4, .bool ub5, .slice ub6 ub7 ub8, .bool uc1, .slice uc2 uc3 uc4, .bool uc5, .slice uc6 uc7 uc8], .int .i64 n] w' fun e w2 => ∃ v, e = .returned v ∧ FR w2 v (chanceQ R A n) ∧ Steps w' w2 := fun hr n0 n1 w' => rChance (ua1 := ua1) (ua2 := ua2) (ua3 := ua3) (ua4 := ua4) (ua5 := ua5) (ua6 := ua6) (ua7 := ua7) (ua8 := ua8) (ub1 := ub1) (ub2 := ub2) (ub3 := ub3) (ub4 := ub4) (ub5 := ub5) (ub6 := ub6) (ub7 := ub7) (ub8 := ub8) (uc1 := uc1) (uc2 := uc2) (uc3 := uc3) (uc4 := uc4) (uc5 := uc5) (uc6 := uc6) (uc7 := uc7) (uc8 := uc8) R A n w' hr.1 hr.2.1 hr.2.2.1 hr.2.2.2 (by omega) n1
 have CW : (1 ≤ R ∧ R ≤ 65536 ∧ 1 ≤ A ∧ A ≤ 17592186044416) → 1 ≤ n → n ≤ 200 → ∀ w' u v, FR w' u (chanceQ R A n) → FR w' v 1 → Calls Tryz.prog 46 #[u, v] w' fun e w2 => e = .returned (.int .i64 (cmpQ (chanceQ R A n) 1)) ∧ Steps w' w2 := fun hr n0 n1 w' u v h1 h2 => prcmp w' h1 h2 (sz_chance hr.1 hr.2.1 hr.2.2.1 hr.2.2.2 (show 0 ≤ n by omega) n1).1 sz_1 (by omega)
 have OD : (1 ≤ R ∧ R ≤ 65536 ∧ 1 ≤ A ∧ A ≤ 17592186044416) → 1 ≤ n → n ≤ 200 → l.length ≤ 200 → ∀ r, O 1 = some r → (O 1).getD 0 = r → sz r 2 → ∀ w', Keeps w w' → Steps w w' → Calls Tryz.prog 65 #[.agg #[.bool ua1, .slice ua2 ua3 ua4, .bool ua5, .slice ua6 ua7 ua8, .int .i64 R, .int .i64 A, .bool ub1, .slice ub2 ub3 ub4, .bool ub5, .slice ub6 ub7 ub8, .bool uc1, .slice uc2 uc3 uc4, .bool uc5, .slice uc6 uc7 uc8], vp, .int .i64 n, .agg #[.int .i64 (-1), .int .i64 (-1), .int .i64 (-1), .int .i64 (-1)]] w' fun e w2 => ∃ v, e = .returned v ∧ FR w2 v (oddsQ (withQ ((O 1).getD 0) (chanceQ R A n)) ((O 1).getD 0) l noOut l.length) ∧ Steps w' w2 := fun hr n0 n1 hN r e1 e2 z w' k s => by
  rw [e2, ← oddsQ_out4]
  exact prodds w' (by have := b1.keeps k; rw [e1] at this; exact this) z hr.1 hr.2.1 hr.2.2.1 hr.2.2.2 n0 n1 (hl.steps s) hN
 have O1 : ∀ w', Calls Tryz.prog 47 #[.int .i64 1] w' fun e w2 => ∃ v, e = .returned v ∧ FR w2 v (1 : Rat) ∧ Steps w' w2 := fun w' => by have := rwhole 1 w' (by decide) (by decide); rw [one_cast] at this; exact this
 obtain ⟨ao, cap, rfl⟩ := hl.shape
 have HP := Hid.mk_ hl
 have eL : decide (chanceQ R A n < 1) = decide (cmpQ (chanceQ R A n) 1 < 0) := decide_eq_decide.2 cmpQ_lt.symm
 rw [eL]
 generalize hK : ruleOk O (f4v ua3 ub3 uc3 uc3) (f4v ua7 ub7 uc7 uc7) R A ua1 = K at *
 generalize oddsQ (withQ ((O 1).getD 0) (chanceQ R A n)) ((O 1).getD 0) l noOut l.length = Q at *
 generalize cmpQ (chanceQ R A n) 1 = c at *
 generalize chanceQ R A n = cq at *
 obtain ⟨N, hN⟩ : ∃ m, l.length = m := ⟨_, rfl⟩
 have HL := Hid.mk_ hN
 rw [hN] at OD HP ⊢
 clear hl b0 b1 b2 fw hK hN eL
 cases K with
 | false =>
  have eE : oddsE false N (okK l n N) n (decide (c < 0)) = 8 := by simp [oddsE]
  rw [eE]
  clear RK CH CW OD O1 HP HL
  have eA : apErr false = 8 := rfl
  rw [eA] at CK
  show Calls _ _ _ _ fun e w' => ∃ v, e = _ ∧ FO w' v none ∧ _
  go_enter Tryz.func25, Tryz.ntmps25
  have kk := Keeps.refl w
  go_wp2_with fail
  refine (CK _ (kk.trans keepsB)).mono ?_
  rintro e w1 ⟨rfl, hb1⟩
  have st : Steps _ w1 := hb1
  have B : Below w.heap.size w w1 := belowA st
  have kp : Keeps w w1 := Keeps.then_ keepsB st
  replace kk := kk.trans kp
  have ou : Blk w1 (w.heap.size) 45 #[.bool ua1, .slice ua2 ua3 ua4, .bool ua5, .slice ua6 ua7 ua8, .int .i64 R, .int .i64 A, .bool ub1, .slice ub2 ub3 ub4, .bool ub5, .slice ub6 ub7 ub8, .bool uc1, .slice uc2 uc3 uc4, .bool uc5, .slice uc6 uc7 uc8] := Blk.stepsK st
  have or : Blk w1 (w.heap.size + 1) 28 #[.bool false, .slice none 0 0, .bool false, .slice none 0 0] := Blk.stepsK st
  clear kp
  clear st
  have lu := ou.lt
  obtain ⟨cr0, cr1, cr2, cr3, fr, lr⟩ := or.s3
  dsimp only; repeat' (first | go_values | go_skip | go_guarded | go_step | go_upon)
  refine bodyPost_ret (by simp [results, Tryz.results25, go_sem, lu, cr0, cr1, cr2, cr3, fr, lr]; rfl) rfl ?_
  exact ⟨_, rfl, rfl, belowB⟩
 | true =>
  have eA : apErr true = 0 := rfl
  rw [eA] at CK
  obtain ⟨hR, r1, e1, e2, z1⟩ := RK rfl
  clear RK
  rcases (show 200 < N ∨ (¬ 200 < N ∧ n < 1) ∨ (¬ 200 < N ∧ ¬ n < 1 ∧ 200 < n) ∨ (¬ 200 < N ∧ ¬ n < 1 ∧ ¬ 200 < n) by omega) with g1 | ⟨g1, g2⟩ | ⟨g1, g2, g3⟩ | ⟨g1, g2, g3⟩
  ·
   have eE : oddsE true N (okK l n N) n (decide (c < 0)) = 4 := by simp [oddsE, g1]
   have hlt : decide ((200 : Int) < (N : Int)) = true := decide_eq_true (by omega)
   rw [eE]
   clear CH CW OD O1 HP HL
   show Calls _ _ _ _ fun e w' => ∃ v, e = _ ∧ FO w' v none ∧ _
   go_enter Tryz.func25, Tryz.ntmps25
   have kk := Keeps.refl w
   go_wp2_with fail
   refine (CK _ (kk.trans keepsB)).mono ?_
   rintro e w1 ⟨rfl, hb1⟩
   have st : Steps _ w1 := hb1
   have B : Below w.heap.size w w1 := belowA st
   have kp : Keeps w w1 := Keeps.then_ keepsB st
   replace kk := kk.trans kp
   have ou : Blk w1 (w.heap.size) 45 #[.bool ua1, .slice ua2 ua3 ua4, .bool ua5, .slice ua6 ua7 ua8, .int .i64 R, .int .i64 A, .bool ub1, .slice ub2 ub3 ub4, .bool ub5, .slice ub6 ub7 ub8, .bool uc1, .slice uc2 uc3 uc4, .bool uc5, .slice uc6 uc7 uc8] := Blk.stepsK st
   have or : Blk w1 (w.heap.size + 1) 28 #[.bool false, .slice none 0 0, .bool false, .slice none 0 0] := Blk.stepsK st
   clear kp
   clear st
   have lu := ou.lt
   obtain ⟨cr0, cr1, cr2, cr3, fr, lr⟩ := or.s3
   dsimp only; repeat' (first | go_values | go_skip | go_guarded | go_step | go_upon)
   refine bodyPost_ret (by simp [results, Tryz.results25, go_sem, lu, cr0, cr1, cr2, cr3, fr, lr]; rfl) rfl ?_
   exact ⟨_, rfl, rfl, belowB⟩
  ·
   have eE : oddsE true N (okK l n N) n (decide (c < 0)) = 2 := by simp [oddsE, g1, g2]
   have hlt : decide ((200 : Int) < (N : Int)) = false := decide_eq_false (by omega)
   rw [eE]
   clear CH CW OD O1 HP HL
   show Calls _ _ _ _ fun e w' => ∃ v, e = _ ∧ FO w' v none ∧ _
   go_enter Tryz.func25, Tryz.ntmps25
   have kk := Keeps.refl w
   go_wp2_with fail
   refine (CK _ (kk.trans keepsB)).mono ?_
   rintro e w1 ⟨rfl, hb1⟩
   have st : Steps _ w1 := hb1
   have B : Below w.heap.size w w1 := belowA st
   have kp : Keeps w w1 := Keeps.then_ keepsB st
   replace kk := kk.trans kp
   have ou : Blk w1 (w.heap.size) 45 #[.bool ua1, .slice ua2 ua3 ua4, .bool ua5, .slice ua6 ua7 ua8, .int .i64 R, .int .i64 A, .bool ub1, .slice ub2 ub3 ub4, .bool ub5, .slice ub6 ub7 ub8, .bool uc1, .slice uc2 uc3 uc4, .bool uc5, .slice uc6 uc7 uc8] := Blk.stepsK st
   have or : Blk w1 (w.heap.size + 1) 28 #[.bool false, .slice none 0 0, .bool false, .slice none 0 0] := Blk.stepsK st
   clear kp
   clear st
   have lu := ou.lt
   obtain ⟨cr0, cr1, cr2, cr3, fr, lr⟩ := or.s3
   dsimp only; repeat' (first | go_values | go_skip | go_guarded | go_step | go_upon)
   refine bodyPost_ret (by simp [results, Tryz.results25, go_sem, lu, cr0, cr1, cr2, cr3, fr, lr]; rfl) rfl ?_
   exact ⟨_, rfl, rfl, belowB⟩
  ·
   have eE : oddsE true N (okK l n N) n (decide (c < 0)) = 2 := by simp [oddsE, g1, g2, g3]
   have hlt : decide ((200 : Int) < (N : Int)) = false := decide_eq_false (by omega)
   rw [eE]
   clear CH CW OD O1 HP HL
   show Calls _ _ _ _ fun e w' => ∃ v, e = _ ∧ FO w' v none ∧ _
   go_enter Tryz.func25, Tryz.ntmps25
   have kk := Keeps.refl w
   go_wp2_with fail
   refine (CK _ (kk.trans keepsB)).mono ?_
   rintro e w1 ⟨rfl, hb1⟩
   have st : Steps _ w1 := hb1
   have B : Below w.heap.size w w1 := belowA st
   have kp : Keeps w w1 := Keeps.then_ keepsB st
   replace kk := kk.trans kp
   have ou : Blk w1 (w.heap.size) 45 #[.bool ua1, .slice ua2 ua3 ua4, .bool ua5, .slice ua6 ua7 ua8, .int .i64 R, .int .i64 A, .bool ub1, .slice ub2 ub3 ub4, .bool ub5, .slice ub6 ub7 ub8, .bool uc1, .slice uc2 uc3 uc4, .bool uc5, .slice uc6 uc7 uc8] := Blk.stepsK st
   have or : Blk w1 (w.heap.size + 1) 28 #[.bool false, .slice none 0 0, .bool false, .slice none 0 0] := Blk.stepsK st
   clear kp
   clear st
   have lu := ou.lt
   obtain ⟨cr0, cr1, cr2, cr3, fr, lr⟩ := or.s3
   dsimp only; repeat' (first | go_values | go_skip | go_guarded | go_step | go_upon)
   refine bodyPost_ret (by simp [results, Tryz.results25, go_sem, lu, cr0, cr1, cr2, cr3, fr, lr]; rfl) rfl ?_
   exact ⟨_, rfl, rfl, belowB⟩
  ·
   have hlt : decide ((200 : Int) < (N : Int)) = false := decide_eq_false (by omega)
   replace CH := CH hR (by omega) (by omega)
   replace CW := CW hR (by omega) (by omega)
   replace OD := OD hR (by omega) (by omega) (by omega) r1 e1 e2 z1
   clear hR e1 e2 z1
   have g1' : ¬ ((200 : Int) < (N : Int)) := by omega
   by_cases hc : 0 ≤ c
   ·
    have eE : oddsE true N (okK l n N) n (decide (c < 0)) = 2 := by rw [decide_eq_false (by omega)]; simp [oddsE, g1]
    rw [eE]
    clear OD HP HL
    show Calls _ _ _ _ fun e w' => ∃ v, e = _ ∧ FO w' v none ∧ _
    go_enter Tryz.func25, Tryz.ntmps25
    have kk := Keeps.refl w
    go_wp2_with fail
    refine (CK _ (kk.trans keepsB)).mono ?_
    rintro e w1 ⟨rfl, hb1⟩
    have st : Steps _ w1 := hb1
    have B : Below w.heap.size w w1 := belowA st
    have kp : Keeps w w1 := Keeps.then_ keepsB st
    replace kk := kk.trans kp
    have ou : Blk w1 (w.heap.size) 45 #[.bool ua1, .slice ua2 ua3 ua4, .bool ua5, .slice ua6 ua7 ua8, .int .i64 R, .int .i64 A, .bool ub1, .slice ub2 ub3 ub4, .bool ub5, .slice ub6 ub7 ub8, .bool uc1, .slice uc2 uc3 uc4, .bool uc5, .slice uc6 uc7 uc8] := Blk.stepsK st
    have or : Blk w1 (w.heap.size + 1) 28 #[.bool false, .slice none 0 0, .bool false, .slice none 0 0] := Blk.stepsK st
    clear kp
    clear st
    obtain ⟨cu0, cu1, cu2, cu3, cu4, cu5, cu6, cu7, cu8, cu9, cu10, cu11, cu12, cu13⟩ := ou.r13
    have lu := ou.lt
    have lr := or.lt
    go_wp2_with fail
    refine (CH _).mono ?_
    rintro e w2 ⟨vh_, rfl, hvh_, hb2⟩
    have st : Steps _ w2 := hb2
    have sk : Below w1.heap.size w1 w2 := belowA st
    replace B := below_steps B (Nat.le_refl _) sk
    replace ou := ou.steps sk
    replace or := or.steps sk
    replace kk := kk.then_ sk
    clear st sk cu0 cu1 cu2 cu3 cu4 cu5 cu6 cu7 cu8 cu9 cu10 cu11 cu12 cu13 lu lr
    obtain ⟨h_1, h_2, h_3, h_4, h_5, h_6, h_7, h_8, rfl⟩ := hvh_.shape
    have Fh_ := Hid.mk_ hvh_
    clear hvh_
    go_wp2_with fail
    refine (O1 _).mono ?_
    rintro e w3 ⟨vo_, rfl, hvo_, hb3⟩
    have st : Steps _ w3 := hb3
    have sk : Below w2.heap.size w2 w3 := belowA st
    replace B := below_steps B (Nat.le_refl _) sk
    replace ou := ou.steps sk
    replace or := or.steps sk
    replace Fh_ := Hid.mk_ (Fh_.out.steps sk)
    replace kk := kk.then_ sk
    clear st sk
    obtain ⟨o_1, o_2, o_3, o_4, o_5, o_6, o_7, o_8, rfl⟩ := hvo_.shape
    have Fo_ := Hid.mk_ hvo_
    clear hvo_
    go_wp2_with fail
    refine (CW _ _ _ (Fh_.out.keeps keepsB) (Fo_.out.keeps keepsB)).mono ?_
    rintro e w4 ⟨rfl, hb4⟩
    have st : Steps _ w4 := hb4
    have sk : Below w3.heap.size w3 w4 := belowA st
    replace B := below_steps B (Nat.le_refl _) sk
    replace ou := ou.steps sk
    replace or := or.steps sk
    replace Fh_ := Hid.mk_ (Fh_.out.steps sk)
    replace Fo_ := Hid.mk_ (Fo_.out.steps sk)
    replace kk := kk.then_ sk
    clear st sk
    have lu := ou.lt
    obtain ⟨cr0, cr1, cr2, cr3, fr, lr⟩ := or.s3
    dsimp only; repeat' (first | go_values | go_skip | go_guarded | go_step | go_upon)
    refine bodyPost_ret (by simp [results, Tryz.results25, go_sem, lu, cr0, cr1, cr2, cr3, fr, lr]; rfl) rfl ?_
    exact ⟨_, rfl, rfl, belowB⟩
   ·
    rw [decide_eq_true (show c < 0 by omega)]
    have eE : okK l n N = true → oddsE true N (okK l n N) n true = 0 := fun h => by rw [h]; simp [oddsE, g1, g2, g3]
    have eF : okK l n N = false → oddsE true N (okK l n N) n true = 2 := fun h => by rw [h]; simp [oddsE, g1]
    generalize hE : oddsE true N (okK l n N) n true = E at *
    clear hE
    go_enter Tryz.func25, Tryz.ntmps25
    have kk := Keeps.refl w
    go_wp2_with fail
    refine (CK _ (kk.trans keepsB)).mono ?_
    rintro e w1 ⟨rfl, hb1⟩
    have st : Steps _ w1 := hb1
    have B : Below w.heap.size w w1 := belowA st
    have kp : Keeps w w1 := Keeps.then_ keepsB st
    replace kk := kk.trans kp
    have ou : Blk w1 (w.heap.size) 45 #[.bool ua1, .slice ua2 ua3 ua4, .bool ua5, .slice ua6 ua7 ua8, .int .i64 R, .int .i64 A, .bool ub1, .slice ub2 ub3 ub4, .bool ub5, .slice ub6 ub7 ub8, .bool uc1, .slice uc2 uc3 uc4, .bool uc5, .slice uc6 uc7 uc8] := Blk.stepsK st
    have or : Blk w1 (w.heap.size + 1) 28 #[.bool false, .slice none 0 0, .bool false, .slice none 0 0] := Blk.stepsK st
    clear kp
    clear st
    obtain ⟨cu0, cu1, cu2, cu3, cu4, cu5, cu6, cu7, cu8, cu9, cu10, cu11, cu12, cu13⟩ := ou.r13
    have lu := ou.lt
    have lr := or.lt
    go_wp2_with fail
    refine (CH _).mono ?_
    rintro e w2 ⟨vh_, rfl, hvh_, hb2⟩
    have st : Steps _ w2 := hb2
    have sk : Below w1.heap.size w1 w2 := belowA st
    replace B := below_steps B (Nat.le_refl _) sk
    replace ou := ou.steps sk
    replace or := or.steps sk
    replace kk := kk.then_ sk
    clear st sk cu0 cu1 cu2 cu3 cu4 cu5 cu6 cu7 cu8 cu9 cu10 cu11 cu12 cu13 lu lr
    obtain ⟨h_1, h_2, h_3, h_4, h_5, h_6, h_7, h_8, rfl⟩ := hvh_.shape
    have Fh_ := Hid.mk_ hvh_
    clear hvh_
    go_wp2_with fail
    refine (O1 _).mono ?_
    rintro e w3 ⟨vo_, rfl, hvo_, hb3⟩
    have st : Steps _ w3 := hb3
    have sk : Below w2.heap.size w2 w3 := belowA st
    replace B := below_steps B (Nat.le_refl _) sk
    replace ou := ou.steps sk
    replace or := or.steps sk
    replace Fh_ := Hid.mk_ (Fh_.out.steps sk)
    replace kk := kk.then_ sk
    clear st sk
    obtain ⟨o_1, o_2, o_3, o_4, o_5, o_6, o_7, o_8, rfl⟩ := hvo_.shape
    have Fo_ := Hid.mk_ hvo_
    clear hvo_
    go_wp2_with fail
    refine (CW _ _ _ (Fh_.out.keeps keepsB) (Fo_.out.keeps keepsB)).mono ?_
    rintro e w4 ⟨rfl, hb4⟩
    have st : Steps _ w4 := hb4
    have sk : Below w3.heap.size w3 w4 := belowA st
    replace B := below_steps B (Nat.le_refl _) sk
    replace ou := ou.steps sk
    replace or := or.steps sk
    replace Fh_ := Hid.mk_ (Fh_.out.steps sk)
    replace Fo_ := Hid.mk_ (Fo_.out.steps sk)
    replace kk := kk.then_ sk
    clear st sk
    go_wp2_with fail
    go_loopw [8] (fun sl0 wr => ∃ i : Nat, i ≤ N ∧ sl0 = .int .i64 i ∧ okK l n i = true ∧ Blk wr (w.heap.size) 45 #[.bool ua1, .slice ua2 ua3 ua4, .bool ua5, .slice ua6 ua7 ua8, .int .i64 R, .int .i64 A, .bool ub1, .slice ub2 ub3 ub4, .bool ub5, .slice ub6 ub7 ub8, .bool uc1, .slice uc2 uc3 uc4, .bool uc5, .slice uc6 uc7 uc8] ∧ Blk wr (w.heap.size + 1) 28 #[.bool false, .slice none 0 0, .bool false, .slice none 0 0] ∧ Below w.heap.size w wr ∧ Keeps w wr) (fun sl0 _ => N - (intOf sl0).toNat)
    case atStart => exact ⟨0, by omega, rfl, rfl, ownK, ownK, belowB, kk.trans keepsB⟩
    case round =>
     clear ou or
     clear B kk
     clear Fh_ Fo_
     obtain ⟨i, hi, rfl, hok, ou, or, B, kk⟩ := hrel
     obtain ⟨cu0, cu1, cu2, cu3, cu4, cu5, cu6, cu7, cu8, cu9, cu10, cu11, cu12, cu13⟩ := ou.r13
     have lu := ou.lt
     obtain ⟨cr0, cr1, cr2, cr3, fr, lr⟩ := or.s3
     rcases Nat.lt_or_ge i N with i4 | i4
     ·
      have hlt2 : decide ((i : Int) < (N : Int)) = true := decide_eq_true (by omega)
      obtain ⟨b, of, rfl, hbl, h0⟩ := HP.out.at' (t := i) (by have := HL.out; omega)
      have c0 : wr.cell? ⟨b, of + i, none⟩ = some (.int .i64 (l.getD i 0)) := (B.cell (p := ⟨b, _, none⟩) hbl).trans h0
      have oS : okK l n (i + 1) = (okK l n i && decide (-1 ≤ l.getD i 0 ∧ l.getD i 0 < n)) := rfl
      rw [hok, Bool.true_and] at oS
      generalize l.getD i 0 = y at c0 oS
      clear h0
      by_cases q0 : y < -1
      ·
       have e0 := eF (okK_stay (i := i + 1) (by rw [oS]; exact decide_eq_false (by omega)) N (by omega))
       clear eE eF OD oS
       subst e0
       go_wp2_with fail
       refine bodyPost_ret (by simp [results, Tryz.results25, go_sem, cu0, cu1, cu2, cu3, cu4, cu5, cu6, cu7, cu8, cu9, cu10, cu11, cu12, cu13, lu, cr0, cr1, cr2, cr3, fr, lr]; rfl) rfl ?_
       exact ⟨_, rfl, rfl, belowB⟩
      ·
       by_cases q1 : n ≤ y
       ·
        have e0 := eF (okK_stay (i := i + 1) (by rw [oS]; exact decide_eq_false (by omega)) N (by omega))
        clear eE eF OD oS
        subst e0
        go_wp2_with fail
        refine bodyPost_ret (by simp [results, Tryz.results25, go_sem, cu0, cu1, cu2, cu3, cu4, cu5, cu6, cu7, cu8, cu9, cu10, cu11, cu12, cu13, lu, cr0, cr1, cr2, cr3, fr, lr]; rfl) rfl ?_
        exact ⟨_, rfl, rfl, belowB⟩
       ·
        have e1 : okK l n (i + 1) = true := oS.trans (decide_eq_true (by omega))
        go_wp2_with fail
        go_roundw
        case rel => exact ⟨i + 1, by omega, by go_num, e1, ownK, ownK, belowB, kk.trans keepsB⟩
        case measure => simp [intOf]; omega
     ·
      obtain rfl : i = N := by omega
      have e0 := eE hok
      clear eE eF
      subst e0
      go_wp2_with fail
      refine (OD _ (kk.trans keepsB) belowB).mono ?_
      rintro e w5 ⟨vp_, rfl, hvp_, hb5⟩
      have st : Steps _ w5 := hb5
      have sk : Below wr.heap.size wr w5 := belowA st
      replace B := below_steps B (Nat.le_refl _) sk
      replace ou := ou.steps sk
      replace or := or.steps sk
      replace kk := kk.then_ sk
      clear st sk cu0 cu1 cu2 cu3 cu4 cu5 cu6 cu7 cu8 cu9 cu10 cu11 cu12 cu13 lu cr0 cr1 cr2 cr3 fr lr
      have lu := ou.lt
      obtain ⟨cr0, cr1, cr2, cr3, fr, lr⟩ := or.s3
      obtain ⟨p_1, p_2, p_3, p_4, p_5, p_6, p_7, p_8, rfl⟩ := hvp_.shape
      have Fp_ := Hid.mk_ hvp_
      clear hvp_
      go_wp2_with fail
      refine bodyPost_ret (by simp [results, Tryz.results25, go_sem, lu, cr0, cr1, cr2, cr3, fr, lr]; rfl) rfl ?_
      exact ⟨_, rfl, Fp_.out.keeps keepsB, belowB⟩
end Go.Proofs.YtffmbepfbienaaaGreat
