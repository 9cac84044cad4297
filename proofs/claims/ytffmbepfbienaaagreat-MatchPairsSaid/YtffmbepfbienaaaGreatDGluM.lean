import Derived.Test.YtffmbepfbienaaaGreatDMf
import Derived.Test.YtffmbepfbienaaaGreatDGluQ
/- Points, similarities and rules as arguments. -/
set_option linter.unusedVariables false
set_option linter.unusedSimpArgs false
set_option maxHeartbeats 6400000
set_option maxRecDepth 1000000
namespace Go.Proofs.YtffmbepfbienaaaGreat
open Go.ChangeShapes Go.WideShapes Go.ChangeAt Go.RowKit Go.Joins
section
variable {H : Type} {enc : TypeId × Value → H} {P : Program} {w : World} {b0 : Nat} {sp : Nat → Bool} {held : Bool}
theorem trodAll_seven_ {t0 t1 t2 t3 t4 t5 t6 : TypeId} {args : Array Value} {ds : List (DataW H)} {ps : List MemPlace} (h : DataW.TrodAll enc P w b0 sp held [t0, t1, t2, t3, t4, t5, t6] args.toList ds ps) :
  ∃ v0 v1 v2 v3 v4 v5 v6 d0 d1 d2 d3 d4 d5 d6 p0 p1 p2 p3 p4 p5 p6, args = #[v0, v1, v2, v3, v4, v5, v6] ∧ ds = [d0, d1, d2, d3, d4, d5, d6] ∧ ps = p0 ++ p1 ++ p2 ++ p3 ++ p4 ++ p5 ++ p6 ∧ DataW.Trod enc P w b0 sp held t0 v0 d0 p0 ∧ DataW.Trod enc P w b0 sp held t1 v1 d1 p1 ∧ DataW.Trod enc P w b0 sp held t2 v2 d2 p2 ∧ DataW.Trod enc P w b0 sp held t3 v3 d3 p3 ∧ DataW.Trod enc P w b0 sp held t4 v4 d4 p4 ∧ DataW.Trod enc P w b0 sp held t5 v5 d5 p5 ∧ DataW.Trod enc P w b0 sp held t6 v6 d6 p6 := by
 obtain ⟨v0, vs0, d0, ds0, p0, q0, hargs, rfl, rfl, h0, r0⟩ := trodAll_cons h
 obtain ⟨v1, vs1, d1, ds1, p1, q1, rfl, rfl, rfl, h1, r1⟩ := trodAll_cons r0
 obtain ⟨v2, vs2, d2, ds2, p2, q2, rfl, rfl, rfl, h2, r2⟩ := trodAll_cons r1
 obtain ⟨v3, vs3, d3, ds3, p3, q3, rfl, rfl, rfl, h3, r3⟩ := trodAll_cons r2
 obtain ⟨v4, vs4, d4, ds4, p4, q4, rfl, rfl, rfl, h4, r4⟩ := trodAll_cons r3
 obtain ⟨v5, vs5, d5, ds5, p5, q5, rfl, rfl, rfl, h5, r5⟩ := trodAll_cons r4
 obtain ⟨v6, vs6, d6, ds6, p6, q6, rfl, rfl, rfl, h6, r6⟩ := trodAll_cons r5
 obtain ⟨rfl, rfl, rfl⟩ := trodAll_nil r6
 exact ⟨v0, v1, v2, v3, v4, v5, v6, d0, d1, d2, d3, d4, d5, d6, p0, p1, p2, p3, p4, p5, p6, by cases args; simp_all, rfl, by simp, h0, h1, h2, h3, h4, h5, h6⟩
end
section
variable {H : Type} {enc : TypeId × Value → H} {W : World} {base : Nat} {held : Bool} {n : Nat}
theorem cellsI64 : Tryz.prog.cellsOf 2 = 1 := by kernel_rfl
theorem cellsSim : Tryz.prog.cellsOf 30 = 16 := by kernel_rfl
theorem open_similar {cs : List Value} {y : DataW H × List MemPlace} (h : DataW.trod enc Tryz.prog W base (fun _ => true) held n 30 cs = some y) :
  ∃ ka1 ka2 ka3 ka4 ka5 ka6 ka7 ka8 kb1 kb2 kb3 kb4 kb5 kb6 kb7 kb8 kc1 kc2 kc3 kc4 kc5 kc6 kc7 kc8 kd1 kd2 kd3 kd4 kd5 kd6 kd7 kd8, ∃ O : Nat → Option Rat, cs = [.bool ka1, .slice ka2 ka3 ka4, .bool ka5, .slice ka6 ka7 ka8, .bool kb1, .slice kb2 kb3 kb4, .bool kb5, .slice kb6 kb7 kb8, .bool kc1, .slice kc2 kc3 kc4, .bool kc5, .slice kc6 kc7 kc8, .bool kd1, .slice kd2 kd3 kd4, .bool kd5, .slice kd6 kd7 kd8] ∧ FB W (.agg #[.bool ka1, .slice ka2 ka3 ka4, .bool ka5, .slice ka6 ka7 ka8]) (O 0) ∧ FB W (.agg #[.bool kb1, .slice kb2 kb3 kb4, .bool kb5, .slice kb6 kb7 kb8]) (O 1) ∧ FB W (.agg #[.bool kc1, .slice kc2 kc3 kc4, .bool kc5, .slice kc6 kc7 kc8]) (O 2) ∧ FB W (.agg #[.bool kd1, .slice kd2 kd3 kd4, .bool kd5, .slice kd6 kd7 kd8]) (O 3) ∧ FewL O (f4v ka3 kb3 kc3 kd3) (f4v ka7 kb7 kc7 kd7) 4 := by
 obtain ⟨xs, m, _, _, hc, hl, hf⟩ := DataW.trod_struct Tryz.underlying30 h
 rw [cellsSim] at hc
 have h0 := hf 0 _ rfl
 have h1 := hf 1 _ rfl
 have h2 := hf 2 _ rfl
 have h3 := hf 3 _ rfl
 match xs, hl, cs, hc with
 | [x0, x1, x2, x3], _, [c0, c1, c2, c3, c4, c5, c6, c7, c8, c9, c10, c11, c12, c13, c14, c15], _ =>
  simp [cellsF] at h0 h1 h2 h3
  obtain ⟨gx0, sa0, gy0, sb0, la0, lb0, f0, l00, l01⟩ := open_frac h0
  obtain ⟨gx1, sa1, gy1, sb1, la1, lb1, f1, l10, l11⟩ := open_frac h1
  obtain ⟨gx2, sa2, gy2, sb2, la2, lb2, f2, l20, l21⟩ := open_frac h2
  obtain ⟨gx3, sa3, gy3, sb3, la3, lb3, f3, l30, l31⟩ := open_frac h3
  simp only [List.cons.injEq, and_true] at f0 f1 f2 f3
  obtain ⟨rfl, rfl, rfl, rfl⟩ := f0
  obtain ⟨rfl, rfl, rfl, rfl⟩ := f1
  obtain ⟨rfl, rfl, rfl, rfl⟩ := f2
  obtain ⟨rfl, rfl, rfl, rfl⟩ := f3
  obtain ⟨o0, b0, s0⟩ := raw_fb (gx := gx0) (gy := gy0) l00 l01
  obtain ⟨o1, b1, s1⟩ := raw_fb (gx := gx1) (gy := gy1) l10 l11
  obtain ⟨o2, b2, s2⟩ := raw_fb (gx := gx2) (gy := gy2) l20 l21
  obtain ⟨o3, b3, s3⟩ := raw_fb (gx := gx3) (gy := gy3) l30 l31
  obtain ⟨_, _, rfl⟩ := l00.shape
  obtain ⟨_, _, rfl⟩ := l01.shape
  obtain ⟨_, _, rfl⟩ := l10.shape
  obtain ⟨_, _, rfl⟩ := l11.shape
  obtain ⟨_, _, rfl⟩ := l20.shape
  obtain ⟨_, _, rfl⟩ := l21.shape
  obtain ⟨_, _, rfl⟩ := l30.shape
  obtain ⟨_, _, rfl⟩ := l31.shape
  refine ⟨_, _, _, _, _, _, _, _, _, _, _, _, _, _, _, _, _, _, _, _, _, _, _, _, _, _, _, _, _, _, _, _, f4v o0 o1 o2 o3, rfl, b0, b1, b2, b3, fun i hi => ?_⟩
  rcases lt4 hi with rfl | rfl | rfl | rfl
  · exact s0
  · exact s1
  · exact s2
  · exact s3
theorem open_simArg {r0 : Reach} {b0 : Nat} {v : Value} {d : DataW H} {p : List MemPlace} (hv : Value.okWide Tryz.prog W r0 b0 30 v) (h : DataW.Trod enc Tryz.prog W base (fun _ => true) held 30 v d p) :
  ∃ ka1 ka2 ka3 ka4 ka5 ka6 ka7 ka8 kb1 kb2 kb3 kb4 kb5 kb6 kb7 kb8 kc1 kc2 kc3 kc4 kc5 kc6 kc7 kc8 kd1 kd2 kd3 kd4 kd5 kd6 kd7 kd8, ∃ O : Nat → Option Rat, v = .agg #[.bool ka1, .slice ka2 ka3 ka4, .bool ka5, .slice ka6 ka7 ka8, .bool kb1, .slice kb2 kb3 kb4, .bool kb5, .slice kb6 kb7 kb8, .bool kc1, .slice kc2 kc3 kc4, .bool kc5, .slice kc6 kc7 kc8, .bool kd1, .slice kd2 kd3 kd4, .bool kd5, .slice kd6 kd7 kd8] ∧ FB W (.agg #[.bool ka1, .slice ka2 ka3 ka4, .bool ka5, .slice ka6 ka7 ka8]) (O 0) ∧ FB W (.agg #[.bool kb1, .slice kb2 kb3 kb4, .bool kb5, .slice kb6 kb7 kb8]) (O 1) ∧ FB W (.agg #[.bool kc1, .slice kc2 kc3 kc4, .bool kc5, .slice kc6 kc7 kc8]) (O 2) ∧ FB W (.agg #[.bool kd1, .slice kd2 kd3 kd4, .bool kd5, .slice kd6 kd7 kd8]) (O 3) ∧ FewL O (f4v ka3 kb3 kc3 kd3) (f4v ka7 kb7 kc7 kd7) 4 := by
 obtain ⟨cs, rfl, _⟩ := okWide_struct Tryz.underlying30 hv
 obtain ⟨fuel, hf⟩ := h
 obtain ⟨ka1, ka2, ka3, ka4, ka5, ka6, ka7, ka8, kb1, kb2, kb3, kb4, kb5, kb6, kb7, kb8, kc1, kc2, kc3, kc4, kc5, kc6, kc7, kc8, kd1, kd2, kd3, kd4, kd5, kd6, kd7, kd8, O, e, h0, h1, h2, h3, hw⟩ := open_similar hf
 refine ⟨ka1, ka2, ka3, ka4, ka5, ka6, ka7, ka8, kb1, kb2, kb3, kb4, kb5, kb6, kb7, kb8, kc1, kc2, kc3, kc4, kc5, kc6, kc7, kc8, kd1, kd2, kd3, kd4, kd5, kd6, kd7, kd8, O, ?_, h0, h1, h2, h3, hw⟩
 have e' : cs.toList = [.bool ka1, .slice ka2 ka3 ka4, .bool ka5, .slice ka6 ka7 ka8, .bool kb1, .slice kb2 kb3 kb4, .bool kb5, .slice kb6 kb7 kb8, .bool kc1, .slice kc2 kc3 kc4, .bool kc5, .slice kc6 kc7 kc8, .bool kd1, .slice kd2 kd3 kd4, .bool kd5, .slice kd6 kd7 kd8] := e
 rw [show cs = cs.toList.toArray by simp, e']
end
end Go.Proofs.YtffmbepfbienaaaGreat
/- Rules and integers as arguments. -/
namespace Go.Proofs.YtffmbepfbienaaaGreat
open Go.ChangeShapes Go.WideShapes Go.ChangeAt Go.RowKit Go.Joins
section
variable {H : Type} {enc : TypeId × Value → H} {P : Program} {w : World} {b0 : Nat} {sp : Nat → Bool} {held : Bool}
end
section
variable {H : Type} {enc : TypeId × Value → H} {W : World} {base : Nat} {held : Bool} {n : Nat}
theorem cellsRule : Tryz.prog.cellsOf 45 = 14 := by kernel_rfl
theorem open_rule {cs : List Value} {y : DataW H × List MemPlace} (h : DataW.trod enc Tryz.prog W base (fun _ => true) held n 45 cs = some y) :
  ∃ ua1 ua2 ua3 ua4 ua5 ua6 ua7 ua8 ub1 ub2 ub3 ub4 ub5 ub6 ub7 ub8 uc1 uc2 uc3 uc4 uc5 uc6 uc7 uc8 R A, ∃ O : Nat → Option Rat, cs = [.bool ua1, .slice ua2 ua3 ua4, .bool ua5, .slice ua6 ua7 ua8, .int .i64 R, .int .i64 A, .bool ub1, .slice ub2 ub3 ub4, .bool ub5, .slice ub6 ub7 ub8, .bool uc1, .slice uc2 uc3 uc4, .bool uc5, .slice uc6 uc7 uc8] ∧ FB W (.agg #[.bool ua1, .slice ua2 ua3 ua4, .bool ua5, .slice ua6 ua7 ua8]) (O 0) ∧ FB W (.agg #[.bool ub1, .slice ub2 ub3 ub4, .bool ub5, .slice ub6 ub7 ub8]) (O 1) ∧ FB W (.agg #[.bool uc1, .slice uc2 uc3 uc4, .bool uc5, .slice uc6 uc7 uc8]) (O 2) ∧ FewL O (f4v ua3 ub3 uc3 uc3) (f4v ua7 ub7 uc7 uc7) 3 := by
 obtain ⟨xs, m, _, _, hc, hl, hf⟩ := DataW.trod_struct Tryz.underlying45 h
 rw [cellsRule] at hc
 have h0 := hf 0 _ rfl
 have h1 := hf 1 _ rfl
 have h2 := hf 2 _ rfl
 have h3 := hf 3 _ rfl
 have h4 := hf 4 _ rfl
 match xs, hl, cs, hc with
 | [x0, x1, x2, x3, x4], _, [c0, c1, c2, c3, c4, c5, c6, c7, c8, c9, c10, c11, c12, c13], _ =>
  simp [cellsF, cellsI64] at h0 h1 h2 h3 h4
  obtain ⟨gx0, sa0, gy0, sb0, la0, lb0, f0, l00, l01⟩ := open_frac h0
  obtain ⟨i1, f1, _, w1⟩ := DataW.trod_int Tryz.underlying2 h1
  obtain ⟨i2, f2, _, w2⟩ := DataW.trod_int Tryz.underlying2 h2
  obtain ⟨gx3, sa3, gy3, sb3, la3, lb3, f3, l30, l31⟩ := open_frac h3
  obtain ⟨gx4, sa4, gy4, sb4, la4, lb4, f4, l40, l41⟩ := open_frac h4
  simp only [List.cons.injEq, and_true] at f0 f1 f2 f3 f4
  obtain ⟨rfl, rfl, rfl, rfl⟩ := f0
  obtain ⟨rfl, rfl, rfl, rfl⟩ := f3
  obtain ⟨rfl, rfl, rfl, rfl⟩ := f4
  subst f1 f2
  obtain ⟨o0, b0, s0⟩ := raw_fb (gx := gx0) (gy := gy0) l00 l01
  obtain ⟨o1, b1, s1⟩ := raw_fb (gx := gx3) (gy := gy3) l30 l31
  obtain ⟨o2, b2, s2⟩ := raw_fb (gx := gx4) (gy := gy4) l40 l41
  obtain ⟨_, _, rfl⟩ := l00.shape
  obtain ⟨_, _, rfl⟩ := l01.shape
  obtain ⟨_, _, rfl⟩ := l30.shape
  obtain ⟨_, _, rfl⟩ := l31.shape
  obtain ⟨_, _, rfl⟩ := l40.shape
  obtain ⟨_, _, rfl⟩ := l41.shape
  refine ⟨_, _, _, _, _, _, _, _, _, _, _, _, _, _, _, _, _, _, _, _, _, _, _, _, _, _, f4v o0 o1 o2 none, rfl, b0, b1, b2, fun i hi => ?_⟩
  rcases (show i = 0 ∨ i = 1 ∨ i = 2 by omega) with rfl | rfl | rfl
  · exact s0
  · exact s1
  · exact s2
theorem open_ruleArg {r0 : Reach} {b0 : Nat} {v : Value} {d : DataW H} {p : List MemPlace} (hv : Value.okWide Tryz.prog W r0 b0 45 v) (h : DataW.Trod enc Tryz.prog W base (fun _ => true) held 45 v d p) :
  ∃ ua1 ua2 ua3 ua4 ua5 ua6 ua7 ua8 ub1 ub2 ub3 ub4 ub5 ub6 ub7 ub8 uc1 uc2 uc3 uc4 uc5 uc6 uc7 uc8 R A, ∃ O : Nat → Option Rat, v = .agg #[.bool ua1, .slice ua2 ua3 ua4, .bool ua5, .slice ua6 ua7 ua8, .int .i64 R, .int .i64 A, .bool ub1, .slice ub2 ub3 ub4, .bool ub5, .slice ub6 ub7 ub8, .bool uc1, .slice uc2 uc3 uc4, .bool uc5, .slice uc6 uc7 uc8] ∧ FB W (.agg #[.bool ua1, .slice ua2 ua3 ua4, .bool ua5, .slice ua6 ua7 ua8]) (O 0) ∧ FB W (.agg #[.bool ub1, .slice ub2 ub3 ub4, .bool ub5, .slice ub6 ub7 ub8]) (O 1) ∧ FB W (.agg #[.bool uc1, .slice uc2 uc3 uc4, .bool uc5, .slice uc6 uc7 uc8]) (O 2) ∧ FewL O (f4v ua3 ub3 uc3 uc3) (f4v ua7 ub7 uc7 uc7) 3 := by
 obtain ⟨cs, rfl, _⟩ := okWide_struct Tryz.underlying45 hv
 obtain ⟨fuel, hf⟩ := h
 obtain ⟨ua1, ua2, ua3, ua4, ua5, ua6, ua7, ua8, ub1, ub2, ub3, ub4, ub5, ub6, ub7, ub8, uc1, uc2, uc3, uc4, uc5, uc6, uc7, uc8, R, A, O, e, h0, h1, h2, hw⟩ := open_rule hf
 refine ⟨ua1, ua2, ua3, ua4, ua5, ua6, ua7, ua8, ub1, ub2, ub3, ub4, ub5, ub6, ub7, ub8, uc1, uc2, uc3, uc4, uc5, uc6, uc7, uc8, R, A, O, ?_, h0, h1, h2, hw⟩
 have e' : cs.toList = [.bool ua1, .slice ua2 ua3 ua4, .bool ua5, .slice ua6 ua7 ua8, .int .i64 R, .int .i64 A, .bool ub1, .slice ub2 ub3 ub4, .bool ub5, .slice ub6 ub7 ub8, .bool uc1, .slice uc2 uc3 uc4, .bool uc5, .slice uc6 uc7 uc8] := e
 rw [show cs = cs.toList.toArray by simp, e']
theorem open_intsArg {r : Reach} {b0 : Nat} {v : Value} {d : DataW H} {p : List MemPlace} (hv : Value.okWide Tryz.prog W r b0 46 v) (h : DataW.Trod enc Tryz.prog W base (fun _ => true) held 46 v d p) : ∃ l, IntsR W v l := by
 obtain ⟨a0, len0, cap0, rfl⟩ := okWide_slice Tryz.underlying46 hv
 obtain ⟨fuel, hf⟩ := h
 replace hf : DataW.trod enc Tryz.prog W base (fun _ => true) held fuel 46 [.slice a0 len0 cap0] = some (d, p) := hf
 rcases open_ints Tryz.underlying46 Tryz.underlying3 cells1 hf with ⟨e, _⟩ | ⟨a, len, cap, zs, e, _, hle, _, hl, _, hcell, hwf⟩
 ·
  simp only [List.cons.injEq, and_true] at e
  rw [e]
  exact ⟨[], IntsR.nil W⟩
 ·
  simp only [List.cons.injEq, and_true] at e
  rw [e]
  rw [if_pos rfl] at hl
  have lt : (zs.take len).length = len := by rw [List.length_take]; omega
  refine ⟨zs.take len, some a, cap, by rw [lt], by omega, fun hne => ?_⟩
  have hp : 0 < zs.length := by
   rcases Nat.eq_zero_or_pos len with h0 | h0
   · exact absurd (by rw [h0, List.take_zero]) hne
   · omega
  obtain ⟨b, off, rfl, hc⟩ := Go.ints_at hcell hp
  refine ⟨b, off, rfl, cell_lt (hc 0 hp), fun t ht => ?_⟩
  rw [lt] at ht
  rw [hc t (by omega)]
  simp [List.getD, List.getElem?_take, ht]
end
end Go.Proofs.YtffmbepfbienaaaGreat
