import Derived.Test.YtffmbepfbienaaaGreatCMy
import Derived.Test.YtffmbepfbienaaaGreatCGluM
/- Rules and integers as arguments. -/
namespace Go.Proofs.YtffmbepfbienaaaGreat
open Go.ChangeShapes Go.WideShapes Go.ChangeAt Go.RowKit Go.Joins
section
variable {H : Type} {enc : TypeId × Value → H} {P : Program} {w : World} {b0 : Nat} {sp : Nat → Bool} {held : Bool}
theorem trodAll_four_ {t0 t1 t2 t3 : TypeId} {args : Array Value} {ds : List (DataW H)} {ps : List MemPlace} (h : DataW.TrodAll enc P w b0 sp held [t0, t1, t2, t3] args.toList ds ps) :
    ∃ v0 v1 v2 v3 d0 d1 d2 d3 p0 p1 p2 p3, args = #[v0, v1, v2, v3] ∧ ds = [d0, d1, d2, d3] ∧ ps = p0 ++ p1 ++ p2 ++ p3 ∧ DataW.Trod enc P w b0 sp held t0 v0 d0 p0 ∧ DataW.Trod enc P w b0 sp held t1 v1 d1 p1 ∧ DataW.Trod enc P w b0 sp held t2 v2 d2 p2 ∧ DataW.Trod enc P w b0 sp held t3 v3 d3 p3 := by
  obtain ⟨v0, vs0, d0, ds0, p0, q0, hargs, rfl, rfl, h0, r0⟩ := trodAll_cons h
  obtain ⟨v1, vs1, d1, ds1, p1, q1, rfl, rfl, rfl, h1, r1⟩ := trodAll_cons r0
  obtain ⟨v2, vs2, d2, ds2, p2, q2, rfl, rfl, rfl, h2, r2⟩ := trodAll_cons r1
  obtain ⟨v3, vs3, d3, ds3, p3, q3, rfl, rfl, rfl, h3, r3⟩ := trodAll_cons r2
  obtain ⟨rfl, rfl, rfl⟩ := trodAll_nil r3
  exact ⟨v0, v1, v2, v3, d0, d1, d2, d3, p0, p1, p2, p3, by cases args; simp_all, rfl, by simp, h0, h1, h2, h3⟩
end
section
variable {H : Type} {enc : TypeId × Value → H} {W : World} {base : Nat} {held : Bool} {n : Nat}
theorem cellsRule : Tryz.prog.cellsOf 45 = 14 := by kernel_rfl
set_option maxRecDepth 100000 in
set_option maxHeartbeats 1000000 in
theorem open_rule {cs : List Value} {y : DataW H × List MemPlace} (h : DataW.trod enc Tryz.prog W base (fun _ => true) held n 45 cs = some y) :
    ∃ ua1 ua2 ua3 ua4 ua5 ua6 ua7 ua8 ub1 ub2 ub3 ub4 ub5 ub6 ub7 ub8 uc1 uc2 uc3 uc4 uc5 uc6 uc7 uc8 R A, ∃ O : Nat → Option Rat, cs = [.bool ua1, .slice ua2 ua3 ua4, .bool ua5, .slice ua6 ua7 ua8, .int .i64 R, .int .i64 A, .bool ub1, .slice ub2 ub3 ub4, .bool ub5, .slice ub6 ub7 ub8, .bool uc1, .slice uc2 uc3 uc4, .bool uc5, .slice uc6 uc7 uc8] ∧ FB W (.agg #[.bool ua1, .slice ua2 ua3 ua4, .bool ua5, .slice ua6 ua7 ua8]) (O 0) ∧ FB W (.agg #[.bool ub1, .slice ub2 ub3 ub4, .bool ub5, .slice ub6 ub7 ub8]) (O 1) ∧ FB W (.agg #[.bool uc1, .slice uc2 uc3 uc4, .bool uc5, .slice uc6 uc7 uc8]) (O 2) ∧ FewL O (f4v ua3 ub3 uc3 uc3) (f4v ua7 ub7 uc7 uc7) 3 := by
  obtain ⟨xs, m, _, _, hc, hl, hf⟩ := DataW.trod_struct Tryz.underlying45 h
  rw [cellsRule] at hc
  have h0 := hf 0 _ rfl
  have h1 := hf 1 _ rfl
  have h2 := hf 2 _ rfl
  have h3 := hf 3 _ rfl
  have h4 := hf 4 _ rfl
  match xs, hl, cs, hc with
  | [x0, x1, x2, x3, x4], _, [c0, c1, c2, c3, c4, c5, c6, c7, c8, c9, c10, c11, c12, c13], _ =>
    simp [cellsF, cellsI64] at h0 h1 h2 h3 h4
    obtain ⟨gx0, sa0, gy0, sb0, la0, lb0, f0, l00, l01⟩ := open_frac h0
    obtain ⟨i1, f1, _, w1⟩ := DataW.trod_int Tryz.underlying2 h1
    obtain ⟨i2, f2, _, w2⟩ := DataW.trod_int Tryz.underlying2 h2
    obtain ⟨gx3, sa3, gy3, sb3, la3, lb3, f3, l30, l31⟩ := open_frac h3
    obtain ⟨gx4, sa4, gy4, sb4, la4, lb4, f4, l40, l41⟩ := open_frac h4
    simp only [List.cons.injEq, and_true] at f0 f1 f2 f3 f4
    obtain ⟨rfl, rfl, rfl, rfl⟩ := f0
    obtain ⟨rfl, rfl, rfl, rfl⟩ := f3
    obtain ⟨rfl, rfl, rfl, rfl⟩ := f4
    subst f1 f2
    obtain ⟨o0, b0, s0⟩ := raw_fb (gx := gx0) (gy := gy0) l00 l01
    obtain ⟨o1, b1, s1⟩ := raw_fb (gx := gx3) (gy := gy3) l30 l31
    obtain ⟨o2, b2, s2⟩ := raw_fb (gx := gx4) (gy := gy4) l40 l41
    obtain ⟨_, _, rfl⟩ := l00.shape
    obtain ⟨_, _, rfl⟩ := l01.shape
    obtain ⟨_, _, rfl⟩ := l30.shape
    obtain ⟨_, _, rfl⟩ := l31.shape
    obtain ⟨_, _, rfl⟩ := l40.shape
    obtain ⟨_, _, rfl⟩ := l41.shape
    refine ⟨_, _, _, _, _, _, _, _, _, _, _, _, _, _, _, _, _, _, _, _, _, _, _, _, _, _, f4v o0 o1 o2 none, rfl, b0, b1, b2, fun i hi => ?_⟩
    rcases (show i = 0 ∨ i = 1 ∨ i = 2 by omega) with rfl | rfl | rfl
    · exact s0
    · exact s1
    · exact s2
set_option maxRecDepth 100000 in
theorem open_ruleArg {r0 : Reach} {b0 : Nat} {v : Value} {d : DataW H} {p : List MemPlace} (hv : Value.okWide Tryz.prog W r0 b0 45 v) (h : DataW.Trod enc Tryz.prog W base (fun _ => true) held 45 v d p) :
    ∃ ua1 ua2 ua3 ua4 ua5 ua6 ua7 ua8 ub1 ub2 ub3 ub4 ub5 ub6 ub7 ub8 uc1 uc2 uc3 uc4 uc5 uc6 uc7 uc8 R A, ∃ O : Nat → Option Rat, v = .agg #[.bool ua1, .slice ua2 ua3 ua4, .bool ua5, .slice ua6 ua7 ua8, .int .i64 R, .int .i64 A, .bool ub1, .slice ub2 ub3 ub4, .bool ub5, .slice ub6 ub7 ub8, .bool uc1, .slice uc2 uc3 uc4, .bool uc5, .slice uc6 uc7 uc8] ∧ FB W (.agg #[.bool ua1, .slice ua2 ua3 ua4, .bool ua5, .slice ua6 ua7 ua8]) (O 0) ∧ FB W (.agg #[.bool ub1, .slice ub2 ub3 ub4, .bool ub5, .slice ub6 ub7 ub8]) (O 1) ∧ FB W (.agg #[.bool uc1, .slice uc2 uc3 uc4, .bool uc5, .slice uc6 uc7 uc8]) (O 2) ∧ FewL O (f4v ua3 ub3 uc3 uc3) (f4v ua7 ub7 uc7 uc7) 3 := by
  obtain ⟨cs, rfl, _⟩ := okWide_struct Tryz.underlying45 hv
  obtain ⟨fuel, hf⟩ := h
  obtain ⟨ua1, ua2, ua3, ua4, ua5, ua6, ua7, ua8, ub1, ub2, ub3, ub4, ub5, ub6, ub7, ub8, uc1, uc2, uc3, uc4, uc5, uc6, uc7, uc8, R, A, O, e, h0, h1, h2, hw⟩ := open_rule hf
  refine ⟨ua1, ua2, ua3, ua4, ua5, ua6, ua7, ua8, ub1, ub2, ub3, ub4, ub5, ub6, ub7, ub8, uc1, uc2, uc3, uc4, uc5, uc6, uc7, uc8, R, A, O, ?_, h0, h1, h2, hw⟩
  have e' : cs.toList = [.bool ua1, .slice ua2 ua3 ua4, .bool ua5, .slice ua6 ua7 ua8, .int .i64 R, .int .i64 A, .bool ub1, .slice ub2 ub3 ub4, .bool ub5, .slice ub6 ub7 ub8, .bool uc1, .slice uc2 uc3 uc4, .bool uc5, .slice uc6 uc7 uc8] := e
  rw [show cs = cs.toList.toArray by simp, e']
set_option maxRecDepth 100000 in
theorem open_intsArg {r : Reach} {b0 : Nat} {v : Value} {d : DataW H} {p : List MemPlace} (hv : Value.okWide Tryz.prog W r b0 46 v) (h : DataW.Trod enc Tryz.prog W base (fun _ => true) held 46 v d p) : ∃ l, IntsR W v l := by
  obtain ⟨a0, len0, cap0, rfl⟩ := okWide_slice Tryz.underlying46 hv
  obtain ⟨fuel, hf⟩ := h
  replace hf : DataW.trod enc Tryz.prog W base (fun _ => true) held fuel 46 [.slice a0 len0 cap0] = some (d, p) := hf
  rcases open_ints Tryz.underlying46 Tryz.underlying3 cells1 hf with ⟨e, _⟩ | ⟨a, len, cap, zs, e, _, hle, _, hl, _, hcell, hwf⟩
  · simp only [List.cons.injEq, and_true] at e
    rw [e]
    exact ⟨[], IntsR.nil W⟩
  · simp only [List.cons.injEq, and_true] at e
    rw [e]
    rw [if_pos rfl] at hl
    have lt : (zs.take len).length = len := by rw [List.length_take]; omega
    refine ⟨zs.take len, some a, cap, by rw [lt], by omega, fun hne => ?_⟩
    have hp : 0 < zs.length := by
      rcases Nat.eq_zero_or_pos len with h0 | h0
      · exact absurd (by rw [h0, List.take_zero]) hne
      · omega
    obtain ⟨b, off, rfl, hc⟩ := Go.ints_at hcell hp
    refine ⟨b, off, rfl, cell_lt (hc 0 hp), fun t ht => ?_⟩
    rw [lt] at ht
    rw [hc t (by omega)]
    simp [List.getD, List.getElem?_take, ht]
end
end Go.Proofs.YtffmbepfbienaaaGreat
