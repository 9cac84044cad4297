/- SpanLeast: for every two intervals and two whole numbers the law returns true. Conditions: none. -/
import Derived.Test.YtalnlnpnacfdfaaGreatRows
import Derived.Test.YtalnlnpnacfdfaaGreatCLawH
import Derived.Test.YtalnlnpnacfdfaaGreatCGlue
namespace Go.Proofs.YtalnlnpnacfdfaaGreat
open Go.ChangeShapes Go.WideShapes Go.ChangeAt Go.RowKit Go.Joins
namespace spanLeast
theorem own : ownKnob Tryz.prog.godebug = none := by kernel_rfl
theorem cellsIv : Tryz.prog.cellsOf 23 = 2 := by kernel_rfl
set_option maxRecDepth 100000 in
theorem lifted (os : Os) (started : os.Started) (H : Type) (enc : TypeId × Value → H) :
    ReturnsInHanded {} Tryz.checked os 4 .any (Rows.spanLeastSpec.pre6 enc Tryz.prog Tryz.f4 Rows.spanLeastRow.domain false) (Rows.spanLeastSpec.post enc Tryz.prog Tryz.f4 false true false false) := by
  refine returnsInHanded_of_change (C := Tryz.checked) own started (by kernel_rfl) Tryz.func4
    (ChangeSpec.witness6 (enc := enc) (C := Tryz.checked) false ⟨#[], #[.agg #[.int .i64 0, .int .i64 0], .agg #[.int .i64 0, .int .i64 0], .int .i64 0, .int .i64 0], []⟩ 8 (by kernel_rfl) (by kernel_rfl) (by kernel_rfl) (by kernel_rfl)) ?_
  intro W base args ds gs before hval0 hW hcnd _
  have hval : ∀ (j : Nat) t v, Tryz.f4.params[j]? = some t → args[j]? = some v → Value.okWide Tryz.prog W .any base t v := hval0
  have hW' := hW
  obtain ⟨p, q, hA0, hV, rfl, hfz, hnd⟩ := hW
  have hA : DataW.TrodAll enc Tryz.prog W 0 (fun _ => true) true Tryz.f4.params.toList args.toList ds p := hA0
  have hS := hA
  rw [Tryz.params4] at hA hval
  obtain ⟨v0, vs0, d0, ds0, p0, q0, hargs, rfl, rfl, h0, r0⟩ := trodAll_cons hA
  obtain ⟨v1, vs1, d1, ds1, p1, q1, rfl, rfl, rfl, h1, r1⟩ := trodAll_cons r0
  obtain ⟨v2, vs2, d2, ds2, p2, q2, rfl, rfl, rfl, h2, r2⟩ := trodAll_cons r1
  obtain ⟨v3, vs3, d3, ds3, p3, q3, rfl, rfl, rfl, h3, r3⟩ := trodAll_cons r2
  obtain ⟨rfl, rfl, rfl⟩ := trodAll_nil r3
  obtain rfl : args = #[v0, v1, v2, v3] := by cases args; simp_all
  obtain ⟨rfl, rfl⟩ := trodVars_none hV
  obtain ⟨c0, c1, y0, y1, m0, rfl, rfl, rfl, hy0, hy1⟩ := open_agg2 Tryz.underlying23 (by kernel_rfl) cellsIv (hval 0 23 v0 rfl rfl) h0
  obtain ⟨a, e0, rfl, wa⟩ := DataW.trod_int Tryz.underlying2 hy0
  obtain ⟨b, e1, rfl, wb⟩ := DataW.trod_int Tryz.underlying2 hy1
  simp at e0 e1
  subst e0 e1
  obtain ⟨c0, c1, y0, y1, m1, rfl, rfl, rfl, hy0, hy1⟩ := open_agg2 Tryz.underlying23 (by kernel_rfl) cellsIv (hval 1 23 v1 rfl rfl) h1
  obtain ⟨c, e0, rfl, wc⟩ := DataW.trod_int Tryz.underlying2 hy0
  obtain ⟨d, e1, rfl, wd⟩ := DataW.trod_int Tryz.underlying2 hy1
  simp at e0 e1
  subst e0 e1
  obtain ⟨num, rfl, rfl, rfl, wnum⟩ := open_int Tryz.underlying2 (hval 2 2 v2 rfl rfl) h2
  have bnum := Go.bounds_i64 wnum
  obtain ⟨den, rfl, rfl, rfl, wden⟩ := open_int Tryz.underlying2 (hval 3 2 v3 rfl rfl) h3
  have bden := Go.bounds_i64 wden
  clear hA0 hval0
  have walk : Calls Tryz.prog 4 #[.agg #[.int .i64 a, .int .i64 b], .agg #[.int .i64 c, .int .i64 d], .int .i64 num, .int .i64 den] W fun e w' => e = .returned (.bool true) ∧ Below W.heap.size W w' := by
    by_cases hv : V a b ∧ V c d
    · exact least_ok a b c d num den W hv.1 hv.2 bnum.1 bnum.2 bden.1 bden.2
    · exact least_bad a b c d num den W hv
  refine walk.mono fun e W' ⟨he, hb⟩ => ?_
  subst he
  exact ⟨_, rfl, post_below (pv := []) hW' (fun _ _ _ => (trodAll_cons_mk (shut_bool Tryz.underlying4 _) trodAll_mk0)) (fun sp hs => trodAll_stays kids sfull hb (by decide) hS (fun p hp => hs p (List.mem_append_left _ hp))) (fun _ _ => rfl) rfl
    hb (ok_one (by kernel_rfl) rfl (okWide_bool_mk Tryz.underlying4 _))⟩
theorem over : Rows.spanLeastRow.holds Tryz.pinned (OpenSpec.ofChange Rows.spanLeastSpec) :=
  OpenClaim.holds_of_wide 4 Tryz.f4 rfl rfl rfl rfl rfl rfl rfl ⟨rfl, rfl, rfl, rfl, rfl⟩ rfl rfl rfl rfl rfl (by kernel_rfl) Tryz.func4 (by kernel_rfl)
    (of_decide_eq_true (by kernel_rfl)) (by unfold Func.isWrapper; first | (rw [if_pos (by decide +kernel)]; kernel_rfl) | (rw [if_neg (by decide +kernel)]; exact ⟨rfl, rfl⟩))
    (fun os started H enc _ => lifted os started H enc)
theorem proved : Rows.SpanLeastSaid :=
  over
end spanLeast
theorem spanLeast_holds : Rows.SpanLeastSaid := spanLeast.proved
#print axioms spanLeast_holds
end Go.Proofs.YtalnlnpnacfdfaaGreat
