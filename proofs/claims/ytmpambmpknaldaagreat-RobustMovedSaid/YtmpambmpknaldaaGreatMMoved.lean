/- RobustMoved: for any list, constant, fraction of a percentile and factor the law returns true: a constant that is added to all elements is added to the mean, the median and percentiles, and changes neither variance and deviation, nor what is clipped. Conditions: none. -/
import Derived.Test.YtmpambmpknaldaaGreatRows
import Derived.Test.YtmpambmpknaldaaGreatMGluV
import Derived.Test.YtmpambmpknaldaaGreatMGlue
import Derived.Test.YtmpambmpknaldaaGreatMCl
set_option linter.unusedVariables false
set_option linter.unusedSimpArgs false
namespace Go.Proofs.YtmpambmpknaldaaGreat
open Go.ChangeShapes Go.WideShapes Go.ChangeAt Go.RowKit Go.Joins
namespace robustMoved
theorem own : ownKnob Tryz.prog.godebug = none := by kernel_rfl
set_option maxRecDepth 100000 in
theorem lifted (os : Os) (started : os.Started) (H : Type) (enc : TypeId × Value → H) :
  ReturnsInHanded {} Tryz.checked os 7 .any (Rows.robustMovedSpec.pre6 enc Tryz.prog Tryz.f7 Rows.robustMovedRow.domain false) (Rows.robustMovedSpec.post enc Tryz.prog Tryz.f7 false true false false) := by
 refine returnsInHanded_of_change (C := Tryz.checked) own started (by kernel_rfl) Tryz.func7
  (ChangeSpec.witness6 (enc := enc) (C := Tryz.checked) false ⟨#[], #[.slice none 0 0, .int .i64 0, .int .i64 0, .int .i64 0, .agg #[.bool false, .slice none 0 0, .bool false, .slice none 0 0]], []⟩ 8 (by kernel_rfl) (by kernel_rfl) (by kernel_rfl) (by kernel_rfl)) ?_
 intro W base args ds gs before hval0 hW hcnd _
 have hval : ∀ (j : Nat) t v, Tryz.f7.params[j]? = some t → args[j]? = some v → Value.okWide Tryz.prog W .any base t v := hval0
 have hW' := hW
 obtain ⟨p, q, hA0, hV, rfl, hfz, hnd⟩ := hW
 have hA : DataW.TrodAll enc Tryz.prog W 0 (fun _ => true) true Tryz.f7.params.toList args.toList ds p := hA0
 have hS := hA
 rw [Tryz.params7] at hA hval
 obtain ⟨v0, v1, v2, v3, v4, d0, d1, d2, d3, d4, p0, p1, p2, p3, p4, rfl, rfl, rfl, h0, h1, h2, h3, h4⟩ := trodAll_fiveW hA
 obtain ⟨rfl, rfl⟩ := trodVars_none hV
 obtain ⟨l, hl⟩ := open_i64sArg (hval 0 22 v0 rfl rfl) h0
 obtain ⟨bb, rfl, rfl, rfl, wbb⟩ := open_int Tryz.underlying2 (hval 1 2 v1 rfl rfl) h1
 obtain ⟨nn, rfl, rfl, rfl, wnn⟩ := open_int Tryz.underlying3 (hval 2 3 v2 rfl rfl) h2
 obtain ⟨dd, rfl, rfl, rfl, wdd⟩ := open_int Tryz.underlying3 (hval 3 3 v3 rfl rfl) h3
 obtain ⟨gx, sa, gy, sb, ll, mm, rfl, l1, l2⟩ := open_fracArg (hval 4 27 v4 rfl rfl) h4
 obtain ⟨o, hf, ho⟩ := raw_fbV (gx := gx) (gy := gy) l1 l2
 obtain ⟨_, _, rfl⟩ := l1.shape
 obtain ⟨_, _, rfl⟩ := l2.shape
 clear hA0 hval0
 refine (moved_law bb nn dd W hl hf ho (i64_wf' wnn) (i64_wf' wdd)).mono fun e W' ⟨he, hb⟩ => ?_
 subst he
 exact ⟨_, rfl, post_below (pv := []) hW' (fun _ _ _ => (trodAll_cons_mk (shut_bool Tryz.underlying4 _) trodAll_mk0)) (fun sp hs => trodAll_stays kids sfull hb (by decide) hS (fun p hp => hs p (List.mem_append_left _ hp))) (fun _ _ => rfl) rfl
  hb (ok_one (by kernel_rfl) rfl (okWide_bool_mk Tryz.underlying4 _))⟩
theorem over : Rows.robustMovedRow.holds Tryz.pinned (OpenSpec.ofChange Rows.robustMovedSpec) :=
 OpenClaim.holds_of_wide 7 Tryz.f7 rfl rfl rfl rfl rfl rfl rfl ⟨rfl, rfl, rfl, rfl, rfl⟩ rfl rfl rfl rfl rfl (by kernel_rfl) Tryz.func7 (by kernel_rfl)
  (of_decide_eq_true (by kernel_rfl)) (by unfold Func.isWrapper; first | (rw [if_pos (by decide +kernel)]; kernel_rfl) | (rw [if_neg (by decide +kernel)]; exact ⟨rfl, rfl⟩))
  (fun os started H enc _ => lifted os started H enc)
theorem proved : Rows.RobustMovedSaid :=
 over
end robustMoved
theorem robustMoved_holds : Rows.RobustMovedSaid := robustMoved.proved
#print axioms robustMoved_holds
end Go.Proofs.YtmpambmpknaldaaGreat
