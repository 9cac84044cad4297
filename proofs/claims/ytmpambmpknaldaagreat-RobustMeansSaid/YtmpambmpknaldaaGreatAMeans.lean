/- RobustMeans: for any list and fraction the law returns true: Mean, Variance, Clip and Trimmed return what the reference returns, and leave the list as it is. Conditions: none. -/
import Derived.Test.YtmpambmpknaldaaGreatRows
import Derived.Test.YtmpambmpknaldaaGreatAGluV
import Derived.Test.YtmpambmpknaldaaGreatACl
set_option linter.unusedVariables false
set_option linter.unusedSimpArgs false
namespace Go.Proofs.YtmpambmpknaldaaGreat
open Go.ChangeShapes Go.WideShapes Go.ChangeAt Go.RowKit Go.Joins
namespace robustMeans
theorem own : ownKnob Tryz.prog.godebug = none := by kernel_rfl
set_option maxRecDepth 100000 in
theorem lifted (os : Os) (started : os.Started) (H : Type) (enc : TypeId × Value → H) :
  ReturnsInHanded {} Tryz.checked os 3 .any (Rows.robustMeansSpec.pre6 enc Tryz.prog Tryz.f3 Rows.robustMeansRow.domain false) (Rows.robustMeansSpec.post enc Tryz.prog Tryz.f3 false true false false) := by
 refine returnsInHanded_of_change (C := Tryz.checked) own started (by kernel_rfl) Tryz.func3
  (ChangeSpec.witness6 (enc := enc) (C := Tryz.checked) false ⟨#[], #[.slice none 0 0, .agg #[.bool false, .slice none 0 0, .bool false, .slice none 0 0]], []⟩ 8 (by kernel_rfl) (by kernel_rfl) (by kernel_rfl) (by kernel_rfl)) ?_
 intro W base args ds gs before hval0 hW hcnd _
 have hval : ∀ (j : Nat) t v, Tryz.f3.params[j]? = some t → args[j]? = some v → Value.okWide Tryz.prog W .any base t v := hval0
 have hW' := hW
 obtain ⟨p, q, hA0, hV, rfl, hfz, hnd⟩ := hW
 have hA : DataW.TrodAll enc Tryz.prog W 0 (fun _ => true) true Tryz.f3.params.toList args.toList ds p := hA0
 have hS := hA
 rw [Tryz.params3] at hA hval
 obtain ⟨v0, v1, d0, d1, p0, p1, rfl, rfl, rfl, h0, h1⟩ := trodAll_two hA
 obtain ⟨rfl, rfl⟩ := trodVars_none hV
 obtain ⟨l, hl⟩ := open_i64sArg (hval 0 22 v0 rfl rfl) h0
 obtain ⟨gx, sa, gy, sb, ll, mm, rfl, l1, l2⟩ := open_fracArg (hval 1 27 v1 rfl rfl) h1
 obtain ⟨o, hf, ho⟩ := raw_fbV (gx := gx) (gy := gy) l1 l2
 obtain ⟨_, _, rfl⟩ := l1.shape
 obtain ⟨_, _, rfl⟩ := l2.shape
 clear hA0 hval0
 refine (means_walk W hl hf ho).mono fun e W' ⟨he, hb⟩ => ?_
 subst he
 exact ⟨_, rfl, post_below (pv := []) hW' (fun _ _ _ => (trodAll_cons_mk (shut_bool Tryz.underlying4 _) trodAll_mk0)) (fun sp hs => trodAll_stays kids sfull hb (by decide) hS (fun p hp => hs p (List.mem_append_left _ hp))) (fun _ _ => rfl) rfl
  hb (ok_one (by kernel_rfl) rfl (okWide_bool_mk Tryz.underlying4 _))⟩
theorem over : Rows.robustMeansRow.holds Tryz.pinned (OpenSpec.ofChange Rows.robustMeansSpec) :=
 OpenClaim.holds_of_wide 3 Tryz.f3 rfl rfl rfl rfl rfl rfl rfl ⟨rfl, rfl, rfl, rfl, rfl⟩ rfl rfl rfl rfl rfl (by kernel_rfl) Tryz.func3 (by kernel_rfl)
  (of_decide_eq_true (by kernel_rfl)) (by unfold Func.isWrapper; first | (rw [if_pos (by decide +kernel)]; kernel_rfl) | (rw [if_neg (by decide +kernel)]; exact ⟨rfl, rfl⟩))
  (fun os started H enc _ => lifted os started H enc)
theorem proved : Rows.RobustMeansSaid :=
 over
end robustMeans
theorem robustMeans_holds : Rows.RobustMeansSaid := robustMeans.proved
#print axioms robustMeans_holds
end Go.Proofs.YtmpambmpknaldaaGreat
