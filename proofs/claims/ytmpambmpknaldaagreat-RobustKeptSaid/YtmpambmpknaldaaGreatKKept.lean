/- RobustKept: for any list and factor the law returns true: clipping leaves an element, clipping what is left leaves all of it, with the trimmed mean as its mean, and a factor greater than the root of the number of elements leaves everything. Conditions: none. -/
import Derived.Test.YtmpambmpknaldaaGreatRows
import Derived.Test.YtmpambmpknaldaaGreatKGluV
import Derived.Test.YtmpambmpknaldaaGreatKCl
set_option linter.unusedVariables false
set_option linter.unusedSimpArgs false
namespace Go.Proofs.YtmpambmpknaldaaGreat
open Go.ChangeShapes Go.WideShapes Go.ChangeAt Go.RowKit Go.Joins
namespace robustKept
theorem own : ownKnob Tryz.prog.godebug = none := by kernel_rfl
set_option maxRecDepth 100000 in
theorem lifted (os : Os) (started : os.Started) (H : Type) (enc : TypeId × Value → H) :
  ReturnsInHanded {} Tryz.checked os 4 .any (Rows.robustKeptSpec.pre6 enc Tryz.prog Tryz.f4 Rows.robustKeptRow.domain false) (Rows.robustKeptSpec.post enc Tryz.prog Tryz.f4 false true false false) := by
 refine returnsInHanded_of_change (C := Tryz.checked) own started (by kernel_rfl) Tryz.func4
  (ChangeSpec.witness6 (enc := enc) (C := Tryz.checked) false ⟨#[], #[.slice none 0 0, .agg #[.bool false, .slice none 0 0, .bool false, .slice none 0 0]], []⟩ 8 (by kernel_rfl) (by kernel_rfl) (by kernel_rfl) (by kernel_rfl)) ?_
 intro W base args ds gs before hval0 hW hcnd _
 have hval : ∀ (j : Nat) t v, Tryz.f4.params[j]? = some t → args[j]? = some v → Value.okWide Tryz.prog W .any base t v := hval0
 have hW' := hW
 obtain ⟨p, q, hA0, hV, rfl, hfz, hnd⟩ := hW
 have hA : DataW.TrodAll enc Tryz.prog W 0 (fun _ => true) true Tryz.f4.params.toList args.toList ds p := hA0
 have hS := hA
 rw [Tryz.params4] at hA hval
 obtain ⟨v0, v1, d0, d1, p0, p1, rfl, rfl, rfl, h0, h1⟩ := trodAll_two hA
 obtain ⟨rfl, rfl⟩ := trodVars_none hV
 obtain ⟨l, hl⟩ := open_i64sArg (hval 0 22 v0 rfl rfl) h0
 obtain ⟨gx, sa, gy, sb, ll, mm, rfl, l1, l2⟩ := open_fracArg (hval 1 27 v1 rfl rfl) h1
 obtain ⟨o, hf, ho⟩ := raw_fbV (gx := gx) (gy := gy) l1 l2
 obtain ⟨_, _, rfl⟩ := l1.shape
 obtain ⟨_, _, rfl⟩ := l2.shape
 clear hA0 hval0
 refine (kept_law W hl hf ho).mono fun e W' ⟨he, hb⟩ => ?_
 subst he
 exact ⟨_, rfl, post_below (pv := []) hW' (fun _ _ _ => (trodAll_cons_mk (shut_bool Tryz.underlying4 _) trodAll_mk0)) (fun sp hs => trodAll_stays kids sfull hb (by decide) hS (fun p hp => hs p (List.mem_append_left _ hp))) (fun _ _ => rfl) rfl
  hb (ok_one (by kernel_rfl) rfl (okWide_bool_mk Tryz.underlying4 _))⟩
theorem over : Rows.robustKeptRow.holds Tryz.pinned (OpenSpec.ofChange Rows.robustKeptSpec) :=
 OpenClaim.holds_of_wide 4 Tryz.f4 rfl rfl rfl rfl rfl rfl rfl ⟨rfl, rfl, rfl, rfl, rfl⟩ rfl rfl rfl rfl rfl (by kernel_rfl) Tryz.func4 (by kernel_rfl)
  (of_decide_eq_true (by kernel_rfl)) (by unfold Func.isWrapper; first | (rw [if_pos (by decide +kernel)]; kernel_rfl) | (rw [if_neg (by decide +kernel)]; exact ⟨rfl, rfl⟩))
  (fun os started H enc _ => lifted os started H enc)
theorem proved : Rows.RobustKeptSaid :=
 over
end robustKept
theorem robustKept_holds : Rows.RobustKeptSaid := robustKept.proved
#print axioms robustKept_holds
end Go.Proofs.YtmpambmpknaldaaGreat
