/- MatchPairs: for any similarity, lists of points, radius, rule, partners and number of points the law returns true: Check, Pairs and Odds return what the reference returns. Conditions: none. -/
import Derived.Test.YtffmbepfbienaaaGreatRows
import Derived.Test.YtffmbepfbienaaaGreatDGluM
import Derived.Test.YtffmbepfbienaaaGreatDGluP
import Derived.Test.YtffmbepfbienaaaGreatDOj
set_option linter.unusedVariables false
set_option linter.unusedSimpArgs false
namespace Go.Proofs.YtffmbepfbienaaaGreat
open Go.ChangeShapes Go.WideShapes Go.ChangeAt Go.RowKit Go.Joins
namespace matchPairs
theorem own : ownKnob Tryz.prog.godebug = none := by kernel_rfl
set_option maxRecDepth 100000 in
theorem lifted (os : Os) (started : os.Started) (H : Type) (enc : TypeId × Value → H) :
  ReturnsInHanded {} Tryz.checked os 5 .any (Rows.matchPairsSpec.pre6 enc Tryz.prog Tryz.f5 Rows.matchPairsRow.domain false) (Rows.matchPairsSpec.post enc Tryz.prog Tryz.f5 false true false false) := by
 refine returnsInHanded_of_change (C := Tryz.checked) own started (by kernel_rfl) Tryz.func5
  (ChangeSpec.witness6 (enc := enc) (C := Tryz.checked) false ⟨#[], #[.agg #[.bool false, .slice none 0 0, .bool false, .slice none 0 0, .bool false, .slice none 0 0, .bool false, .slice none 0 0, .bool false, .slice none 0 0, .bool false, .slice none 0 0, .bool false, .slice none 0 0, .bool false, .slice none 0 0], .slice none 0 0, .slice none 0 0, .int .i64 0, .agg #[.bool false, .slice none 0 0, .bool false, .slice none 0 0, .int .i64 0, .int .i64 0, .bool false, .slice none 0 0, .bool false, .slice none 0 0, .bool false, .slice none 0 0, .bool false, .slice none 0 0], .slice none 0 0, .int .i64 0], []⟩ 8 (by kernel_rfl) (by kernel_rfl) (by kernel_rfl) (by kernel_rfl)) ?_
 intro W base args ds gs before hval0 hW hcnd _
 have hval : ∀ (j : Nat) t v, Tryz.f5.params[j]? = some t → args[j]? = some v → Value.okWide Tryz.prog W .any base t v := hval0
 have hW' := hW
 obtain ⟨p, q, hA0, hV, rfl, hfz, hnd⟩ := hW
 have hA : DataW.TrodAll enc Tryz.prog W 0 (fun _ => true) true Tryz.f5.params.toList args.toList ds p := hA0
 have hS := hA
 rw [Tryz.params5] at hA hval
 obtain ⟨v0, v1, v2, v3, v4, v5, v6, d0, d1, d2, d3, d4, d5, d6, p0, p1, p2, p3, p4, p5, p6, rfl, rfl, rfl, h0, h1, h2, h3, h4, h5, h6⟩ := trodAll_seven_ hA
 obtain ⟨rfl, rfl⟩ := trodVars_none hV
 obtain ⟨ka1, ka2, ka3, ka4, ka5, ka6, ka7, ka8, kb1, kb2, kb3, kb4, kb5, kb6, kb7, kb8, kc1, kc2, kc3, kc4, kc5, kc6, kc7, kc8, kd1, kd2, kd3, kd4, kd5, kd6, kd7, kd8, O, rfl, b0, b1, b2, b3, fw⟩ := open_simArg (hval 0 30 v0 rfl rfl) h0
 obtain ⟨l, hl⟩ := open_pts (hval 1 55 v1 rfl rfl) h1
 obtain ⟨m, hm⟩ := open_pts (hval 2 55 v2 rfl rfl) h2
 obtain ⟨r, rfl, rfl, rfl, wr⟩ := open_int Tryz.underlying2 (hval 3 2 v3 rfl rfl) h3
 obtain ⟨ua1, ua2, ua3, ua4, ua5, ua6, ua7, ua8, ub1, ub2, ub3, ub4, ub5, ub6, ub7, ub8, uc1, uc2, uc3, uc4, uc5, uc6, uc7, uc8, R, A, OU, rfl, c0, c1, c2, fu⟩ := open_ruleArg (hval 4 45 v4 rfl rfl) h4
 obtain ⟨q, hq⟩ := open_intsArg (hval 5 46 v5 rfl rfl) h5
 obtain ⟨n, rfl, rfl, rfl, wn⟩ := open_int Tryz.underlying3 (hval 6 3 v6 rfl rfl) h6
 clear hA0 hval0
 refine (pairs_walk r n W b0 b1 b2 b3 fw hl hm c0 c1 c2 fu hq).mono fun e W' ⟨he, hb⟩ => ?_
 subst he
 exact ⟨_, rfl, post_below (pv := []) hW' (fun _ _ _ => (trodAll_cons_mk (shut_bool Tryz.underlying4 _) trodAll_mk0)) (fun sp hs => trodAll_stays kids sfull hb (by decide) hS (fun p hp => hs p (List.mem_append_left _ hp))) (fun _ _ => rfl) rfl
  hb (ok_one (by kernel_rfl) rfl (okWide_bool_mk Tryz.underlying4 _))⟩
theorem over : Rows.matchPairsRow.holds Tryz.pinned (OpenSpec.ofChange Rows.matchPairsSpec) :=
 OpenClaim.holds_of_wide 5 Tryz.f5 rfl rfl rfl rfl rfl rfl rfl ⟨rfl, rfl, rfl, rfl, rfl⟩ rfl rfl rfl rfl rfl (by kernel_rfl) Tryz.func5 (by kernel_rfl)
  (of_decide_eq_true (by kernel_rfl)) (by unfold Func.isWrapper; first | (rw [if_pos (by decide +kernel)]; kernel_rfl) | (rw [if_neg (by decide +kernel)]; exact ⟨rfl, rfl⟩))
  (fun os started H enc _ => lifted os started H enc)
theorem proved : Rows.MatchPairsSaid :=
 over
end matchPairs
theorem matchPairs_holds : Rows.MatchPairsSaid := matchPairs.proved
#print axioms matchPairs_holds
end Go.Proofs.YtffmbepfbienaaaGreat
