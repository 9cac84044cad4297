/- QuadNear: for any points and limits the law returns true: a quad is near to itself with off 0, being near is symmetric, and with a greater off no quad is lost. Conditions: none. -/
import Derived.Test.YtibdehlmflaodaaGreatRows
import Derived.Test.YtibdehlmflaodaaGreatEGluF
import Derived.Test.YtibdehlmflaodaaGreatEDa
set_option linter.unusedVariables false
set_option linter.unusedSimpArgs false
namespace Go.Proofs.YtibdehlmflaodaaGreat
open Go.ChangeShapes Go.WideShapes Go.ChangeAt Go.RowKit Go.Joins
namespace quadNear
theorem own : ownKnob Tryz.prog.godebug = none := by kernel_rfl
set_option maxRecDepth 100000 in
theorem lifted (os : Os) (started : os.Started) (H : Type) (enc : TypeId × Value → H) :
  ReturnsInHanded {} Tryz.checked os 4 .any (Rows.quadNearSpec.pre6 enc Tryz.prog Tryz.f4 Rows.quadNearRow.domain false) (Rows.quadNearSpec.post enc Tryz.prog Tryz.f4 false true false false) := by
 refine returnsInHanded_of_change (C := Tryz.checked) own started (by kernel_rfl) Tryz.func4
  (ChangeSpec.witness6 (enc := enc) (C := Tryz.checked) false ⟨#[], #[.slice none 0 0, .slice none 0 0, .agg #[.bool false, .slice none 0 0, .bool false, .slice none 0 0], .agg #[.bool false, .slice none 0 0, .bool false, .slice none 0 0]], []⟩ 8 (by kernel_rfl) (by kernel_rfl) (by kernel_rfl) (by kernel_rfl)) ?_
 intro W base args ds gs before hval0 hW hcnd _
 have hval : ∀ (j : Nat) t v, Tryz.f4.params[j]? = some t → args[j]? = some v → Value.okWide Tryz.prog W .any base t v := hval0
 have hW' := hW
 obtain ⟨p, q, hA0, hV, rfl, hfz, hnd⟩ := hW
 have hA : DataW.TrodAll enc Tryz.prog W 0 (fun _ => true) true Tryz.f4.params.toList args.toList ds p := hA0
 have hS := hA
 rw [Tryz.params4] at hA hval
 obtain ⟨v0, v1, v2, v3, d0, d1, d2, d3, p0, p1, p2, p3, rfl, rfl, rfl, h0, h1, h2, h3⟩ := trodAll_four_ hA
 obtain ⟨rfl, rfl⟩ := trodVars_none hV
 obtain ⟨l, hl⟩ := open_pts (hval 0 24 v0 rfl rfl) h0
 obtain ⟨m, hm⟩ := open_pts (hval 1 24 v1 rfl rfl) h1
 obtain ⟨gxa, saa, gya, sba, lla, mma, rfl, l1a, l2a⟩ := open_fracArg (hval 2 30 v2 rfl rfl) h2
 obtain ⟨oa, hfa, hoa⟩ := raw_fb (gx := gxa) (gy := gya) l1a l2a
 obtain ⟨_, _, rfl⟩ := l1a.shape
 obtain ⟨_, _, rfl⟩ := l2a.shape
 obtain ⟨gxb, sab, gyb, sbb, llb, mmb, rfl, l1b, l2b⟩ := open_fracArg (hval 3 30 v3 rfl rfl) h3
 obtain ⟨ob, hfb, hob⟩ := raw_fb (gx := gxb) (gy := gyb) l1b l2b
 obtain ⟨_, _, rfl⟩ := l1b.shape
 obtain ⟨_, _, rfl⟩ := l2b.shape
 clear hA0 hval0
 refine (near_law W hl hm hfa hoa hfb hob).mono fun e W' ⟨he, hb⟩ => ?_
 subst he
 exact ⟨_, rfl, post_below (pv := []) hW' (fun _ _ _ => (trodAll_cons_mk (shut_bool Tryz.underlying4 _) trodAll_mk0)) (fun sp hs => trodAll_stays kids sfull hb (by decide) hS (fun p hp => hs p (List.mem_append_left _ hp))) (fun _ _ => rfl) rfl
  hb (ok_one (by kernel_rfl) rfl (okWide_bool_mk Tryz.underlying4 _))⟩
theorem over : Rows.quadNearRow.holds Tryz.pinned (OpenSpec.ofChange Rows.quadNearSpec) :=
 OpenClaim.holds_of_wide 4 Tryz.f4 rfl rfl rfl rfl rfl rfl rfl ⟨rfl, rfl, rfl, rfl, rfl⟩ rfl rfl rfl rfl rfl (by kernel_rfl) Tryz.func4 (by kernel_rfl)
  (of_decide_eq_true (by kernel_rfl)) (by unfold Func.isWrapper; first | (rw [if_pos (by decide +kernel)]; kernel_rfl) | (rw [if_neg (by decide +kernel)]; exact ⟨rfl, rfl⟩))
  (fun os started H enc _ => lifted os started H enc)
theorem proved : Rows.QuadNearSaid :=
 over
end quadNear
theorem quadNear_holds : Rows.QuadNearSaid := quadNear.proved
#print axioms quadNear_holds
end Go.Proofs.YtibdehlmflaodaaGreat
