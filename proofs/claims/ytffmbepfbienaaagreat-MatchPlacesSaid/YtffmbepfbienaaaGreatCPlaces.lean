/- MatchPlaces: for any points and similarity the law returns true: Of and Apply return what the reference returns. Conditions: none. -/
import Derived.Test.YtffmbepfbienaaaGreatRows
import Derived.Test.YtffmbepfbienaaaGreatCGluM
namespace Go.Proofs.YtffmbepfbienaaaGreat
open Go.ChangeShapes Go.WideShapes Go.ChangeAt Go.RowKit Go.Joins
namespace matchPlaces
theorem own : ownKnob Tryz.prog.godebug = none := by kernel_rfl
set_option maxRecDepth 100000 in
theorem lifted (os : Os) (started : os.Started) (H : Type) (enc : TypeId × Value → H) :
    ReturnsInHanded {} Tryz.checked os 3 .any (Rows.matchPlacesSpec.pre6 enc Tryz.prog Tryz.f3 Rows.matchPlacesRow.domain false) (Rows.matchPlacesSpec.post enc Tryz.prog Tryz.f3 false true false false) := by
  refine returnsInHanded_of_change (C := Tryz.checked) own started (by kernel_rfl) Tryz.func3
    (ChangeSpec.witness6 (enc := enc) (C := Tryz.checked) false ⟨#[], #[.agg #[.int .i64 0, .int .i64 0], .agg #[.int .i64 0, .int .i64 0], .agg #[.int .i64 0, .int .i64 0], .agg #[.int .i64 0, .int .i64 0], .agg #[.bool false, .slice none 0 0, .bool false, .slice none 0 0, .bool false, .slice none 0 0, .bool false, .slice none 0 0, .bool false, .slice none 0 0, .bool false, .slice none 0 0, .bool false, .slice none 0 0, .bool false, .slice none 0 0]], []⟩ 8 (by kernel_rfl) (by kernel_rfl) (by kernel_rfl) (by kernel_rfl)) ?_
  intro W base args ds gs before hval0 hW hcnd _
  have hval : ∀ (j : Nat) t v, Tryz.f3.params[j]? = some t → args[j]? = some v → Value.okWide Tryz.prog W .any base t v := hval0
  have hW' := hW
  obtain ⟨p, q, hA0, hV, rfl, hfz, hnd⟩ := hW
  have hA : DataW.TrodAll enc Tryz.prog W 0 (fun _ => true) true Tryz.f3.params.toList args.toList ds p := hA0
  have hS := hA
  rw [Tryz.params3] at hA hval
  obtain ⟨v0, v1, v2, v3, v4, d0, d1, d2, d3, d4, p0, p1, p2, p3, p4, rfl, rfl, rfl, h0, h1, h2, h3, h4⟩ := trodAll_five_ hA
  obtain ⟨rfl, rfl⟩ := trodVars_none hV
  obtain ⟨ax, ay, rfl, ra⟩ := open_pointArg (hval 0 23 v0 rfl rfl) h0
  obtain ⟨bx, b_y, rfl, rb⟩ := open_pointArg (hval 1 23 v1 rfl rfl) h1
  obtain ⟨px, py, rfl, ri⟩ := open_pointArg (hval 2 23 v2 rfl rfl) h2
  obtain ⟨qx, qy, rfl, rj⟩ := open_pointArg (hval 3 23 v3 rfl rfl) h3
  obtain ⟨ka1, ka2, ka3, ka4, ka5, ka6, ka7, ka8, kb1, kb2, kb3, kb4, kb5, kb6, kb7, kb8, kc1, kc2, kc3, kc4, kc5, kc6, kc7, kc8, kd1, kd2, kd3, kd4, kd5, kd6, kd7, kd8, O, rfl, b0, b1, b2, b3, fw⟩ := open_simArg (hval 4 30 v4 rfl rfl) h4
  clear hA0 hval0
  refine (places_walk ax ay bx b_y px py qx qy W ra rb ri rj b0 b1 b2 b3 fw).mono fun e W' ⟨he, hb⟩ => ?_
  subst he
  exact ⟨_, rfl, post_below (pv := []) hW' (fun _ _ _ => (trodAll_cons_mk (shut_bool Tryz.underlying4 _) trodAll_mk0)) (fun sp hs => trodAll_stays kids sfull hb (by decide) hS (fun p hp => hs p (List.mem_append_left _ hp))) (fun _ _ => rfl) rfl
    hb (ok_one (by kernel_rfl) rfl (okWide_bool_mk Tryz.underlying4 _))⟩
theorem over : Rows.matchPlacesRow.holds Tryz.pinned (OpenSpec.ofChange Rows.matchPlacesSpec) :=
  OpenClaim.holds_of_wide 3 Tryz.f3 rfl rfl rfl rfl rfl rfl rfl ⟨rfl, rfl, rfl, rfl, rfl⟩ rfl rfl rfl rfl rfl (by kernel_rfl) Tryz.func3 (by kernel_rfl)
    (of_decide_eq_true (by kernel_rfl)) (by unfold Func.isWrapper; first | (rw [if_pos (by decide +kernel)]; kernel_rfl) | (rw [if_neg (by decide +kernel)]; exact ⟨rfl, rfl⟩))
    (fun os started H enc _ => lifted os started H enc)
theorem proved : Rows.MatchPlacesSaid :=
  over
end matchPlaces
theorem matchPlaces_holds : Rows.MatchPlacesSaid := matchPlaces.proved
#print axioms matchPlaces_holds
end Go.Proofs.YtffmbepfbienaaaGreat
