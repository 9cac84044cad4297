/- QuadFinds: for any list of quads, any quad and any fraction the law returns true: Find and Near return what the reference returns. Conditions: none. -/
import Derived.Test.YtibdehlmflaodaaRows
import Derived.Test.YtibdehlmflaodaaCVg
import Derived.Test.YtibdehlmflaodaaCGluP
namespace Go.Proofs.Ytibdehlmflaodaa
open Go.ChangeShapes Go.WideShapes Go.ChangeAt Go.RowKit Go.Joins
namespace quadFinds
theorem own : ownKnob Try.prog.godebug = none := by kernel_rfl
set_option maxRecDepth 100000 in
theorem lifted (os : Os) (started : os.Started) (H : Type) (enc : TypeId × Value → H) :
    ReturnsInHanded {} Try.checked os 5 .any (Rows.quadFindsSpec.pre6 enc Try.prog Try.f5 Rows.quadFindsRow.domain false) (Rows.quadFindsSpec.post enc Try.prog Try.f5 false true false false) := by
  refine returnsInHanded_of_change (C := Try.checked) own started (by kernel_rfl) Try.func5
    (ChangeSpec.witness6 (enc := enc) (C := Try.checked) false ⟨#[], #[.slice none 0 0, .agg #[.int .i64 0, .int .i64 0, .int .i64 0, .int .i64 0, .bool false, .slice none 0 0, .bool false, .slice none 0 0, .bool false, .slice none 0 0, .bool false, .slice none 0 0, .bool false, .slice none 0 0, .bool false, .slice none 0 0, .bool false, .slice none 0 0, .bool false, .slice none 0 0], .agg #[.bool false, .slice none 0 0, .bool false, .slice none 0 0]], []⟩ 8 (by kernel_rfl) (by kernel_rfl) (by kernel_rfl) (by kernel_rfl)) ?_
  intro W base args ds gs before hval0 hW hcnd _
  have hval : ∀ (j : Nat) t v, Try.f5.params[j]? = some t → args[j]? = some v → Value.okWide Try.prog W .any base t v := hval0
  have hW' := hW
  obtain ⟨p, q, hA0, hV, rfl, hfz, hnd⟩ := hW
  have hA : DataW.TrodAll enc Try.prog W 0 (fun _ => true) true Try.f5.params.toList args.toList ds p := hA0
  have hS := hA
  rw [Try.params5] at hA hval
  obtain ⟨v0, v1, v2, d0, d1, d2, p0, p1, p2, rfl, rfl, rfl, h0, h1, h2⟩ := trodAll_three hA
  obtain ⟨rfl, rfl⟩ := trodVars_none hV
  obtain ⟨n, CS, R, LA, LB, hl, hL⟩ := open_quads (hval 0 45 v0 rfl rfl) h0
  obtain ⟨CQ, qr, la, lb, rfl, hq, hql, hqf⟩ := open_quadArg (hval 1 31 v1 rfl rfl) h1
  obtain ⟨gx, sa, gy, sb, ll, mm, rfl, l1, l2⟩ := open_fracArg (hval 2 28 v2 rfl rfl) h2
  obtain ⟨o, hf, ho⟩ := raw_fb (gx := gx) (gy := gy) l1 l2
  obtain ⟨_, _, rfl⟩ := l1.shape
  obtain ⟨_, _, rfl⟩ := l2.shape
  clear hA0 hval0
  refine (finds_walk W hl hL hq hql hqf hf ho).mono fun e W' ⟨he, hb⟩ => ?_
  subst he
  exact ⟨_, rfl, post_below (pv := []) hW' (fun _ _ _ => (trodAll_cons_mk (shut_bool Try.underlying4 _) trodAll_mk0)) (fun sp hs => trodAll_stays kids sfull hb (by decide) hS (fun p hp => hs p (List.mem_append_left _ hp))) (fun _ _ => rfl) rfl
    hb (ok_one (by kernel_rfl) rfl (okWide_bool_mk Try.underlying4 _))⟩
theorem over : Rows.quadFindsRow.holds Try.pinned (OpenSpec.ofChange Rows.quadFindsSpec) :=
  OpenClaim.holds_of_wide 5 Try.f5 rfl rfl rfl rfl rfl rfl rfl ⟨rfl, rfl, rfl, rfl, rfl⟩ rfl rfl rfl rfl rfl (by kernel_rfl) Try.func5 (by kernel_rfl)
    (of_decide_eq_true (by kernel_rfl)) (by unfold Func.isWrapper; first | (rw [if_pos (by decide +kernel)]; kernel_rfl) | (rw [if_neg (by decide +kernel)]; exact ⟨rfl, rfl⟩))
    (fun os started H enc _ => lifted os started H enc)
theorem proved : Rows.QuadFindsSaid :=
  over
end quadFinds
theorem quadFinds_holds : Rows.QuadFindsSaid := quadFinds.proved
#print axioms quadFinds_holds
end Go.Proofs.Ytibdehlmflaodaa
