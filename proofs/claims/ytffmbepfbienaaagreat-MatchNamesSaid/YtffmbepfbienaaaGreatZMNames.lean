/- MatchNames: the law returns true. Conditions: none. -/
import Derived.Test.YtffmbepfbienaaaGreatRows
import Derived.Test.YtffmbepfbienaaaGreatZSp
set_option linter.unusedVariables false
set_option linter.unusedSimpArgs false
namespace Go.Proofs.YtffmbepfbienaaaGreat
open Go.ChangeShapes Go.WideShapes Go.ChangeAt Go.RowKit Go.Joins
namespace cY
theorem own:ownKnob Tryz.prog.godebug=none:=by kernel_rfl
set_option maxRecDepth 100000 in
theorem Ga (os:Os) (E:os.Started) (H:Type) (enc:TypeId×Value->H) :
  ReturnsInHanded {} Tryz.checked os 9 .any (Rows.matchNamesSpec.pre6 enc Tryz.prog Tryz.f9 Rows.matchNamesRow.domain false) (Rows.matchNamesSpec.post enc Tryz.prog Tryz.f9 false true false false):=by
 refine returnsInHanded_of_change (C:=Tryz.checked) own E B' Tryz.func9
  (ChangeSpec.witness6 (enc:=enc) (C:=Tryz.checked) false ⟨#[],#[],[]⟩ 8 B' B' B' B') ?_
 intro W T args ds gs M I Z Y _;have N:=Z;obtain⟨p,q,J,hV,rfl,a9,ah⟩:=Z;have X:DataW.TrodAll enc Tryz.prog W 0 (fun _=>true) true Tryz.f9.params.toList args.toList ds p:=J;rw[Tryz.params9]at X;obtain⟨rfl,rfl,rfl⟩:=trodAll_none X;obtain⟨rfl,rfl⟩:=trodVars_none hV;clear J I;refine(Je W).mono fun e W' ⟨he,hb⟩=> ?_;subst he
 exact⟨_,rfl,Qb (pa:= []) (pv:= []) N (fun _ _ _=>(trodAll_cons_mk (shut_bool Tryz.underlying4 _) trodAll_mk0)) (fun sp hs=>rfl) (fun _ _=>rfl) rfl
  hb (ok_one B' rfl (okWide_bool_mk Tryz.underlying4 _))⟩
theorem Xb:Rows.matchNamesRow.holds Tryz.pinned (OpenSpec.ofChange Rows.matchNamesSpec):=
 OpenClaim.holds_of_wide 9 Tryz.f9 rfl rfl rfl rfl rfl rfl rfl ⟨rfl,rfl,rfl,rfl,rfl⟩ rfl rfl rfl rfl rfl B' Tryz.func9 B'
  (of_decide_eq_true B') (by unfold Func.isWrapper; first | (rw[C7 (by decide +kernel)]; kernel_rfl) | (rw[C8 (by decide +kernel)]; exact⟨rfl,rfl⟩))
  (fun os E H enc _=>Ga os E H enc)
theorem proved:Rows.MatchNamesSaid:=
 Xb
end cY
theorem matchNames_holds:Rows.MatchNamesSaid:=cY.proved
#print axioms matchNames_holds
end Go.Proofs.YtffmbepfbienaaaGreat
