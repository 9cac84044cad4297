/- MatchSearches: for any lists of points, number of points and rule the law returns true: Search returns what the reference returns and leaves the lists as they are. Conditions: none. -/
import Derived.Test.YtffmbepfbienaaaGreatRows
import Derived.Test.YtffmbepfbienaaaGreatSSeh
set_option linter.unusedVariables false
set_option linter.unusedSimpArgs false
open Go.Value renaming slice->Ex
namespace Go.Proofs.YtffmbepfbienaaaGreat
open Go.ChangeShapes Go.WideShapes Go.ChangeAt Go.RowKit Go.Joins
namespace cU
theorem own:ownKnob Tryz.prog.godebug=none:=by kernel_rfl
set_option maxRecDepth 100000 in
theorem H4 (os:Os) (I:os.Started) (H:Type) (enc:TypeId×Value->H) :
  ReturnsInHanded {} Tryz.checked os 7 .any (Rows.matchSearchesSpec.pre6 enc Tryz.prog Tryz.f7 Rows.matchSearchesRow.domain false) (Rows.matchSearchesSpec.post enc Tryz.prog Tryz.f7 false true false false):=by
 refine returnsInHanded_of_change (C:=Tryz.checked) own I D6 Tryz.func7
  (ChangeSpec.witness6 (enc:=enc) (C:=Tryz.checked) false ⟨#[],#[Ex none 0 0,Ex none 0 0,.int .i64 0,.agg #[.bool false,Ex none 0 0,.bool false,Ex none 0 0,.int .i64 0,.int .i64 0,.bool false,Ex none 0 0,.bool false,Ex none 0 0,.bool false,Ex none 0 0,.bool false,Ex none 0 0]],[]⟩ 8 D6 D6 D6 D6) ?_
 intro W N args ds gs T J hW Z _;have E:∀ (j:Nat) t v,Tryz.f7.params[j]? = some t->args[j]? = some v->Value.okWide Tryz.prog W .any N t v:=J;have X:=hW;obtain⟨p,q,M,hV,rfl,ah,a9⟩:=hW;have Y:DataW.TrodAll enc Tryz.prog W 0 (fun _=>true) true Tryz.f7.params.toList args.toList ds p:=M;have hS:=Y;rw[Tryz.params7]at Y E;obtain⟨v0,v1,v2,v3,d0,d1,d2,d3,p0,p1,p2,p3,rfl,rfl,rfl,h0,h1,h2,h3⟩:=Xb Y;obtain⟨rfl,rfl⟩:=trodVars_none hV;obtain⟨l,hl⟩:=Jy (E 0 55 v0 rfl rfl) h0;obtain⟨m,hm⟩:=Jy (E 1 55 v1 rfl rfl) h1;obtain⟨n,rfl,rfl,rfl,wn⟩:=open_int Tryz.underlying3 (E 2 3 v2 rfl rfl) h2;obtain⟨ua1,ua2,ua3,ua4,ua5,ua6,ua7,ua8,ub1,ub2,ub3,ub4,ub5,ub6,ub7,ub8,uc1,uc2,uc3,uc4,uc5,uc6,uc7,uc8,R,A,O,rfl,b0,b1,b2,fw⟩:=Qj (E 3 45 v3 rfl rfl) h3;clear M J;refine(Xc n W b0 b1 b2 fw hl hm).mono fun e W' ⟨he,hb⟩=> ?_;subst he
 exact⟨_,rfl,Ko (pv:= []) X (fun _ _ _=>(trodAll_cons_mk (shut_bool Tryz.underlying4 _) trodAll_mk0)) (fun sp hs=>vj C5 Cl hb D7 hS (fun p hp=>hs p (List.mem_append_left _ hp))) (fun _ _=>rfl) rfl
  hb (ok_one D6 rfl (okWide_bool_mk Tryz.underlying4 _))⟩
theorem Qo:Rows.matchSearchesRow.holds Tryz.pinned (OpenSpec.ofChange Rows.matchSearchesSpec):=
 OpenClaim.holds_of_wide 7 Tryz.f7 rfl rfl rfl rfl rfl rfl rfl ⟨rfl,rfl,rfl,rfl,rfl⟩ rfl rfl rfl rfl rfl D6 Tryz.func7 D6
  (of_decide_eq_true D6) (by unfold Func.isWrapper; first | (rw[E8 (by decide +kernel)]; kernel_rfl) | (rw[E9 (by decide +kernel)]; exact⟨rfl,rfl⟩))
  (fun os E H enc _=>H4 os E H enc)
theorem proved:Rows.MatchSearchesSaid:=
 Qo
end cU
theorem matchSearches_holds:Rows.MatchSearchesSaid:=cU.proved
#print axioms matchSearches_holds
end Go.Proofs.YtffmbepfbienaaaGreat
