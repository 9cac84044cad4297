/- MatchSound: for any lists of points, number of points and rule the law returns true: a match that Search accepts has at least the odds of the rule, its yy are those of its similarity, and its odds are those of all yy except those of one of the quads. Conditions: none. -/
import Derived.Test.YtffmbepfbienaaaGreatRows
import Derived.Test.YtffmbepfbienaaaGreatOSef
set_option linter.unusedVariables false
set_option linter.unusedSimpArgs false
open Go.Value renaming slice->Ex
namespace Go.Proofs.YtffmbepfbienaaaGreat
open Go.ChangeShapes Go.WideShapes Go.ChangeAt Go.RowKit Go.Joins
namespace dt
theorem own:ownKnob Tryz.prog.godebug=none:=by kernel_rfl
set_option maxRecDepth 100000 in
theorem Bu (os:Os) (I:os.Started) (H:Type) (enc:TypeId×Value->H) :
  ReturnsInHanded {} Tryz.checked os 8 .any (Rows.matchSoundSpec.pre6 enc Tryz.prog Tryz.f8 Rows.matchSoundRow.domain false) (Rows.matchSoundSpec.post enc Tryz.prog Tryz.f8 false true false false):=by
 refine returnsInHanded_of_change (C:=Tryz.checked) own I D7 Tryz.func8
  (ChangeSpec.witness6 (enc:=enc) (C:=Tryz.checked) false ⟨#[],#[Ex none 0 0,Ex none 0 0,.int .i64 0,.agg #[.bool false,Ex none 0 0,.bool false,Ex none 0 0,.int .i64 0,.int .i64 0,.bool false,Ex none 0 0,.bool false,Ex none 0 0,.bool false,Ex none 0 0,.bool false,Ex none 0 0]],[]⟩ 8 D7 D7 D7 D7) ?_
 intro W M args ds gs T J hW Z _;have E:∀ (j:Nat) t v,Tryz.f8.params[j]? = some t->args[j]? = some v->Value.okWide Tryz.prog W .any M t v:=J;have X:=hW;obtain⟨p,q,N,hV,rfl,a9,ah⟩:=hW;have Y:DataW.TrodAll enc Tryz.prog W 0 (fun _=>true) true Tryz.f8.params.toList args.toList ds p:=N;have hS:=Y;rw[Tryz.params8]at Y E;obtain⟨v0,v1,v2,v3,d0,d1,d2,d3,p0,p1,p2,p3,rfl,rfl,rfl,h0,h1,h2,h3⟩:=Y3 Y;obtain⟨rfl,rfl⟩:=trodVars_none hV;obtain⟨l,hl⟩:=Jk (E 0 55 v0 rfl rfl) h0;obtain⟨m,hm⟩:=Jk (E 1 55 v1 rfl rfl) h1;obtain⟨n,rfl,rfl,rfl,wn⟩:=open_int Tryz.underlying3 (E 2 3 v2 rfl rfl) h2;obtain⟨ua1,ua2,ua3,ua4,ua5,ua6,ua7,ua8,ub1,ub2,ub3,ub4,ub5,ub6,ub7,ub8,uc1,uc2,uc3,uc4,uc5,uc6,uc7,uc8,R,A,O,rfl,b0,b1,b2,fw⟩:=X3 (E 3 45 v3 rfl rfl) h3;clear N J;refine(Kv n W b0 b1 b2 fw hl hm).mono fun e W' ⟨he,hb⟩=> ?_;subst he
 exact⟨_,rfl,Kh (pv:= []) X (fun _ _ _=>(trodAll_cons_mk (shut_bool Tryz.underlying4 _) trodAll_mk0)) (fun sp hs=>kQ Dj CJ hb D8 hS (fun p hp=>hs p (List.mem_append_left _ hp))) (fun _ _=>rfl) rfl
  hb (ok_one D7 rfl (okWide_bool_mk Tryz.underlying4 _))⟩
theorem X7:Rows.matchSoundRow.holds Tryz.pinned (OpenSpec.ofChange Rows.matchSoundSpec):=
 OpenClaim.holds_of_wide 8 Tryz.f8 rfl rfl rfl rfl rfl rfl rfl ⟨rfl,rfl,rfl,rfl,rfl⟩ rfl rfl rfl rfl rfl D7 Tryz.func8 D7
  (of_decide_eq_true D7) (by unfold Func.isWrapper; first | (rw[E9 (by decide +kernel)]; kernel_rfl) | (rw[E_ (by decide +kernel)]; exact⟨rfl,rfl⟩))
  (fun os E H enc _=>Bu os E H enc)
theorem proved:Rows.MatchSoundSaid:=
 X7
end dt
theorem matchSound_holds:Rows.MatchSoundSaid:=dt.proved
#print axioms matchSound_holds
end Go.Proofs.YtffmbepfbienaaaGreat
