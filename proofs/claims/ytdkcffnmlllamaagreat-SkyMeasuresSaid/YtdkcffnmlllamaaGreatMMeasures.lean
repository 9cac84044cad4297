/- SkyMeasures: for any mesh, field, bad pixels, size and fraction the law returns true: Check and Measure return what the reference returns. Conditions: none. -/
import Derived.Conc.Holds
import Derived.Test.YtdkcffnmlllamaaGreatRows
import Derived.Test.YtdkcffnmlllamaaGreatMLeav
import Derived.Test.YtdkcffnmlllamaaGreatMGluS
import Derived.Test.YtdkcffnmlllamaaGreatMKh
set_option linter.unusedVariables false
set_option linter.unusedSimpArgs false
namespace Go.Proofs.YtdkcffnmlllamaaGreat
open Go.ChangeShapes Go.WideShapes Go.ChangeAt Go.RowKit Go.Joins
namespace skyMeasures
theorem own:ownKnob Tryz.prog.godebug=none:=by kernel_rfl
set_option maxRecDepth 100000 in
theorem lifted (os:Os) (started:os.Started) (H:Type) (enc:TypeId×Value→H) :
  ReturnsInLeavingWide {} Tryz.checked os 3 .any (Rows.skyMeasuresSpec.pre6 enc Tryz.prog Tryz.f3 Rows.skyMeasuresRow.domain false) (Rows.skyMeasuresSpec.post enc Tryz.prog Tryz.f3 false true false false):=by
 refine handed_leaving ?_
 refine returnsInHanded_of_change (C:=Tryz.checked) own started (by kernel_rfl) Tryz.func3
  (ChangeSpec.witness6 (enc:=enc) (C:=Tryz.checked) false ⟨#[],#[.agg #[.int .i64 0,.int .i64 0,.int .i64 0,.slice none 0 0],.agg #[.int .i64 0,.int .i64 0,.slice none 0 0],.slice none 0 0,.int .i64 0,.agg #[.bool false,.slice none 0 0,.bool false,.slice none 0 0]],[]⟩ 8 (by kernel_rfl) (by kernel_rfl) (by kernel_rfl) (by kernel_rfl)) ?_
 intro W base args ds gs before hval0 hW hcnd _
 have hval:∀ (j:Nat) t v,Tryz.f3.params[j]? = some t→args[j]? = some v→Value.okWide Tryz.prog W .any base t v:=hval0
 have hW':=hW
 obtain⟨p,q,hA0,hV,rfl,hfz,hnd⟩:=hW
 have hA:DataW.TrodAll enc Tryz.prog W 0 (fun _=>true) true Tryz.f3.params.toList args.toList ds p:=hA0
 have hS:=hA
 rw[Tryz.params3]at hA hval
 obtain⟨v0,v1,v2,v3,v4,d0,d1,d2,d3,d4,p0,p1,p2,p3,p4,rfl,rfl,rfl,h0,h1,h2,h3,h4⟩:=trodAll_fiveW hA
 obtain⟨rfl,rfl⟩:=trodVars_none hV
 obtain⟨x,y,z,um,lm,rfl,hm⟩:=open_meshArg (hval 0 24 v0 rfl rfl) h0
 obtain⟨X,Y,uf,ps,rfl,hP⟩:=open_fieldArg (hval 1 26 v1 rfl rfl) h1
 obtain⟨bl,hB⟩:=open_boolsArg (hval 2 27 v2 rfl rfl) h2
 obtain⟨S,rfl,rfl,rfl,wS⟩:=open_int Tryz.underlying3 (hval 3 3 v3 rfl rfl) h3
 obtain⟨gx,sa,gy,sb,ll,mm,rfl,l1,l2⟩:=open_fracArg (hval 4 32 v4 rfl rfl) h4
 obtain⟨o,hf,ho⟩:=raw_fbV (gx:=gx) (gy:=gy) l1 l2
 obtain⟨_,_,rfl⟩:=l1.shape
 obtain⟨_,_,rfl⟩:=l2.shape
 obtain⟨_,_,rfl⟩:=hm.shape
 obtain⟨_,_,rfl⟩:=hP.shape
 obtain⟨_,_,rfl⟩:=hB.shape
 clear hA0 hval0
 refine(measures_law W hm hP hB hf ho).mono fun e W' ⟨he,hb⟩=> ?_
 subst he
 exact⟨_,rfl,post_below (pv:= []) hW' (fun _ _ _=>(trodAll_cons_mk (shut_bool Tryz.underlying4 _) trodAll_mk0)) (fun sp hs=>trodAll_stays kids sfull hb (by decide) hS (fun p hp=>hs p (List.mem_append_left _ hp))) (fun _ _=>rfl) rfl
  hb (ok_one (by kernel_rfl) rfl (okWide_bool_mk Tryz.underlying4 _))⟩
theorem over:Rows.skyMeasuresRow.holds Tryz.pinned (OpenSpec.ofChange Rows.skyMeasuresSpec):=
 OpenClaim.holds_of_wide_leaving 3 Tryz.f3 rfl rfl rfl rfl rfl rfl rfl ⟨rfl,rfl,rfl,rfl,rfl⟩ rfl rfl rfl rfl rfl (by kernel_rfl) Tryz.func3 (by kernel_rfl)
  (of_decide_eq_true (by kernel_rfl)) (by unfold Func.isWrapper; first | (rw[if_pos (by decide +kernel)]; kernel_rfl) | (rw[if_neg (by decide +kernel)]; exact⟨rfl,rfl⟩))
  (fun os started H enc _=>lifted os started H enc)
theorem proved:Rows.SkyMeasuresSaid:=
 over
end skyMeasures
theorem skyMeasures_holds:Rows.SkyMeasuresSaid:=skyMeasures.proved
#print axioms skyMeasures_holds
end Go.Proofs.YtdkcffnmlllamaaGreat
