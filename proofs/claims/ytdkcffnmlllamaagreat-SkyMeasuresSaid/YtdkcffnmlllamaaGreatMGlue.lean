import Derived.Test.YtdkcffnmlllamaaGreatMLim
import Derived.WalkKit
import Derived.ProofKit
import Derived.OpenShut
import Derived.Below
import Derived.ChangeSame
import Derived.ReadAgain
import Derived.Lib.SmallJoins
set_option linter.unusedVariables false
set_option linter.unusedSimpArgs false
set_option maxHeartbeats 6400000
set_option maxRecDepth 1000000
namespace Go.Proofs.YtdkcffnmlllamaaGreat
open Go.ChangeShapes Go.WideShapes Go.ChangeAt Go.RowKit Go.Joins
section
variable {H:Type} {enc:TypeId×Value→H} {P:Program}
theorem post_below {f:Func} {s:ChangeSpec} {apart fresh handsOn again:Bool} {W W':World} {args:Array Value} {v:Value} {ds gs:List (DataW H)} {before pa pv:List MemPlace}
  (hW:DataW.Whole enc P f.params.toList s.vars apart W args.toList ds gs before)
  (hres:∀ (b:Nat) (sp:Nat→Bool) (hd:Bool),DataW.TrodAll enc P W' b sp hd f.resultTypes.toList (v.resultList f.resultTypes.size) (s.fn H (ds++gs)).results [])
  (hargs:∀sp:Nat→Bool,(∀p∈before,sp p.block=true)→DataW.TrodAll enc P W' 0 sp true f.params.toList args.toList (s.fn H (ds++gs)).args pa)
  (hvars:∀sp:Nat→Bool,(∀p∈before,sp p.block=true)→DataW.TrodVars enc P W' sp s.vars (s.fn H (ds++gs)).vars pv)
  (hps:before=pa++pv) (hb:Below W.heap.size W W')
  (hok:∀ (j:Nat) (t:TypeId) (r:Value),f.resultTypes[j]? = some t→(v.resultList f.resultTypes.size)[j]? = some r→Value.okWide P W' .any 0 t r) :
  s.post enc P f apart fresh handsOn again W args v W':=by
 have hlt:∀p∈before,p.block<W.heap.size:=fun p hp=>hW.lt p hp
 have hold:∀p∈before,(fun b=>decide (b<W.heap.size)) p.block=true:=fun p hp=>by simpa using hlt p hp
 refine⟨ds,gs,before,[],pa,pv,hW,hres _ _ _,hargs _ hold,hvars _ hold,World.keptBut_mono (fun p hp=>⟨hp,?_⟩) (hb.frame (· ∈before)),fun _=> ?_⟩
 ·
  rw[hps,List.mem_append]at hp
  exact Or.inr hp
 ·
  obtain⟨_,_,_,_,_,hz,hn⟩:=hW
  refine⟨hok,_,_,([]++pa)++pv,⟨[]++pa,pv,trodAll_append (hargs _ (fun _ _=>rfl)) (hres _ _ _),hvars _ (fun _ _=>rfl),rfl,?_,?_⟩,?_⟩
  ·
   intro b off hp
   have hin:MemPlace.cell b off∈before:=by rw[hps]; simpa using hp
   rw[hb.frozen (hlt _ hin)]
   exact hz b off hin
  ·
   intro ha
   have:=hn ha
   rw[hps]at this
   simpa using this
  ·
   intro p hp _
   rw[hps]
   simpa using hp
theorem same_below {W W':World} (hb:Below W.heap.size W W') {p:MemPlace} (hp:p.block<W.heap.size):W.sameAt W' p:=by
 cases p with
 | cell b o=>exact hb.cell (p:=⟨b,o,none⟩) hp
 | map b=>exact hb.block b hp
theorem trodAll_stays {W W':World} (K:Kids P (· < P.types.size)) (hz:∀t e,t<P.types.size→P.underlying t=some (.slice e)→0<P.cellsOf e) (hb:Below W.heap.size W W') {sp:Nat→Bool} :
  ∀{ts:List TypeId} {vs:List Value} {ds:List (DataW H)} {ps:List MemPlace},(∀t∈ts,t<P.types.size)→DataW.TrodAll enc P W 0 (fun _=>true) true ts vs ds ps→(∀p∈ps,sp p.block=true)→DataW.TrodAll enc P W' 0 sp true ts vs ds ps
 | [],[],[],_,_,h,_=>h
 | _::_,_::_,_::_,_,hT,⟨p,q,⟨n,h1⟩,h2,e⟩,hs=>
  ⟨p,q,⟨n,DataW.trod_respare K hz n _ _ _ (hT _ (List.mem_cons.2 (Or.inl rfl))) (DataW.trod_carry n _ _ _ h1 (fun x hx=>same_below hb (DataW.trod_lt n _ _ _ h1 x hx))) (fun x hx=>hs x (by rw[e]; exact List.mem_append_left _ hx))⟩,
   trodAll_stays K hz hb (fun t ht=>hT t (List.mem_cons.2 (Or.inr ht))) h2 (fun x hx=>hs x (by rw[e]; exact List.mem_append_right _ hx)),e⟩
theorem cell_lt {w:World} {b o:Nat} {v:Value} (h:w.cell? ⟨b,o,none⟩=some v):b<w.heap.size:=by
 rcases Nat.lt_or_ge b w.heap.size with g | g
 · exact g
 · simp[World.cell?,Array.getElem?_eq_none g]at h
end
theorem kids:Kids Tryz.prog (· < Tryz.prog.types.size):=kids_rows (by kernel_rfl) (by kernel_rfl)
theorem sfull:∀t e,t<Tryz.prog.types.size→Tryz.prog.underlying t=some (.slice e)→0<Tryz.prog.cellsOf e:=slices_full_of Tryz.prog (by kernel_rfl)
theorem cellsU:Tryz.prog.cellsOf 130=1:=by kernel_rfl
theorem cellsS:Tryz.prog.cellsOf 28=1:=by kernel_rfl
theorem cellsB:Tryz.prog.cellsOf 4=1:=by kernel_rfl
theorem cellsW:Tryz.prog.cellsOf 30=2:=by kernel_rfl
theorem cellsF:Tryz.prog.cellsOf 32=4:=by kernel_rfl
section
variable {H:Type} {enc:TypeId×Value→H} {W:World} {base:Nat} {held:Bool} {n:Nat}
theorem open_limbs {v:Value} {y:DataW H×List MemPlace} (h:DataW.trod enc Tryz.prog W base (fun _=>true) held n 28 [v]=some y):∃l,Lim W v l:=by
 rcases open_ints Tryz.underlying28 Tryz.underlying130 cellsU h with⟨e,_⟩ | ⟨a,len,cap,zs,e,_,hle,_,hl,_,hcell,hwf⟩
 ·
  simp only[List.cons.injEq,and_true]at e
  subst e
  exact⟨[],Lim.nil W⟩
 ·
  simp only[List.cons.injEq,and_true]at e
  subst e
  rw[if_pos rfl]at hl
  have lt:(zs.take len).length=len:=by rw[List.length_take]; omega
  refine⟨zs.take len,fun x hx=> ?_,some a,cap,by rw[lt],by omega,(fun h=>by cases h),fun hne=> ?_⟩
  ·
   have:=Go.bounds_u32 (hwf x (List.mem_of_mem_take hx))
   omega
  ·
   have hp:0<zs.length:=by
    rcases Nat.eq_zero_or_pos len with h0 | h0
    · exact absurd (by rw[h0,List.take_zero]) hne
    · omega
   obtain⟨b,off,rfl,hc⟩:=Go.ints_at hcell hp
   refine⟨b,off,rfl,cell_lt (hc 0 hp),fun t ht=> ?_⟩
   rw[lt]at ht
   rw[hc t (by omega)]
   simp[List.getD,List.getElem?_take,ht]
theorem open_wide {c0 c1:Value} {y:DataW H×List MemPlace} (h:DataW.trod enc Tryz.prog W base (fun _=>true) held n 30 [c0,c1]=some y):∃g l,c0 = .bool g∧Lim W c1 l:=by
 obtain⟨xs,m,_,_,_,hl,hf⟩:=DataW.trod_struct Tryz.underlying30 h
 have h0:=hf 0 _ rfl
 have h1:=hf 1 _ rfl
 match xs,hl with
 | [x0,x1],_=>
  simp[cellsB,cellsS]at h0 h1
  obtain⟨b,e,_⟩:=DataW.trod_bool Tryz.underlying4 h0
  obtain⟨l,hl⟩:=open_limbs h1
  simp only[List.cons.injEq,and_true]at e
  exact⟨b,l,e,hl⟩
theorem open_frac {cs:List Value} {y:DataW H×List MemPlace} (h:DataW.trod enc Tryz.prog W base (fun _=>true) held n 32 cs=some y) :
  ∃gx sa gy sb la lb,cs = [.bool gx,sa,.bool gy,sb]∧Lim W sa la∧Lim W sb lb:=by
 obtain⟨xs,m,_,_,hc,hl,hf⟩:=DataW.trod_struct Tryz.underlying32 h
 rw[cellsF]at hc
 have h0:=hf 0 _ rfl
 have h1:=hf 1 _ rfl
 match xs,hl,cs,hc with
 | [x0,x1],_,[c0,c1,c2,c3],_=>
  simp[cellsW]at h0 h1
  obtain⟨gx,la,rfl,l1⟩:=open_wide h0
  obtain⟨gy,lb,rfl,l2⟩:=open_wide h1
  exact⟨gx,c1,gy,c3,la,lb,rfl,l1,l2⟩
theorem open_fracArg {r:Reach} {b0:Nat} {v:Value} {d:DataW H} {p:List MemPlace} (hv:Value.okWide Tryz.prog W r b0 32 v) (h:DataW.Trod enc Tryz.prog W base (fun _=>true) held 32 v d p) :
  ∃gx sa gy sb la lb,v = .agg #[.bool gx,sa,.bool gy,sb]∧Lim W sa la∧Lim W sb lb:=by
 obtain⟨cs,rfl,_⟩:=okWide_struct Tryz.underlying32 hv
 obtain⟨fuel,hf⟩:=h
 obtain⟨gx,sa,gy,sb,la,lb,e,l1,l2⟩:=open_frac hf
 refine⟨gx,sa,gy,sb,la,lb,?_,l1,l2⟩
 have e':cs.toList = [.bool gx,sa,.bool gy,sb]:=e
 rw[show cs=cs.toList.toArray by simp,e']
end
end Go.Proofs.YtdkcffnmlllamaaGreat
/- Four and five arguments. -/
namespace Go.Proofs.YtdkcffnmlllamaaGreat
open Go.ChangeShapes Go.WideShapes Go.ChangeAt Go.RowKit Go.Joins
section
variable {H:Type} {enc:TypeId×Value→H} {P:Program} {w:World} {b0:Nat} {sp:Nat→Bool} {held:Bool}
theorem trodAll_fiveW {t0 t1 t2 t3 t4:TypeId} {args:Array Value} {ds:List (DataW H)} {ps:List MemPlace} (h:DataW.TrodAll enc P w b0 sp held [t0,t1,t2,t3,t4] args.toList ds ps) :
  ∃v0 v1 v2 v3 v4 d0 d1 d2 d3 d4 p0 p1 p2 p3 p4,args=#[v0,v1,v2,v3,v4]∧ds = [d0,d1,d2,d3,d4]∧ps=p0++p1++p2++p3++p4∧DataW.Trod enc P w b0 sp held t0 v0 d0 p0∧DataW.Trod enc P w b0 sp held t1 v1 d1 p1∧DataW.Trod enc P w b0 sp held t2 v2 d2 p2∧DataW.Trod enc P w b0 sp held t3 v3 d3 p3∧DataW.Trod enc P w b0 sp held t4 v4 d4 p4:=by
 obtain⟨v0,vs0,d0,ds0,p0,q0,hargs,rfl,rfl,h0,r0⟩:=trodAll_cons h
 obtain⟨v1,vs1,d1,ds1,p1,q1,rfl,rfl,rfl,h1,r1⟩:=trodAll_cons r0
 obtain⟨v2,vs2,d2,ds2,p2,q2,rfl,rfl,rfl,h2,r2⟩:=trodAll_cons r1
 obtain⟨v3,vs3,d3,ds3,p3,q3,rfl,rfl,rfl,h3,r3⟩:=trodAll_cons r2
 obtain⟨v4,vs4,d4,ds4,p4,q4,rfl,rfl,rfl,h4,r4⟩:=trodAll_cons r3
 obtain⟨rfl,rfl,rfl⟩:=trodAll_nil r4
 exact⟨v0,v1,v2,v3,v4,d0,d1,d2,d3,d4,p0,p1,p2,p3,p4,by cases args; simp_all,rfl,by simp,h0,h1,h2,h3,h4⟩
end
end Go.Proofs.YtdkcffnmlllamaaGreat
