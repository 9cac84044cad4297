import Derived.Test.YtffmbepfbienaaaGreatZTz
import Derived.WalkLawsBesides
set_option linter.unusedVariables false
set_option linter.unusedSimpArgs false
set_option maxHeartbeats 6400000
set_option maxRecDepth 1000000
open Go.Value renaming slice->Cq,bool->Cx,int->Cz,pointer->Cj,tuple->Ck
open Go.IntKind renaming i64->Cv
open Go.Ending renaming returned->Cg
open Go.Proofs.Tryz renaming prog->Ch
open Go renaming Calls->Cb,World->Cc,undef->Cf,bodyPost_ret->Ci
namespace Go.Proofs.YtffmbepfbienaaaGreat
open Go.RowKit
variable {x y:Int} {l:List (Int×Int)} {i j:Nat} {r s:Rat} {v va vb:Value} {w:Cc}
def PM (x y:Int) (l:List Int):Prop:=zj l=zh x*zh y/\l.length<=aE
def PE (L l:List Int):Prop:=l=L
theorem JX (w:Cc) (ha:az w va x) (hb:az w vb y) (fx:fits x) (fy:fits y) :
  Cb Ch 55 #[va,vb] w fun e E=>∃v,e = Cg (Ck #[v,Cz Cv (qU (x*y))])/\az E v (xn (x*y))/\zf w E:=by
 have ck:∀ (E:Cc) (q:Nat) (M J:Value),ai E q 26 #[Cx (decide (x<0)),M,Cx (decide (y<0)),J]->aA E M (zn (zh x))->aA E J (zn (zh y))->
   Cb Ch 93 #[Cq (some ⟨q,0,none⟩) 2 2] E fun e I=>e = Cg (Cz Cv 0)/\zf E I:=fun E q M J hb Z N=>xh E hb Z N fx fy
 obtain⟨aa,ca,rfl,pa⟩:=ha.parts;obtain⟨ab,cb,rfl,pb⟩:=hb.parts;unfold fits at fx fy;have nx:(zn (zh x)).length<=aE:=by unfold aE; omega
 have ny:(zn (zh y)).length<=aE:=by unfold aE; omega
 have vx:=zA (zt x);have vy:=zA (zt y);obtain⟨g,Y⟩:∃g,(decide (x<0) != decide (y<0))=g:=⟨_,rfl⟩
 have tm:∀E M J,aA E M (zn (zh x))->aA E J (zn (zh y))->Cb Ch 95 #[M,J] E fun e I=>∃v,e = Cg v/\dN (PM x y) v I/\zf E I:=fun E M J Z N=>by
  refine(Wm E Z N nx ny).mono ?_;rintro e I ⟨v,l,rfl,Z,N,h3,h4⟩;exact⟨v,rfl,⟨l,⟨by rw[N,vx,vy],by unfold aE; omega⟩,Z⟩,h4⟩
 have mk:∀E s,dN (PM x y) s E->Cb Ch 94 #[Cx g,s] E fun e I=>∃v,e = Cg (Ck #[v,Cz Cv (qU (x*y))])/\az I v (xn (x*y))/\zf E I:=fun E s ⟨l,⟨N,h3⟩,h⟩=>by
  have:=xG g E h h3;rw[N,<- Y,Wy]at this;rw[<- Y];exact this
 obtain⟨LX,b9⟩:∃l,zn (zh x)=l:=⟨_,rfl⟩;obtain⟨LY,a9⟩:∃l,zn (zh y)=l:=⟨_,rfl⟩;rw[b9]at tm ck pa|-;rw[a9]at tm ck pb|-;obtain⟨n,hn⟩:∃n,LX.length=n:=⟨_,rfl⟩;obtain⟨m,hm⟩:∃m,LY.length=m:=⟨_,rfl⟩;rw[hn]at pa|-;rw[hm]at pb|-;obtain⟨gx,be⟩:∃b,decide (x<0)=b:=⟨_,rfl⟩;obtain⟨gy,ah⟩:∃b,decide (y<0)=b:=⟨_,rfl⟩;rw[be,ah]at Y ck|-;have ce:(gx==gy) = !g:=by rw[<- Y]; cases gx<;>cases gy<;>rfl
 have X:=C5 pa;have T:=C5 pb;clear ha hb pa pb hn hm be ah Y b9 a9 fx fy nx ny vx vy
 go_enter Tryz.func55,Tryz.ntmps55
 go_wp2_with fail
 refine(ck _ _ _ _ zw (X.out.af zo) (T.out.af zo)).mono ?_;rintro e w1 ⟨rfl,st⟩;have B:=bA w st;have kp:=kB w st;have oa:ai w1 w.heap.size 26 #[Cx gx,Cq aa n ca]:=ai.ak st;have ob:ai w1 (w.heap.size+1) 26 #[Cx gy,Cq ab m cb]:=ai.ak st;have or:ai w1 (w.heap.size+1+1) 26 #[Cx false,Cq none 0 0]:=ai.ak st;replace X:=C5 (X.out.af kp);replace T:=C5 (T.out.af kp);clear kp;clear st;obtain⟨bt,br⟩:=oa.r1;have la:=oa.lt;obtain⟨bl,bh⟩:=ob.r1;have lb:=ob.lt;clear ck;have zr:w.heap.size+1+1<w1.heap.size:=or.lt;have cg:=B.size
 go_upto_region 4 with fail
 refine aj.dj w w1 [.o w.heap.size 26 #[Cx gx,Cq aa n ca],.o (w.heap.size+1) 26 #[Cx gy,Cq ab m cb],.s (w.heap.size+1+1) 26 #[Cx false,Cq none 0 0] 13 [10] (aj.vT 0)] [9,10,13] [(9,JT),(10,kG (qU (x*y)))] [(9,dN (PM x y)),(10,bZ (xn (x*y)) (qU (x*y)))] [(10,[(9,some 24)]),(13,[(10,some 25)]),(15,[(9,some 24),(10,some 25)])] [(10,[13])] (by simp only[aX]; exact⟨zi,zo,zw,zw,zw,trivial⟩) (fun N0 bg bf Q' H hQ=> ?_);clear bt br la bl bh lb;clear bg;refine aj.aK 15 ?_;refine aj.aV 16 (fun _ _ _ h=>h.e.1.r1) ?_;refine aj.aK 17 ?_;refine aj.aV 18 (fun _ _ _ h=>h.e.2.1.r1) ?_
 repeat refine aj.aK _ ?_
 refine aj.aV 21 (fun _ _ _ h=>h.e.1.r1) ?_;refine aj.aK 22 ?_;refine aj.aV 23 (fun _ _ _ h=>h.e.2.1.r1) ?_;refine aj.sC H (fun D v' W' h _=>tm W' _ _ (X.out.af h.k) (T.out.af h.k)) ?_;rintro _ ⟨t1,t2,t3,rfl⟩;refine aj.aD (b:=⟨#[_,_,_,_,_,_,_,_,_,_,_,_,_,_,_,_,_,_,_,_,_,_,_,_,_,_,_,_],[]⟩) rfl ?_;refine aj.sC H (fun D v' W' _ hf=>mk W' _ (hf (9,some 24) (.head _) rfl).2.2) ?_;rintro _ ⟨p1,p2,p3,p4,rfl⟩;refine aj.aD (b:=⟨#[_,_,_,_,_,_,_,_,_,_,_,_,_,_,_,_,_,_,_,_,_,_,_,_,_,_,_,_],[]⟩) rfl ?_
 repeat refine aj.aK _ ?_
 refine aj.sS H ?_;refine aj.aK 5 ?_;refine aj.sE (fun _ v' I B jk hl _ _ hf=> ?_);simp only[qB,qF]at hl;obtain⟨oa,ob,or,-⟩:=hl;have or:ai I (w.heap.size+1+1) 26 #[Cx p1,Cq p2 p3 p4]:=or;have Fp:=C5 (bZ.get (z:=xn (x*y)) (e:=(qU (x*y))) (v:= .agg #[Cx p1,Cq p2 p3 p4]) (hf (10,some 25) (.tail _ (.head _)) rfl).2.2);replace X:=C5 (X.out.af jk);replace T:=C5 (T.out.af jk);clear hf jk;refine hQ _ _ ?_;clear hQ H Q' bf;obtain⟨bq,bi⟩:=or.r1;have lr:=or.lt;clear tm mk;go_wp2_with fail
 refine Ci (by simp[results,Tryz.results55,go_sem,bq,bi,lr]; rfl) rfl ?_;exact⟨_,rfl,Fp.out.af zo,zi⟩
theorem Hi (w:Cc) (ha:az w va x) (X:fits x) :
  Cb Ch 131 #[va] w fun e E=>∃v,e = Cg (Ck #[v,Cz Cv 0])/\az E v (-x)/\zf w E:=by
 have Z:∀ (E:Cc) (q:Nat) (J:Value),ai E q 26 #[Cx (decide (x<0)),J]->aA E J (zn (zh x))->
   Cb Ch 93 #[Cq (some ⟨q,0,none⟩) 1 1] E fun e I=>e = Cg (Cz Cv 0)/\zf E I:=fun E q J hb h1=>by
  have:=Jj E hb h1;rw[show xp (zS (decide (x<0)) (zn (zh x)))=0 from C7 (xf X)]at this;exact this
 obtain⟨aa,ca,rfl,pa⟩:=ha.parts;have nx:(zn (zh x)).length<=aE:=by unfold fits at X; unfold aE; omega
 have vx:=zA (zt x)
 have cl:∀E J,aA E J (zn (zh x))->Cb Ch 134 #[J] E fun e I=>∃v,e = Cg v/\dN (PE (zn (zh x))) v I/\zf E I:=fun E J h1=>by
  refine(Zs E h1 nx).mono ?_;rintro e I ⟨v,rfl,_,h2,h3⟩;exact⟨v,rfl,⟨_,rfl,h2⟩,h3⟩
 have mk:∀E s,dN (PE (zn (zh x))) s E->Cb Ch 94 #[Cx (!decide (x<0)),s] E fun e I=>∃v,e = Cg (Ck #[v,Cz Cv 0])/\az I v (-x)/\zf E I:=fun E s ⟨l,hl,h⟩=>by
  obtain rfl:l=zn (zh x):=hl;have:=xG (!decide (x<0)) E h nx
  have e:zv (!decide (x<0)) (zj (zn (zh x))) = -x:=by
   rw[vx]; unfold zv zh
   by_cases h:x<0
   . rw[C9 h]; simp; omega
   . rw[C_ h]; simp; omega
  rw[e,show qU (-x)=0 from C7 (jE X),show xn (-x) = -x from C7 (jE X)]at this;exact this
 obtain⟨LX,N⟩:∃l,zn (zh x)=l:=⟨_,rfl⟩;rw[N]at cl mk Z pa|-;obtain⟨n,hn⟩:∃n,LX.length=n:=⟨_,rfl⟩;rw[hn]at pa|-;obtain⟨gx,T⟩:∃b,decide (x<0)=b:=⟨_,rfl⟩;rw[T]at mk Z|-;have M:=C5 pa;clear ha pa hn T N X nx vx
 go_enter Tryz.func131,Tryz.ntmps131
 go_wp2_with fail
 refine(Z _ _ _ zw (M.out.af zo)).mono ?_;rintro e w1 ⟨rfl,st⟩;have B:=bA w st;have kp:=kB w st;have oa:ai w1 w.heap.size 26 #[Cx gx,Cq aa n ca]:=ai.ak st;have or:ai w1 (w.heap.size+1) 26 #[Cx false,Cq none 0 0]:=ai.ak st;replace M:=C5 (M.out.af kp);clear kp;clear st;obtain⟨bf,be⟩:=oa.r1;have la:=oa.lt;clear Z;have zr:w.heap.size+1<w1.heap.size:=or.lt;have bg:=B.size
 go_upto_region 4 with fail
 refine aj.dj w w1 [.o w.heap.size 26 #[Cx gx,Cq aa n ca],.s (w.heap.size+1) 26 #[Cx false,Cq none 0 0] 9 [6] (aj.vT 0)] [5,6,9] [(5,JT),(6,kG 0)] [(5,dN (PE LX)),(6,bZ (-x) 0)] [(6,[(5,some 17)]),(9,[(6,some 18)]),(11,[(5,some 17),(6,some 18)])] [(6,[9])] (by simp only[aX]; exact⟨zi,zo,zw,zw,trivial⟩) (fun N0 a9 Y Q' H hQ=> ?_);clear bf be la;clear a9;refine aj.aK 12 ?_;refine aj.aV 13 (fun _ _ _ h=>h.e.1.r1) ?_
 repeat refine aj.aK _ ?_
 refine aj.aV 16 (fun _ _ _ h=>h.e.1.r1) ?_;refine aj.sC H (fun D v' W' h _=>cl W' _ (M.out.af h.k)) ?_;rintro _ ⟨t1,t2,t3,rfl⟩;refine aj.aD (b:=⟨#[_,_,_,_,_,_,_,_,_,_,_,_,_,_,_,_,_,_,_,_,_],[]⟩) rfl ?_;refine aj.sC H (fun D v' W' _ hf=>mk W' _ (hf (5,some 17) (.head _) rfl).2.2) ?_;rintro _ ⟨p1,p2,p3,p4,rfl⟩;refine aj.aD (b:=⟨#[_,_,_,_,_,_,_,_,_,_,_,_,_,_,_,_,_,_,_,_,_],[]⟩) rfl ?_
 repeat refine aj.aK _ ?_
 refine aj.sS H ?_;refine aj.aK 3 ?_;refine aj.sE (fun _ v' I B jk hl _ _ hf=> ?_);simp only[qB,qF]at hl;obtain⟨oa,or,-⟩:=hl;have or:ai I (w.heap.size+1) 26 #[Cx p1,Cq p2 p3 p4]:=or;have Fp:=C5 (bZ.get (z:= -x) (e:=0) (v:= .agg #[Cx p1,Cq p2 p3 p4]) (hf (6,some 18) (.tail _ (.head _)) rfl).2.2);replace M:=C5 (M.out.af jk);clear hf jk;refine hQ _ _ ?_;clear hQ H Q' Y;obtain⟨b9,ah⟩:=or.r1;have lr:=or.lt;clear cl mk;go_wp2_with fail
 refine Ci (by simp[results,Tryz.results131,go_sem,b9,ah,lr]; rfl) rfl ?_;exact⟨_,rfl,Fp.out.af zo,zi⟩
theorem Vb (w:Cc) (T:az w va x) (Y:fits x) :
  Cb Ch 150 #[va] w fun e E=>e = Cg (Cz Cv 0)/\zf w E:=by
 have N:∀ (E:Cc) (q:Nat) (M:Value),ai E q 26 #[Cx (decide (x<0)),M]->aA E M (zn (zh x))->
   Cb Ch 93 #[Cq (some ⟨q,0,none⟩) 1 1] E fun e w2=>e = Cg (Cz Cv 0)/\zf E w2:=fun E q M hb h1=>by
  have:=Jj E hb h1;rw[show xp (zS (decide (x<0)) (zn (zh x)))=0 from C7 (xf Y)]at this;exact this
 obtain⟨aa,ca,rfl,pa⟩:=T.parts;obtain⟨LX,H⟩:∃l,zn (zh x)=l:=⟨_,rfl⟩;rw[H]at N pa|-;obtain⟨n,Z⟩:∃n,LX.length=n:=⟨_,rfl⟩;rw[Z]at pa|-;obtain⟨gx,I⟩:∃b,decide (x<0)=b:=⟨_,rfl⟩;rw[I]at N|-;have J:=C5 pa;clear T pa Z I H Y
 go_enter Tryz.func150,Tryz.ntmps150
 go_wp2_with fail
 refine(N _ _ _ zw (J.out.af zo)).mono ?_;rintro e w1 ⟨rfl,st⟩;have B:=bA w st;have X:=kB w st;have oa:ai w1 w.heap.size 26 #[Cx gx,Cq aa n ca]:=ai.ak st;replace J:=C5 (J.out.af X);clear X;clear st
 go_wp2
 go_returns
 exact⟨rfl,zi⟩
theorem WD (w:Cc):Cb Ch 57 #[Cz Cv 0] w fun e E=>e = Cg (Ck #[])/\E=w:=by
 go_enter Tryz.func57,Tryz.ntmps57
 go_wp2
 go_end0
 exact⟨rfl,rfl⟩
def Hy (e:Int):Value:= .iface 143 (.agg #[Cz Cv e])
theorem xA (p:Addr) (w:Cc) :
  CallsD Ch 56 #[Cj (some p)] .returning w fun e H E=>e = Cg (Ck #[])/\H = .returning/\E=w:=by
 refine callsD_of_wpS Tryz.func56 rfl fun I cs J=> ?_;apply wpS_seq
 apply wpS_region
 simp[wpOpsS,go_sem,recoverD,J,Tryz.ntmps56,Exit.thenS];refine wpS_of_wp ?_
 show Code.wp _ _ _ ⟨#[Cj (some p),Cf,Cf,Cf,Cf,.nilIface,Cf,Cf,Cf,Cf,Cf,Cf,Cf,Cf,Cf],[]⟩ w
 go_wp2_with fail
 cases I
 simp_all [bodyPostS,results,Tryz.results56]
theorem jm (H : -9223372036854775808<=x) (E:x<=9223372036854775807):fits x:=yK (k:=2) (by rw[xN]; unfold zh; omega) B_
theorem jJ (w:Cc) (E:az w va x):Cb Ch 54 #[va,Cz Cv 0] w fun e H=>∃v,e = Cg v/\az H v x/\zf w H:=by
 obtain⟨a1,a2,J,M,rfl⟩:=E.au;have I:=C5 E;clear E
 go_enter Tryz.func54,Tryz.ntmps54
 go_wp2_with fail
 refine Ci (by simp[results,Tryz.results54,go_sem,]; rfl) rfl ?_;exact⟨_,rfl,I.out.af zo,zi⟩
theorem kI (w:Cc) (ha:az w va x) (hb:az w vb y) (fx:fits x) (fy:fits y) (hy:y≠0) :
  Cb Ch 92 #[va,vb] w fun e H=>∃v,e = Cg v/\FR H v ((x:Rat) / (y:Rat))/\zf w H:=by
 have RA:=Qr (x:=x) hy;have fP:fits (Xc x y):=yj RA.1 fx;have fQ:fits (Ya x y):=yj RA.2.1 fy;have fG:fits (rg x y):=yj RA.2.2 fy;have g0:=Xx (x:=x) hy;have gc:∀H u v,az H u x->az H v y->Cb Ch 96 #[u,v] H fun e M=>∃v,e = Cg (Ck #[v,Cz Cv 0])/\az M v (ym x y)/\zf H M:=fun H u v h1 h2=>(Gn H h1 h2 fx fy).mono (by rintro e M ⟨v,rfl,h,-,hs⟩; exact⟨v,rfl,h,hs⟩);have d1:∀H u v,az H u x->az H v (rg x y)->Cb Ch 132 #[u,v] H fun e M=>∃q r,e = Cg (Ck #[q,r,Cz Cv 0])/\az M q (Xc x y)/\az M r (y9 x (rg x y))/\zf H M:=fun H u v h1 h2=>Jl H h1 h2 fx fG g0;have d2:∀H u v,az H u y->az H v (rg x y)->Cb Ch 132 #[u,v] H fun e M=>∃q r,e = Cg (Ck #[q,r,Cz Cv 0])/\az M q (Ya x y)/\az M r (y9 y (rg x y))/\zf H M:=fun H u v h1 h2=>Jl H h1 h2 fy fG g0;have MK:Hid (∀H a s b t,az H (.agg #[Cx a,s]) (Xc x y)->az H (.agg #[Cx b,t]) (Ya x y)->FR H (.agg #[Cx a,s,Cx b,t]) ((x:Rat) / (y:Rat))):=fun H a s b t h1 h2=>FR.ev hy (cB.mk' h1 h2 (Za (x:=x) hy) (Qp (x:=x) hy) fP fQ)
 have fg:fits (ym x y):=by
  unfold rg at fG
  split at fG
  . have:=jE fG; rwa[Int.neg_neg]at this
  . exact fG
 have ng:∀H v,az H v (ym x y)->Cb Ch 131 #[v] H fun e M=>∃v,e = Cg (Ck #[v,Cz Cv 0])/\az M v (-ym x y)/\zf H M:=fun H v h=>Hi H h fg;obtain⟨a1,a2,a3,a4,rfl⟩:=ha.au;have X:=C5 ha;clear ha;obtain⟨b2,b4,rfl,-⟩:=hb.parts;obtain⟨b3,bi⟩:∃n,(zn (zh y)).length=n:=⟨_,rfl⟩;rw[bi]at hb|-
 by_cases hs:y<0
 focus
  rw[C9 hs]at hb|-;have HG:rg x y = -ym x y:=C7 hs;rw[HG]at d1 d2;have N:=C5 hb;clear hb bi hs HG fg hy fx fy g0 RA fP fQ fG
  go_enter Tryz.func92,Tryz.ntmps92
  go_wp2_with fail
  refine(gc _ _ _ (X.out.af zo) (N.out.af zo)).mono ?_;rintro e w1 ⟨vg,rfl,b9,em⟩;have st:zf _ w1:=em;have B:=bA w st;have kp:=kB w st;have T:ai w1 w.heap.size 26 #[Cx a1,Cq a2 a3 a4]:=ai.ak st;have J:ai w1 (w.heap.size+1) 26 #[Cx true,Cq b2 b3 b4]:=ai.ak st;have or:ai w1 (w.heap.size+1+1) 28 qE:=ai.ak st;replace X:=C5 (X.out.af kp);replace N:=C5 (N.out.af kp);clear kp;clear st;obtain⟨g1,g2,g3,g4,rfl⟩:=b9.au;have Z:=C5 b9;clear b9;clear gc;go_wp2_with fail
  refine(jJ _ (Z.out.af zo)).mono ?_;rintro e M ⟨dk,rfl,I,dl⟩;have st:zf _ M:=dl;have sk:=bA w1 st;replace B:=bS B sk;replace T:=T.ae sk;replace J:=J.ae sk;replace or:=or.ae sk;replace X:=C5 (X.out.ae sk);replace N:=C5 (N.out.ae sk);replace Z:=C5 (Z.out.ae sk);clear st sk;have la:=T.lt;obtain⟨bg,bf⟩:=J.r1;have lb:=J.lt;have lr:=or.lt;obtain⟨br,bh,bl,bq,rfl⟩:=I.au;have E:=C5 I;clear I;have zr:w.heap.size+1+1<M.heap.size:=or.lt;have dy:=B.size;go_wp2_with fail
  refine(ng _ _ (E.out.af zo)).mono ?_;rintro e w3 ⟨vh,rfl,cx,bi⟩;have st:zf _ w3:=bi;have sk:=bA M st;replace B:=bS B sk;have og:ai w3 M.heap.size 26 #[Cx br,Cq bh bl bq]:=ai.ak st;replace T:=T.ae sk;replace J:=J.ae sk;replace or:=or.ae sk;replace X:=C5 (X.out.ae sk);replace N:=C5 (N.out.ae sk);replace Z:=C5 (Z.out.ae sk);replace E:=C5 (E.out.ae sk);clear st sk la bg bf lb lr;obtain⟨h1,h2,h3,h4,rfl⟩:=cx.au;have Fh:=C5 cx;clear cx;clear ng;go_wp2_with fail
  refine(jJ _ (Fh.out.af zo)).mono ?_;rintro e w4 ⟨eW,rfl,ah,eF⟩;have st:zf _ w4:=eF;have sk:=bA w3 st;replace B:=bS B sk;replace T:=T.ae sk;replace J:=J.ae sk;replace or:=or.ae sk;replace og:=og.ae sk;replace X:=C5 (X.out.ae sk);replace N:=C5 (N.out.ae sk);replace Z:=C5 (Z.out.ae sk);replace E:=C5 (E.out.ae sk);replace Fh:=C5 (Fh.out.ae sk);clear st sk;obtain⟨cy,cN⟩:=T.r1;have la:=T.lt;have lb:=J.lt;have lr:=or.lt;obtain⟨ce,bt,fg,lg⟩:=og.s1;obtain⟨dc,cY,dd,d9,rfl⟩:=ah.au;have Y:=C5 ah;clear ah;go_wp2_with fail
  refine(d1 _ _ _ (X.out.af zo) (Y.out.af zo)).mono ?_;rintro e w5 ⟨vp,vs,rfl,be,a9,st⟩;have Bn:=bA w st;have kp:=kB w4 st;replace T:ai w5 w.heap.size 26 #[Cx a1,Cq a2 a3 a4]:=ai.ak st;replace J:ai w5 (w.heap.size+1) 26 #[Cx true,Cq b2 b3 b4]:=ai.ak st;replace or:ai w5 (w.heap.size+1+1) 28 qE:=ai.ak st;replace og:ai w5 M.heap.size 26 #[Cx dc,Cq cY dd d9]:=ai.ak st;clear cy cN la lb lr ce bt fg lg;replace B:=Bn;replace X:=C5 (X.out.af kp);replace N:=C5 (N.out.af kp);replace Z:=C5 (Z.out.af kp);replace E:=C5 (E.out.af kp);replace Fh:=C5 (Fh.out.af kp);replace Y:=C5 (Y.out.af kp);clear kp;clear st;have la:=T.lt;obtain⟨bg,bf⟩:=J.r1;have lb:=J.lt;have lr:=or.lt;obtain⟨ce,bt⟩:=og.r1;have lg:=og.lt;obtain⟨p1,p2,p3,p4,rfl⟩:=be.au;obtain⟨s1,s2,s3,s4,rfl⟩:=a9.au;have Fp:=C5 be;clear be;have Fs:=C5 a9;clear a9;clear d1;have zg:M.heap.size<w5.heap.size:=og.lt;have f8:=B.size;go_wp2_with fail
  refine(d2 _ _ _ (N.out.af zo) (Y.out.af zo)).mono ?_;rintro e w6 ⟨vq,vt,rfl,cg,ci,st⟩;have sk:=bA w5 st;replace B:=bS B sk;have op:ai w6 w5.heap.size 26 #[Cx p1,Cq p2 p3 p4]:=ai.ak st;have os:ai w6 (w5.heap.size+1) 26 #[Cx s1,Cq s2 s3 s4]:=ai.ak st;replace T:=T.ae sk;replace J:=J.ae sk;replace or:=or.ae sk;replace og:=og.ae sk;replace X:=C5 (X.out.ae sk);replace N:=C5 (N.out.ae sk);replace Z:=C5 (Z.out.ae sk);replace E:=C5 (E.out.ae sk);replace Fh:=C5 (Fh.out.ae sk);replace Y:=C5 (Y.out.ae sk)
 rotate_left
 focus
  rw[C_ hs]at hb|-;have HG:rg x y=ym x y:=C8 hs;rw[HG]at d1 d2;have N:=C5 hb;clear hb bi hs HG fg hy fx fy g0 RA fP fQ fG ng
  go_enter Tryz.func92,Tryz.ntmps92
  go_wp2_with fail
  refine(gc _ _ _ (X.out.af zo) (N.out.af zo)).mono ?_;rintro e w1 ⟨vg,rfl,b9,st⟩;have B:=bA w st;have kp:=kB w st;have T:ai w1 w.heap.size 26 #[Cx a1,Cq a2 a3 a4]:=ai.ak st;have J:ai w1 (w.heap.size+1) 26 #[Cx false,Cq b2 b3 b4]:=ai.ak st;have or:ai w1 (w.heap.size+1+1) 28 qE:=ai.ak st;replace X:=C5 (X.out.af kp);replace N:=C5 (N.out.af kp);clear kp;clear st;obtain⟨g1,g2,g3,g4,rfl⟩:=b9.au;have Z:=C5 b9;clear b9;clear gc;go_wp2_with fail
  refine(jJ _ (Z.out.af zo)).mono ?_;rintro e M ⟨dk,rfl,I,st⟩;have sk:=bA w1 st;replace B:=bS B sk;replace T:=T.ae sk;replace J:=J.ae sk;replace or:=or.ae sk;replace X:=C5 (X.out.ae sk);replace N:=C5 (N.out.ae sk);replace Z:=C5 (Z.out.ae sk);clear st sk;obtain⟨cy,cN⟩:=T.r1;have la:=T.lt;obtain⟨bg,bf⟩:=J.r1;have lb:=J.lt;have lr:=or.lt;obtain⟨br,bh,bl,bq,rfl⟩:=I.au;have E:=C5 I;clear I;have zr:w.heap.size+1+1<M.heap.size:=or.lt;have dy:=B.size;go_wp2_with fail
  refine(d1 _ _ _ (X.out.af zo) (E.out.af zo)).mono ?_;rintro e w5 ⟨vp,vs,rfl,be,a9,st⟩;have sk:=bA M st;replace B:=bS B sk;have og:ai w5 M.heap.size 26 #[Cx br,Cq bh bl bq]:=ai.ak st;replace T:=T.ae sk;replace J:=J.ae sk;replace or:=or.ae sk;replace X:=C5 (X.out.ae sk);replace N:=C5 (N.out.ae sk);replace Z:=C5 (Z.out.ae sk);replace E:=C5 (E.out.ae sk);clear st sk cy cN la bg bf lb lr;have la:=T.lt;obtain⟨bg,bf⟩:=J.r1;have lb:=J.lt;have lr:=or.lt;obtain⟨ce,bt⟩:=og.r1;have lg:=og.lt;obtain⟨p1,p2,p3,p4,rfl⟩:=be.au;obtain⟨s1,s2,s3,s4,rfl⟩:=a9.au;have Fp:=C5 be;clear be;have Fs:=C5 a9;clear a9;clear d1;have zg:M.heap.size<w5.heap.size:=og.lt;have f9:=B.size;go_wp2_with fail
  refine(d2 _ _ _ (N.out.af zo) (E.out.af zo)).mono ?_;rintro e w6 ⟨vq,vt,rfl,cg,ci,st⟩;have sk:=bA w5 st;replace B:=bS B sk;have op:ai w6 w5.heap.size 26 #[Cx p1,Cq p2 p3 p4]:=ai.ak st;have os:ai w6 (w5.heap.size+1) 26 #[Cx s1,Cq s2 s3 s4]:=ai.ak st;replace T:=T.ae sk;replace J:=J.ae sk;replace or:=or.ae sk;replace og:=og.ae sk;replace X:=C5 (X.out.ae sk);replace N:=C5 (N.out.ae sk);replace Z:=C5 (Z.out.ae sk);replace E:=C5 (E.out.ae sk)
 rotate_left
 all_goals
  replace Fp:=C5 (Fp.out.ae sk);replace Fs:=C5 (Fs.out.ae sk);clear st sk la bg bf lb lr ce bt lg;have la:=T.lt;have lb:=J.lt;obtain⟨eM,ek,er,dx,fr,lr⟩:=or.s3;obtain⟨ec,dP⟩:=op.r1;have lp:=op.lt;have ls:=os.lt;obtain⟨q1,q2,q3,q4,rfl⟩:=cg.au;obtain⟨t1,t2,t3,t4,rfl⟩:=ci.au;have Fq:=C5 cg;clear cg;have Ft:=C5 ci;clear ci;clear d2;have zs:w5.heap.size+1<w6.heap.size:=os.lt;have f7:=B.size;go_wp2_with fail
  refine Ci (by simp[results,Tryz.results92,go_sem,la,lb,eM,ek,er,dx,fr,lr,ec,dP,lp,ls]; rfl) rfl ?_;exact⟨_,rfl,MK.out _ _ _ _ _ (Fp.out.af zo) (Fq.out.af zo),zi⟩
theorem xt (w:Cc):Cb Ch 57 #[Cz Cv 0] w fun e E=>e = Cg (Ck #[])/\zf w E:=(WD w).mono (by rintro e E ⟨rfl,rfl⟩; exact⟨rfl,Below.refl _ _⟩)
theorem Gs (w:Cc) (ha:az w va x) (hb:az w vb y) (fx:fits x) (fy:fits y) (hy:y≠0) :
  Cb Ch 117 #[va,vb] w fun e E=>∃v,e = Cg (Ck #[v,Cz Cv 0])/\FR E v ((x:Rat) / (y:Rat))/\zf w E:=by
 have c1:∀E v,az E v x->Cb Ch 150 #[v] E fun e Y=>e = Cg (Cz Cv 0)/\zf E Y:=fun E v h=>Vb E h fx;have c2:∀E v,az E v y->Cb Ch 150 #[v] E fun e Y=>e = Cg (Cz Cv 0)/\zf E Y:=fun E v h=>Vb E h fy;have zr:∀E v,az E v y->Cb Ch 97 #[v] E fun e Y=>e = Cg (Cx false)/\zf E Y:=fun E v h=>by have:=KO E h; rwa[C_ hy]at this
 have rd:∀E u v,az E u x->az E v y->Cb Ch 92 #[u,v] E fun e Y=>∃v,e = Cg v/\FR Y v ((x:Rat) / (y:Rat))/\zf E Y:=fun E u v h1 h2=>kI E h1 h2 fx fy hy;obtain⟨a1,a2,a3,a4,rfl⟩:=ha.au;have N:=C5 ha;clear ha;obtain⟨b1,b2,b3,b4,rfl⟩:=hb.au;have J:=C5 hb;clear hb;clear fx fy hy
 go_enter_defers Tryz.func117,Tryz.ntmps117
 go_wp2_with fail
 refine(c1 _ _ (N.out.af zo)).mono ?_;rintro e w1 ⟨rfl,st⟩;have B:=bA w st;have kp:=kB w st;have M:ai w1 w.heap.size 26 #[Cx a1,Cq a2 a3 a4]:=ai.ak st;have H:ai w1 (w.heap.size+1) 26 #[Cx b1,Cq b2 b3 b4]:=ai.ak st;have or:ai w1 (w.heap.size+1+1) 28 qE:=ai.ak st;have I:ai w1 (w.heap.size+1+1+1) 32 #[Cz Cv 0]:=ai.ak st;replace N:=C5 (N.out.af kp);replace J:=C5 (J.out.af kp);clear kp;clear st;go_wp2_with fail
 refine(xt _).mono ?_;rintro e Y ⟨rfl,st⟩;have sk:=bA w1 st;replace B:=bS B sk;replace M:=M.ae sk;replace H:=H.ae sk;replace or:=or.ae sk;replace I:=I.ae sk;replace N:=C5 (N.out.ae sk);replace J:=C5 (J.out.ae sk);clear st sk;have la:=M.lt;obtain⟨X,T⟩:=H.r1;have lb:=H.lt;have Z:=or.lt;have le:=I.lt;go_wp2_with fail
 refine(c2 _ _ (J.out.af zo)).mono ?_;rintro e w3 ⟨rfl,st⟩;have sk:=bA Y st;replace B:=bS B sk;replace M:=M.ae sk;replace H:=H.ae sk;replace or:=or.ae sk;replace I:=I.ae sk;replace N:=C5 (N.out.ae sk);replace J:=C5 (J.out.ae sk);clear st sk la X T lb Z le;go_wp2_with fail
 refine(xt _).mono ?_;rintro e w4 ⟨rfl,st⟩;have sk:=bA w3 st;replace B:=bS B sk;replace M:=M.ae sk;replace H:=H.ae sk;replace or:=or.ae sk;replace I:=I.ae sk;replace N:=C5 (N.out.ae sk);replace J:=C5 (J.out.ae sk);clear st sk;have la:=M.lt;obtain⟨X,T⟩:=H.r1;have lb:=H.lt;have Z:=or.lt;have le:=I.lt;go_wp2_with fail
 refine(zr _ _ (J.out.af zo)).mono ?_;rintro e w5 ⟨rfl,st⟩;have sk:=bA w4 st;replace B:=bS B sk;replace M:=M.ae sk;replace H:=H.ae sk;replace or:=or.ae sk;replace I:=I.ae sk;replace N:=C5 (N.out.ae sk);replace J:=C5 (J.out.ae sk);clear st sk la X T lb Z le;obtain⟨bi,bh⟩:=M.r1;have la:=M.lt;obtain⟨X,T⟩:=H.r1;have lb:=H.lt;have Z:=or.lt;have le:=I.lt;go_wp2_with fail
 refine(rd _ _ _ (N.out.af zo) (J.out.af zo)).mono ?_;rintro e w6 ⟨vq,rfl,a9,st⟩;have sk:=bA w5 st;replace B:=bS B sk;replace M:=M.ae sk;replace H:=H.ae sk;replace or:=or.ae sk;replace I:=I.ae sk;replace N:=C5 (N.out.ae sk);replace J:=C5 (J.out.ae sk);clear st sk bi bh la X T lb Z le;have la:=M.lt;have lb:=H.lt;obtain⟨bf,be,ah,b9,fr,Z⟩:=or.s3;have bg:=I.q0;have fe:=I.fr;have le:=I.lt;obtain⟨q1,q2,q3,q4,q5,q6,q7,q8,rfl⟩:=a9.au;have Fq:=C5 a9;clear a9;go_wp2_with fail
 refine leaves_cons (f:=56) (args:=#[Cj (some ⟨w.heap.size+1+1+1,0,none⟩)]) C3 (by simp[go_sem]) ?_;refine(xA _ _).mono ?_;rintro e u' bl ⟨rfl,rfl,rfl⟩;refine⟨_,by simp[results,Tryz.results117,go_sem,la,lb,bf,be,ah,b9,fr,Z,bg,fe,le]; rfl,?_⟩;exact⟨_,rfl,Fq.out.af zo,zi⟩
theorem XI (x y:Int) (w:Cc) (x0 : -9223372036854775808<=x) (x1:x<=9223372036854775807) (Z : -9223372036854775808<=y) (X:y<=9223372036854775807) (hy:y≠0) :
  Cb Ch 77 #[Cz Cv x,Cz Cv y] w fun e E=>∃v,e = Cg (Ck #[v,Cz Cv 0])/\FR E v ((x:Rat) / (y:Rat))/\zf w E:=by
 have fx:fits x:=jm x0 x1;have fy:fits y:=jm Z X;have f1:=fun E=>KH x E x0 x1;have f2:=fun E=>KH y E Z X;have mk:∀E u v,az E u x->az E v y->Cb Ch 117 #[u,v] E fun e T=>∃v,e = Cg (Ck #[v,Cz Cv 0])/\FR T v ((x:Rat) / (y:Rat))/\zf E T:=fun E u v h1 h2=>Gs E h1 h2 fx fy hy;clear x0 x1 Z X fx fy hy
 go_enter Tryz.func77,Tryz.ntmps77
 go_wp2_with fail
 refine(f1 _).mono ?_;rintro e w1 ⟨ce,rfl,H,st⟩;have B:=bA w st;have or:ai w1 w.heap.size 28 qE:=ai.ak st;clear st;obtain⟨br,bh,bg,bi,rfl⟩:=H.au;have J:=C5 H;clear H;go_wp2_with fail
 refine(f2 _).mono ?_;rintro e T ⟨bf,rfl,I,st⟩;have sk:=bA w1 st;replace B:=bS B sk;replace or:=or.ae sk;replace J:=C5 (J.out.ae sk);clear st sk;obtain⟨bt,bq,be,bl,rfl⟩:=I.au;have M:=C5 I;clear I;go_wp2_with fail
 refine(mk _ _ _ (J.out.af zo) (M.out.af zo)).mono ?_;rintro e w3 ⟨vq,rfl,N,st⟩;have sk:=bA T st;replace B:=bS B sk;replace or:=or.ae sk;replace J:=C5 (J.out.ae sk);replace M:=C5 (M.out.ae sk);clear st sk;obtain⟨ah,a9,b9,Y,fr,lr⟩:=or.s3;obtain⟨q1,q2,q3,q4,q5,q6,q7,q8,rfl⟩:=N.au;have Fq:=C5 N;clear N;go_wp2_with fail
 refine Ci (by simp[results,Tryz.results77,go_sem,ah,a9,b9,Y,fr,lr]; rfl) rfl ?_;exact⟨_,rfl,Fq.out.af zo,zi⟩
theorem j' (w:Cc) (Y:FR w va r) (hb:FR w vb s) (f:fits (r.num*s.den)) :
  Cb Ch 60 #[va,vb] w fun e E=>∃v,e = Cg v/\az E v (r.num*s.den)/\zf w E:=by
 have fa:=Y.fit;have fb:=hb.fit;obtain⟨a2,a3,a4,a6,a7,a8,rfl,na,da,-⟩:=Y.cj;obtain⟨b2,b3,b4,b6,b7,b8,rfl,a9,db,-⟩:=hb.cj
 have m1:∀E u v,az E u r.num->az E v s.den->Cb Ch 55 #[u,v] E fun e Z=>∃v,e = Cg (Ck #[v,Cz Cv 0])/\az Z v (r.num*s.den)/\zf E Z:=fun E u v h1 h2=>by
  have:=JX E h1 h2 fa.1 fb.2;rw[zK f,zG f]at this;exact this
 obtain⟨ga,T⟩:∃g,decide (r<0)=g:=⟨_,rfl⟩;obtain⟨gb,M⟩:∃g,decide (s<0)=g:=⟨_,rfl⟩;rw[T]at na|-;rw[M];have N:=C5 na;have J:=C5 db;clear T M na da a9 db fa fb Y hb f
 go_enter Tryz.func60,Tryz.ntmps60
 go_wp2_with fail
 refine(m1 _ _ _ (N.out.af zo) (J.out.af zo)).mono ?_;rintro e X ⟨vp,rfl,H,st⟩;have B:=bA w st;have kp:=kB w st;have oa:ai X w.heap.size 28 #[Cx ga,Cq a2 a3 a4,Cx false,Cq a6 a7 a8]:=ai.ak st;have ob:ai X (w.heap.size+1) 28 #[Cx gb,Cq b2 b3 b4,Cx false,Cq b6 b7 b8]:=ai.ak st;have or:ai X (w.heap.size+1+1) 26 #[Cx false,Cq none 0 0]:=ai.ak st;replace N:=C5 (N.out.af kp);replace J:=C5 (J.out.af kp);clear kp;clear st;obtain⟨p1,p2,p3,p4,rfl⟩:=H.au;have Fp:=C5 H;clear H;go_wp2_with fail
 refine(jJ _ (Fp.out.af zo)).mono ?_;rintro e Z ⟨vq,rfl,I,st⟩;have sk:=bA X st;replace B:=bS B sk;replace oa:=oa.ae sk;replace ob:=ob.ae sk;replace or:=or.ae sk;replace N:=C5 (N.out.ae sk);replace J:=C5 (J.out.ae sk);replace Fp:=C5 (Fp.out.ae sk);clear st sk;have la:=oa.lt;have lb:=ob.lt;obtain⟨b9,ah,fr,lr⟩:=or.s1;obtain⟨q1,q2,q3,q4,rfl⟩:=I.au;have Fq:=C5 I;clear I;go_wp2_with fail
 refine Ci (by simp[results,Tryz.results60,go_sem,la,lb,b9,ah,fr,lr]; rfl) rfl ?_;exact⟨_,rfl,Fq.out.af zo,zi⟩
theorem xi (w:Cc) (h:FR w v r):Cb Ch 58 #[v] w fun e E=>e = Cg (Cz Cv 0)/\zf w E:=JQ w h
theorem Qy (w:Cc) (h:el w v):Cb Ch 58 #[v] w fun e J=>e = Cg (Cz Cv 8)/\zf w J:=by
 obtain⟨H,M,gy,N,la,lb,rfl,I,E,hv⟩:=h;have:=KS H gy w I E;rw[YN,C8 hv]at this;exact this
theorem Gt (w:Cc) (ha:FR w va r) (hb:FR w vb s) (g1:fits (r.num*s.den)) (g2:fits (s.num*r.den)) (g3:fits (r.num*s.den+s.num*r.den)) (g4:fits (r.den*s.den)) :
  Cb Ch 154 #[va,vb] w fun e E=>∃u v,e = Cg (Ck #[u,v])/\az E u (r.num*s.den+s.num*r.den)/\az E v (r.den*s.den)/\zf w E:=by
 have fa:=ha.fit;have fb:=hb.fit
 have m2:∀E u v,az E u (r.den)->az E v (s.den)->Cb Ch 55 #[u,v] E fun e I=>∃v,e = Cg (Ck #[v,Cz Cv 0])/\az I v (r.den*s.den)/\zf E I:=fun E u v h1 h2=>by
  have:=JX E h1 h2 fa.2 fb.2;rw[zK g4,zG g4]at this;exact this
 have bq:∀E u v,FR E u r->FR E v s->Cb Ch 60 #[u,v] E fun e I=>∃v,e = Cg v/\az I v (r.num*s.den)/\zf E I:=fun E u v h1 h2=>j' E h1 h2 g1;have bt:∀E u v,FR E u s->FR E v r->Cb Ch 60 #[u,v] E fun e I=>∃v,e = Cg v/\az I v (s.num*r.den)/\zf E I:=fun E u v h1 h2=>j' E h1 h2 g2
 have ad:∀E u v,az E u (r.num*s.den)->az E v (s.num*r.den)->Cb Ch 155 #[u,v] E fun e I=>∃v,e = Cg (Ck #[v,Cz Cv 0])/\az I v (r.num*s.den+s.num*r.den)/\zf E I:=fun E u v h1 h2=>by
  have:=He E h1 h2 g1 g2;rw[zK g3,zG g3]at this;exact this
 have N:=ha;have a9:=hb;obtain⟨a2,a3,a4,a6,a7,a8,rfl,na,da,-⟩:=ha.cj;obtain⟨b2,b3,b4,b6,b7,b8,rfl,T,db,-⟩:=hb.cj;obtain⟨ga,bg⟩:∃g,decide (r<0)=g:=⟨_,rfl⟩;obtain⟨gb,b9⟩:∃g,decide (s<0)=g:=⟨_,rfl⟩;rw[bg]at na N|-;rw[b9]at T a9|-;have Fa:=C5 N;have Fb:=C5 a9;have be:=C5 na;have bf:=C5 T;have Y:=C5 da;have Z:=C5 db;clear bg b9 na da T db ha hb N a9 fa fb;clear g3 g4 g1 g2
 go_enter Tryz.func154,Tryz.ntmps154
 go_upto_region 1 with fail
 refine aj.dj w w [.o w.heap.size 28 #[Cx ga,Cq a2 a3 a4,Cx false,Cq a6 a7 a8],.o (w.heap.size+1) 28 #[Cx gb,Cq b2 b3 b4,Cx false,Cq b6 b7 b8],.s (w.heap.size+1+1) 26 #[Cx false,Cq none 0 0] 18 [9] aj.v1,.s (w.heap.size+1+1+1) 26 #[Cx false,Cq none 0 0] 19 [17] aj.v1] [2,5,6,9,14,17,18,19] [(2,kF),(5,kF),(6,kG 0),(9,kF),(14,kG 0),(17,kF)] [(2,dm (r.num*s.den)),(5,dm (s.num*r.den)),(6,bZ (r.num*s.den+s.num*r.den) 0),(9,dm (r.num*s.den+s.num*r.den)),(14,bZ (r.den*s.den) 0),(17,dm (r.den*s.den))] [(6,[(2,some 8),(5,some 11)]),(9,[(6,some 12)]),(17,[(14,some 20)]),(18,[(9,some 15)]),(19,[(17,some 23)]),(20,[(2,some 8),(5,some 11),(6,some 12),(9,some 15),(14,some 20),(17,some 23)])] [(9,[18]),(17,[19])] (by simp only[aX]; exact⟨zi,zo,zw,zw,zw,zw,trivial⟩) (fun N0 bh ah Q' H hQ=> ?_);clear bh;refine aj.aV 6 (fun _ _ _ h=>h.e.1.r3) ?_;refine aj.aV 7 (fun _ _ _ h=>h.e.2.1.r3) ?_;refine aj.sC H (fun D v' J h _=>bq J _ _ (Fa.out.af h.k) (Fb.out.af h.k)) ?_;rintro _ ⟨ci,dl,cY,cN,rfl⟩;refine aj.cW rfl ?_;refine aj.aV 9 (fun _ _ _ h=>h.e.2.1.r3) ?_;refine aj.aV 10 (fun _ _ _ h=>h.e.1.r3) ?_;refine aj.sC H (fun D v' J h _=>bt J _ _ (Fb.out.af h.k) (Fa.out.af h.k)) ?_;rintro _ ⟨dc,ec,ek,dk,rfl⟩;refine aj.cW rfl ?_;refine aj.sC H (fun D v' J _ M=>ad J _ _ (M (2,some 8) (.head _) rfl).2.2 (M (5,some 11) (.tail _ (.head _)) rfl).2.2) ?_;rintro _ ⟨cy,dP,dd,d9,rfl⟩;refine aj.cW rfl ?_
 repeat refine aj.aK _ ?_
 refine aj.sC H (fun D v' J _ M=>jJ J (M (6,some 12) (.head _) rfl).2.2.get) ?_;rintro _ ⟨N1,N2,N3,N4,rfl⟩;refine aj.cW rfl ?_;refine aj.aK 16 ?_;refine aj.aV 17 (fun _ _ _ h=>h.e.1.r3) ?_;refine aj.aK 18 ?_;refine aj.aV 19 (fun _ _ _ h=>h.e.2.1.r3) ?_;refine aj.sC H (fun D v' J h _=>m2 J _ _ (Y.out.af h.k) (Z.out.af h.k)) ?_;rintro _ ⟨dx,cx,dy,cg,rfl⟩;refine aj.cW rfl ?_
 repeat refine aj.aK _ ?_
 refine aj.sC H (fun D v' J _ M=>jJ J (M (14,some 20) (.head _) rfl).2.2.get) ?_;rintro _ ⟨D1,D2,D3,D4,rfl⟩;refine aj.cW rfl ?_;refine aj.sS H ?_;refine aj.sS H ?_;refine aj.sE (fun _ v' w1 B X hl _ _ M=> ?_);simp only[qB,qF]at hl;obtain⟨oa,ob,op,oq,-⟩:=hl;have op:ai w1 (w.heap.size+1+1) 26 #[Cx N1,Cq N2 N3 N4]:=op;have oq:ai w1 (w.heap.size+1+1+1) 26 #[Cx D1,Cq D2 D3 D4]:=oq;have FN:Hid (az w1 (.agg #[Cx N1,Cq N2 N3 N4]) (r.num*s.den+s.num*r.den)):=(M (9,some 15) (.tail _ (.tail _ (.tail _ (.head _)))) rfl).2.2;have FD:Hid (az w1 (.agg #[Cx D1,Cq D2 D3 D4]) (r.den*s.den)):=(M (17,some 23) (.tail _ (.tail _ (.tail _ (.tail _ (.tail _ (.head _)))))) rfl).2.2;replace Fa:=C5 (Fa.out.af X);replace Fb:=C5 (Fb.out.af X);replace be:=C5 (be.out.af X);replace Y:=C5 (Y.out.af X);replace bf:=C5 (bf.out.af X);replace Z:=C5 (Z.out.af X);clear M X;refine hQ _ _ ?_;clear hQ H Q' ah;have la:=oa.lt;have lb:=ob.lt;obtain⟨bl,bi⟩:=op.r1;have lp:=op.lt;obtain⟨ce,br⟩:=oq.r1;have lq:=oq.lt;go_wp2_with fail
 refine Ci (by simp[results,Tryz.results154,go_sem,la,lb,bl,bi,lp,ce,br,lq]; rfl) rfl ?_;exact⟨_,_,rfl,FN.out.af zo,FD.out.af zo,zi⟩
theorem Gu (w:Cc) (ha:FR w va r) (hb:FR w vb s) (g1:fits (r.num*s.den)) (g2:fits (s.num*r.den)) (g3:fits (r.num*s.den+s.num*r.den)) (g4:fits (r.den*s.den)) :
  Cb Ch 52 #[va,vb,.func (.func 154) #[] #[]] w fun e E=>∃v,e = Cg (Ck #[v,Cz Cv 0])/\FR E v (r+s)/\zf w E:=by
 have cl:∀E u v,FR E u r->FR E v s->Cb Ch 154 #[u,v] E fun e T=>∃u v,e = Cg (Ck #[u,v])/\az T u (r.num*s.den+s.num*r.den)/\az T v (r.den*s.den)/\zf E T:=fun E u v h1 h2=>Gt E h1 h2 g1 g2 g3 g4
 have rd:∀E u v,az E u (r.num*s.den+s.num*r.den)->az E v (r.den*s.den)->Cb Ch 92 #[u,v] E fun e T=>∃v,e = Cg v/\FR T v (r+s)/\zf E T:=fun E u v h1 h2=>by
  have:=kI E h1 h2 g3 g4 (jS r s);rw[XA]at this;exact this
 obtain⟨a1,a2,a3,a4,a5,a6,a7,a8,rfl⟩:=ha.au;obtain⟨b1,b2,b3,b4,b5,b6,b7,b8,rfl⟩:=hb.au;have N:=C5 ha;have J:=C5 hb;clear ha hb g3 g4 g1 g2
 go_enter_defers Tryz.func52,Tryz.ntmps52
 go_wp2_with fail
 refine(xi _ (N.out.af zo)).mono ?_;rintro e w1 ⟨rfl,st⟩;have B:=bA w st;have kp:=kB w st;have M:ai w1 w.heap.size 28 #[Cx a1,Cq a2 a3 a4,Cx a5,Cq a6 a7 a8]:=ai.ak st;have H:ai w1 (w.heap.size+1) 28 #[Cx b1,Cq b2 b3 b4,Cx b5,Cq b6 b7 b8]:=ai.ak st;have or:ai w1 (w.heap.size+1+1) 28 qE:=ai.ak st;have I:ai w1 (w.heap.size+1+1+1) 32 #[Cz Cv 0]:=ai.ak st;replace N:=C5 (N.out.af kp);replace J:=C5 (J.out.af kp);clear kp;clear st;go_wp2_with fail
 refine(xt _).mono ?_;rintro e T ⟨rfl,st⟩;have sk:=bA w1 st;replace B:=bS B sk;replace M:=M.ae sk;replace H:=H.ae sk;replace or:=or.ae sk;replace I:=I.ae sk;replace N:=C5 (N.out.ae sk);replace J:=C5 (J.out.ae sk);clear st sk;have la:=M.lt;obtain⟨ah,X,Z,b9⟩:=H.r3;have lb:=H.lt;have lr:=or.lt;have le:=I.lt;go_wp2_with fail
 refine(xi _ (J.out.af zo)).mono ?_;rintro e w3 ⟨rfl,st⟩;have sk:=bA T st;replace B:=bS B sk;replace M:=M.ae sk;replace H:=H.ae sk;replace or:=or.ae sk;replace I:=I.ae sk;replace N:=C5 (N.out.ae sk);replace J:=C5 (J.out.ae sk);clear st sk la ah X Z b9 lb lr le;go_wp2_with fail
 refine(xt _).mono ?_;rintro e w4 ⟨rfl,st⟩;have sk:=bA w3 st;replace B:=bS B sk;replace M:=M.ae sk;replace H:=H.ae sk;replace or:=or.ae sk;replace I:=I.ae sk;replace N:=C5 (N.out.ae sk);replace J:=C5 (J.out.ae sk);clear st sk;obtain⟨ce,bt,bg,bq⟩:=M.r3;have la:=M.lt;obtain⟨ah,X,Z,b9⟩:=H.r3;have lb:=H.lt;have lr:=or.lt;have le:=I.lt;go_wp2_with fail
 refine(cl _ _ _ (N.out.af zo) (J.out.af zo)).mono ?_;rintro e w5 ⟨vn,vd,rfl,be,a9,st⟩;have sk:=bA w4 st;replace B:=bS B sk;replace M:=M.ae sk;replace H:=H.ae sk;replace or:=or.ae sk;replace I:=I.ae sk;replace N:=C5 (N.out.ae sk);replace J:=C5 (J.out.ae sk);clear st sk ce bt bg bq la ah X Z b9 lb lr le;obtain⟨n1,n2,n3,n4,rfl⟩:=be.au;obtain⟨d1,d2,d3,d4,rfl⟩:=a9.au;have Fn:=C5 be;clear be;have Fd:=C5 a9;clear a9;go_wp2_with fail
 refine(rd _ _ _ (Fn.out.af zo) (Fd.out.af zo)).mono ?_;rintro e w6 ⟨vq,rfl,Y,st⟩;have sk:=bA w5 st;replace B:=bS B sk;replace M:=M.ae sk;replace H:=H.ae sk;replace or:=or.ae sk;replace I:=I.ae sk;replace N:=C5 (N.out.ae sk);replace J:=C5 (J.out.ae sk);replace Fn:=C5 (Fn.out.ae sk);replace Fd:=C5 (Fd.out.ae sk);clear st sk;have la:=M.lt;have lb:=H.lt;obtain⟨br,bi,bf,bh,fr,lr⟩:=or.s3;have bl:=I.q0;have fe:=I.fr;have le:=I.lt;obtain⟨q1,q2,q3,q4,q5,q6,q7,q8,rfl⟩:=Y.au;have Fq:=C5 Y;clear Y;go_wp2_with fail
 refine leaves_cons (f:=56) (args:=#[Cj (some ⟨w.heap.size+1+1+1,0,none⟩)]) C3 (by simp[go_sem]) ?_;refine(xA _ _).mono ?_;rintro e u' cg ⟨rfl,rfl,rfl⟩;refine⟨_,by simp[results,Tryz.results52,go_sem,la,lb,br,bi,bf,bh,fr,lr,bl,fe,le]; rfl,?_⟩;exact⟨_,rfl,Fq.out.af zo,zi⟩
theorem Gv (w:Cc) (M:FR w va r) (Y:FR w vb s) (hr:sz r i) (hs:sz s j) (hk:i+j<=4094) :
  Cb Ch 123 #[va,vb] w fun e E=>∃v,e = Cg (Ck #[v,Cz Cv 0])/\FR E v (r+s)/\zf w E:=by
 obtain⟨I,J,h3⟩:=jG hr hs;have g1:=yK I B_;have g2:=yK J B_;have g4:=yK h3 B_;have g3:=yK (qM I J) B_;have bo:∀E u v,FR E u r->FR E v s->Cb Ch 52 #[u,v,.func (.func 154) #[] #[]] E fun e w2=>∃v,e = Cg (Ck #[v,Cz Cv 0])/\FR w2 v (r+s)/\zf E w2:=fun E u v I J=>Gu E I J g1 g2 g3 g4;obtain⟨a1,a2,a3,a4,a5,a6,a7,a8,rfl⟩:=M.au;obtain⟨b1,b2,b3,b4,b5,b6,b7,b8,rfl⟩:=Y.au;have Fa:=C5 M;have N:=C5 Y;clear M Y hr hs hk g1 g2 g3 g4;clear I J h3
 go_enter Tryz.func123,Tryz.ntmps123
 go_wp2_with fail
 refine(bo _ _ _ (Fa.out.af zo) (N.out.af zo)).mono ?_;rintro e w1 ⟨vq,rfl,H,st⟩;have B:=bA w st;have X:=kB w st;have oa:ai w1 w.heap.size 28 #[Cx a1,Cq a2 a3 a4,Cx a5,Cq a6 a7 a8]:=ai.ak st;have ob:ai w1 (w.heap.size+1) 28 #[Cx b1,Cq b2 b3 b4,Cx b5,Cq b6 b7 b8]:=ai.ak st;have or:ai w1 (w.heap.size+1+1) 28 qE:=ai.ak st;replace Fa:=C5 (Fa.out.af X);replace N:=C5 (N.out.af X);clear X;clear st;have la:=oa.lt;have lb:=ob.lt;obtain⟨a9,Z,ah,T,fr,lr⟩:=or.s3;obtain⟨q1,q2,q3,q4,q5,q6,q7,q8,rfl⟩:=H.au;have Fq:=C5 H;clear H;go_wp2_with fail
 refine Ci (by simp[results,Tryz.results123,go_sem,la,lb,a9,Z,ah,T,fr,lr]; rfl) rfl ?_;exact⟨_,rfl,Fq.out.af zo,zi⟩
theorem Gw (w:Cc) (ha:FR w va r) (hb:FR w vb s) (g1:fits (r.num*s.den)) (g2:fits (s.num*r.den)) (g3:fits (r.num*s.den-s.num*r.den)) (g4:fits (r.den*s.den)) :
  Cb Ch 151 #[va,vb] w fun e E=>∃u v,e = Cg (Ck #[u,v])/\az E u (r.num*s.den-s.num*r.den)/\az E v (r.den*s.den)/\zf w E:=by
 have fa:=ha.fit;have fb:=hb.fit
 have m2:∀E u v,az E u (r.den)->az E v (s.den)->Cb Ch 55 #[u,v] E fun e I=>∃v,e = Cg (Ck #[v,Cz Cv 0])/\az I v (r.den*s.den)/\zf E I:=fun E u v h1 h2=>by
  have:=JX E h1 h2 fa.2 fb.2;rw[zK g4,zG g4]at this;exact this
 have bq:∀E u v,FR E u r->FR E v s->Cb Ch 60 #[u,v] E fun e I=>∃v,e = Cg v/\az I v (r.num*s.den)/\zf E I:=fun E u v h1 h2=>j' E h1 h2 g1;have bt:∀E u v,FR E u s->FR E v r->Cb Ch 60 #[u,v] E fun e I=>∃v,e = Cg v/\az I v (s.num*r.den)/\zf E I:=fun E u v h1 h2=>j' E h1 h2 g2
 have ad:∀E u v,az E u (r.num*s.den)->az E v (s.num*r.den)->Cb Ch 152 #[u,v] E fun e I=>∃v,e = Cg (Ck #[v,Cz Cv 0])/\az I v (r.num*s.den-s.num*r.den)/\zf E I:=fun E u v h1 h2=>by
  have:=Hg E h1 h2 g1 g2;rw[zK g3,zG g3]at this;exact this
 have N:=ha;have a9:=hb;obtain⟨a2,a3,a4,a6,a7,a8,rfl,na,da,-⟩:=ha.cj;obtain⟨b2,b3,b4,b6,b7,b8,rfl,T,db,-⟩:=hb.cj;obtain⟨ga,bg⟩:∃g,decide (r<0)=g:=⟨_,rfl⟩;obtain⟨gb,b9⟩:∃g,decide (s<0)=g:=⟨_,rfl⟩;rw[bg]at na N|-;rw[b9]at T a9|-;have Fa:=C5 N;have Fb:=C5 a9;have be:=C5 na;have bf:=C5 T;have Y:=C5 da;have Z:=C5 db;clear bg b9 na da T db ha hb N a9 fa fb;clear g3 g4 g1 g2
 go_enter Tryz.func151,Tryz.ntmps151
 go_upto_region 1 with fail
 refine aj.dj w w [.o w.heap.size 28 #[Cx ga,Cq a2 a3 a4,Cx false,Cq a6 a7 a8],.o (w.heap.size+1) 28 #[Cx gb,Cq b2 b3 b4,Cx false,Cq b6 b7 b8],.s (w.heap.size+1+1) 26 #[Cx false,Cq none 0 0] 18 [9] aj.v1,.s (w.heap.size+1+1+1) 26 #[Cx false,Cq none 0 0] 19 [17] aj.v1] [2,5,6,9,14,17,18,19] [(2,kF),(5,kF),(6,kG 0),(9,kF),(14,kG 0),(17,kF)] [(2,dm (r.num*s.den)),(5,dm (s.num*r.den)),(6,bZ (r.num*s.den-s.num*r.den) 0),(9,dm (r.num*s.den-s.num*r.den)),(14,bZ (r.den*s.den) 0),(17,dm (r.den*s.den))] [(6,[(2,some 8),(5,some 11)]),(9,[(6,some 12)]),(17,[(14,some 20)]),(18,[(9,some 15)]),(19,[(17,some 23)]),(20,[(2,some 8),(5,some 11),(6,some 12),(9,some 15),(14,some 20),(17,some 23)])] [(9,[18]),(17,[19])] (by simp only[aX]; exact⟨zi,zo,zw,zw,zw,zw,trivial⟩) (fun N0 bh ah Q' H hQ=> ?_);clear bh;refine aj.aV 6 (fun _ _ _ h=>h.e.1.r3) ?_;refine aj.aV 7 (fun _ _ _ h=>h.e.2.1.r3) ?_;refine aj.sC H (fun D v' J h _=>bq J _ _ (Fa.out.af h.k) (Fb.out.af h.k)) ?_;rintro _ ⟨ci,dl,cY,cN,rfl⟩;refine aj.cW rfl ?_;refine aj.aV 9 (fun _ _ _ h=>h.e.2.1.r3) ?_;refine aj.aV 10 (fun _ _ _ h=>h.e.1.r3) ?_;refine aj.sC H (fun D v' J h _=>bt J _ _ (Fb.out.af h.k) (Fa.out.af h.k)) ?_;rintro _ ⟨dc,ec,ek,dk,rfl⟩;refine aj.cW rfl ?_;refine aj.sC H (fun D v' J _ M=>ad J _ _ (M (2,some 8) (.head _) rfl).2.2 (M (5,some 11) (.tail _ (.head _)) rfl).2.2) ?_;rintro _ ⟨cy,dP,dd,d9,rfl⟩;refine aj.cW rfl ?_
 repeat refine aj.aK _ ?_
 refine aj.sC H (fun D v' J _ M=>jJ J (M (6,some 12) (.head _) rfl).2.2.get) ?_;rintro _ ⟨N1,N2,N3,N4,rfl⟩;refine aj.cW rfl ?_;refine aj.aK 16 ?_;refine aj.aV 17 (fun _ _ _ h=>h.e.1.r3) ?_;refine aj.aK 18 ?_;refine aj.aV 19 (fun _ _ _ h=>h.e.2.1.r3) ?_;refine aj.sC H (fun D v' J h _=>m2 J _ _ (Y.out.af h.k) (Z.out.af h.k)) ?_;rintro _ ⟨dx,cx,dy,cg,rfl⟩;refine aj.cW rfl ?_
 repeat refine aj.aK _ ?_
 refine aj.sC H (fun D v' J _ M=>jJ J (M (14,some 20) (.head _) rfl).2.2.get) ?_;rintro _ ⟨D1,D2,D3,D4,rfl⟩;refine aj.cW rfl ?_;refine aj.sS H ?_;refine aj.sS H ?_;refine aj.sE (fun _ v' w1 B X hl _ _ M=> ?_);simp only[qB,qF]at hl;obtain⟨oa,ob,op,oq,-⟩:=hl;have op:ai w1 (w.heap.size+1+1) 26 #[Cx N1,Cq N2 N3 N4]:=op;have oq:ai w1 (w.heap.size+1+1+1) 26 #[Cx D1,Cq D2 D3 D4]:=oq;have FN:Hid (az w1 (.agg #[Cx N1,Cq N2 N3 N4]) (r.num*s.den-s.num*r.den)):=(M (9,some 15) (.tail _ (.tail _ (.tail _ (.head _)))) rfl).2.2;have FD:Hid (az w1 (.agg #[Cx D1,Cq D2 D3 D4]) (r.den*s.den)):=(M (17,some 23) (.tail _ (.tail _ (.tail _ (.tail _ (.tail _ (.head _)))))) rfl).2.2;replace Fa:=C5 (Fa.out.af X);replace Fb:=C5 (Fb.out.af X);replace be:=C5 (be.out.af X);replace Y:=C5 (Y.out.af X);replace bf:=C5 (bf.out.af X);replace Z:=C5 (Z.out.af X);clear M X;refine hQ _ _ ?_;clear hQ H Q' ah;have la:=oa.lt;have lb:=ob.lt;obtain⟨bl,bi⟩:=op.r1;have lp:=op.lt;obtain⟨ce,br⟩:=oq.r1;have lq:=oq.lt;go_wp2_with fail
 refine Ci (by simp[results,Tryz.results151,go_sem,la,lb,bl,bi,lp,ce,br,lq]; rfl) rfl ?_;exact⟨_,_,rfl,FN.out.af zo,FD.out.af zo,zi⟩
theorem Gx (w:Cc) (ha:FR w va r) (hb:FR w vb s) (g1:fits (r.num*s.den)) (g2:fits (s.num*r.den)) (g3:fits (r.num*s.den-s.num*r.den)) (g4:fits (r.den*s.den)) :
  Cb Ch 52 #[va,vb,.func (.func 151) #[] #[]] w fun e E=>∃v,e = Cg (Ck #[v,Cz Cv 0])/\FR E v (r-s)/\zf w E:=by
 have cl:∀E u v,FR E u r->FR E v s->Cb Ch 151 #[u,v] E fun e T=>∃u v,e = Cg (Ck #[u,v])/\az T u (r.num*s.den-s.num*r.den)/\az T v (r.den*s.den)/\zf E T:=fun E u v h1 h2=>Gw E h1 h2 g1 g2 g3 g4
 have rd:∀E u v,az E u (r.num*s.den-s.num*r.den)->az E v (r.den*s.den)->Cb Ch 92 #[u,v] E fun e T=>∃v,e = Cg v/\FR T v (r-s)/\zf E T:=fun E u v h1 h2=>by
  have:=kI E h1 h2 g3 g4 (jS r s);rw[XB]at this;exact this
 obtain⟨a1,a2,a3,a4,a5,a6,a7,a8,rfl⟩:=ha.au;obtain⟨b1,b2,b3,b4,b5,b6,b7,b8,rfl⟩:=hb.au;have N:=C5 ha;have J:=C5 hb;clear ha hb g3 g4 g1 g2
 go_enter_defers Tryz.func52,Tryz.ntmps52
 go_wp2_with fail
 refine(xi _ (N.out.af zo)).mono ?_;rintro e w1 ⟨rfl,st⟩;have B:=bA w st;have kp:=kB w st;have M:ai w1 w.heap.size 28 #[Cx a1,Cq a2 a3 a4,Cx a5,Cq a6 a7 a8]:=ai.ak st;have H:ai w1 (w.heap.size+1) 28 #[Cx b1,Cq b2 b3 b4,Cx b5,Cq b6 b7 b8]:=ai.ak st;have or:ai w1 (w.heap.size+1+1) 28 qE:=ai.ak st;have I:ai w1 (w.heap.size+1+1+1) 32 #[Cz Cv 0]:=ai.ak st;replace N:=C5 (N.out.af kp);replace J:=C5 (J.out.af kp);clear kp;clear st;go_wp2_with fail
 refine(xt _).mono ?_;rintro e T ⟨rfl,st⟩;have sk:=bA w1 st;replace B:=bS B sk;replace M:=M.ae sk;replace H:=H.ae sk;replace or:=or.ae sk;replace I:=I.ae sk;replace N:=C5 (N.out.ae sk);replace J:=C5 (J.out.ae sk);clear st sk;have la:=M.lt;obtain⟨ah,X,Z,b9⟩:=H.r3;have lb:=H.lt;have lr:=or.lt;have le:=I.lt;go_wp2_with fail
 refine(xi _ (J.out.af zo)).mono ?_;rintro e w3 ⟨rfl,st⟩;have sk:=bA T st;replace B:=bS B sk;replace M:=M.ae sk;replace H:=H.ae sk;replace or:=or.ae sk;replace I:=I.ae sk;replace N:=C5 (N.out.ae sk);replace J:=C5 (J.out.ae sk);clear st sk la ah X Z b9 lb lr le;go_wp2_with fail
 refine(xt _).mono ?_;rintro e w4 ⟨rfl,st⟩;have sk:=bA w3 st;replace B:=bS B sk;replace M:=M.ae sk;replace H:=H.ae sk;replace or:=or.ae sk;replace I:=I.ae sk;replace N:=C5 (N.out.ae sk);replace J:=C5 (J.out.ae sk);clear st sk;obtain⟨ce,bt,bg,bq⟩:=M.r3;have la:=M.lt;obtain⟨ah,X,Z,b9⟩:=H.r3;have lb:=H.lt;have lr:=or.lt;have le:=I.lt;go_wp2_with fail
 refine(cl _ _ _ (N.out.af zo) (J.out.af zo)).mono ?_;rintro e w5 ⟨vn,vd,rfl,be,a9,st⟩;have sk:=bA w4 st;replace B:=bS B sk;replace M:=M.ae sk;replace H:=H.ae sk;replace or:=or.ae sk;replace I:=I.ae sk;replace N:=C5 (N.out.ae sk);replace J:=C5 (J.out.ae sk);clear st sk ce bt bg bq la ah X Z b9 lb lr le;obtain⟨n1,n2,n3,n4,rfl⟩:=be.au;obtain⟨d1,d2,d3,d4,rfl⟩:=a9.au;have Fn:=C5 be;clear be;have Fd:=C5 a9;clear a9;go_wp2_with fail
 refine(rd _ _ _ (Fn.out.af zo) (Fd.out.af zo)).mono ?_;rintro e w6 ⟨vq,rfl,Y,st⟩;have sk:=bA w5 st;replace B:=bS B sk;replace M:=M.ae sk;replace H:=H.ae sk;replace or:=or.ae sk;replace I:=I.ae sk;replace N:=C5 (N.out.ae sk);replace J:=C5 (J.out.ae sk);replace Fn:=C5 (Fn.out.ae sk);replace Fd:=C5 (Fd.out.ae sk);clear st sk;have la:=M.lt;have lb:=H.lt;obtain⟨br,bi,bf,bh,fr,lr⟩:=or.s3;have bl:=I.q0;have fe:=I.fr;have le:=I.lt;obtain⟨q1,q2,q3,q4,q5,q6,q7,q8,rfl⟩:=Y.au;have Fq:=C5 Y;clear Y;go_wp2_with fail
 refine leaves_cons (f:=56) (args:=#[Cj (some ⟨w.heap.size+1+1+1,0,none⟩)]) C3 (by simp[go_sem]) ?_;refine(xA _ _).mono ?_;rintro e u' cg ⟨rfl,rfl,rfl⟩;refine⟨_,by simp[results,Tryz.results52,go_sem,la,lb,br,bi,bf,bh,fr,lr,bl,fe,le]; rfl,?_⟩;exact⟨_,rfl,Fq.out.af zo,zi⟩
theorem U2 (w:Cc) (M:FR w va r) (Y:FR w vb s) (hr:sz r i) (hs:sz s j) (hk:i+j<=4094) :
  Cb Ch 119 #[va,vb] w fun e E=>∃v,e = Cg (Ck #[v,Cz Cv 0])/\FR E v (r-s)/\zf w E:=by
 obtain⟨I,J,h3⟩:=jG hr hs;have g1:=yK I B_;have g2:=yK J B_;have g4:=yK h3 B_;have g3:fits (r.num*s.den-s.num*r.den):=by rw[Int.sub_eq_add_neg]; exact yK (qM I (by rw[ZD]; exact J)) B_
 have bo:∀E u v,FR E u r->FR E v s->Cb Ch 52 #[u,v,.func (.func 151) #[] #[]] E fun e w2=>∃v,e = Cg (Ck #[v,Cz Cv 0])/\FR w2 v (r-s)/\zf E w2:=fun E u v I J=>Gx E I J g1 g2 g3 g4;obtain⟨a1,a2,a3,a4,a5,a6,a7,a8,rfl⟩:=M.au;obtain⟨b1,b2,b3,b4,b5,b6,b7,b8,rfl⟩:=Y.au;have Fa:=C5 M;have N:=C5 Y;clear M Y hr hs hk g1 g2 g3 g4;clear I J h3
 go_enter Tryz.func119,Tryz.ntmps119
 go_wp2_with fail
 refine(bo _ _ _ (Fa.out.af zo) (N.out.af zo)).mono ?_;rintro e w1 ⟨vq,rfl,H,st⟩;have B:=bA w st;have X:=kB w st;have oa:ai w1 w.heap.size 28 #[Cx a1,Cq a2 a3 a4,Cx a5,Cq a6 a7 a8]:=ai.ak st;have ob:ai w1 (w.heap.size+1) 28 #[Cx b1,Cq b2 b3 b4,Cx b5,Cq b6 b7 b8]:=ai.ak st;have or:ai w1 (w.heap.size+1+1) 28 qE:=ai.ak st;replace Fa:=C5 (Fa.out.af X);replace N:=C5 (N.out.af X);clear X;clear st;have la:=oa.lt;have lb:=ob.lt;obtain⟨a9,Z,ah,T,fr,lr⟩:=or.s3;obtain⟨q1,q2,q3,q4,q5,q6,q7,q8,rfl⟩:=H.au;have Fq:=C5 H;clear H;go_wp2_with fail
 refine Ci (by simp[results,Tryz.results119,go_sem,la,lb,a9,Z,ah,T,fr,lr]; rfl) rfl ?_;exact⟨_,rfl,Fq.out.af zo,zi⟩
theorem Gy (w:Cc) (ha:FR w va r) (hb:FR w vb s) (g3:fits (r.num*s.num)) (g4:fits (r.den*s.den)) :
  Cb Ch 53 #[va,vb] w fun e H=>∃u v,e = Cg (Ck #[u,v])/\az H u (r.num*s.num)/\az H v (r.den*s.den)/\zf w H:=by
 have fa:=ha.fit;have fb:=hb.fit
 have m2:∀H u v,az H u (r.den)->az H v (s.den)->Cb Ch 55 #[u,v] H fun e w2=>∃v,e = Cg (Ck #[v,Cz Cv 0])/\az w2 v (r.den*s.den)/\zf H w2:=fun H u v h1 h2=>by
  have:=JX H h1 h2 fa.2 fb.2;rw[zK g4,zG g4]at this;exact this
 have m1:∀H u v,az H u (r.num)->az H v (s.num)->Cb Ch 55 #[u,v] H fun e w2=>∃v,e = Cg (Ck #[v,Cz Cv 0])/\az w2 v (r.num*s.num)/\zf H w2:=fun H u v h1 h2=>by
  have:=JX H h1 h2 fa.1 fb.1;rw[zK g3,zG g3]at this;exact this
 have a9:=ha;have Y:=hb;obtain⟨a2,a3,a4,a6,a7,a8,rfl,na,da,-⟩:=ha.cj;obtain⟨b2,b3,b4,b6,b7,b8,rfl,M,db,-⟩:=hb.cj;obtain⟨ga,b9⟩:∃g,decide (r<0)=g:=⟨_,rfl⟩;obtain⟨gb,ah⟩:∃g,decide (s<0)=g:=⟨_,rfl⟩;rw[b9]at na a9|-;rw[ah]at M Y|-;have Fa:=C5 a9;have Fb:=C5 Y;have N:=C5 na;have X:=C5 M;have I:=C5 da;have J:=C5 db;clear b9 ah na da M db ha hb a9 Y fa fb;clear g3 g4
 go_enter Tryz.func53,Tryz.ntmps53
 go_upto_region 1 with fail
 refine aj.dj w w [.o w.heap.size 28 #[Cx ga,Cq a2 a3 a4,Cx false,Cq a6 a7 a8],.o (w.heap.size+1) 28 #[Cx gb,Cq b2 b3 b4,Cx false,Cq b6 b7 b8],.s (w.heap.size+1+1) 26 #[Cx false,Cq none 0 0] 16 [7] aj.v1,.s (w.heap.size+1+1+1) 26 #[Cx false,Cq none 0 0] 17 [15] aj.v1] [4,7,12,15,16,17] [(4,kG 0),(7,kF),(12,kG 0),(15,kF)] [(4,bZ (r.num*s.num) 0),(7,dm (r.num*s.num)),(12,bZ (r.den*s.den) 0),(15,dm (r.den*s.den))] [(7,[(4,some 10)]),(15,[(12,some 18)]),(16,[(7,some 13)]),(17,[(15,some 21)]),(18,[(4,some 10),(7,some 13),(12,some 18),(15,some 21)])] [(7,[16]),(15,[17])] (by simp only[aX]; exact⟨zi,zo,zw,zw,zw,zw,trivial⟩) (fun N0 bg be Q' E hQ=> ?_);clear bg;refine aj.aK 6 ?_;refine aj.aV 7 (fun _ _ _ h=>h.e.1.r3) ?_;refine aj.aK 8 ?_;refine aj.aV 9 (fun _ _ _ h=>h.e.2.1.r3) ?_;refine aj.sC E (fun D v' T h _=>m1 T _ _ (N.out.af h.k) (X.out.af h.k)) ?_;rintro _ ⟨br,cy,bt,ce,rfl⟩;refine aj.aD (b:=⟨#[_,_,_,_,_,_,_,_,_,_,_,_,_,_,_,_,_,_,_,_,_,_],_⟩) rfl ?_
 repeat refine aj.aK _ ?_
 refine aj.sC E (fun D v' T _ hf=>jJ T (hf (4,some 10) (.head _) rfl).2.2.get) ?_;rintro _ ⟨N1,N2,N3,N4,rfl⟩;refine aj.aD (b:=⟨#[_,_,_,_,_,_,_,_,_,_,_,_,_,_,_,_,_,_,_,_,_,_],_⟩) rfl ?_;refine aj.aK 14 ?_;refine aj.aV 15 (fun _ _ _ h=>h.e.1.r3) ?_;refine aj.aK 16 ?_;refine aj.aV 17 (fun _ _ _ h=>h.e.2.1.r3) ?_;refine aj.sC E (fun D v' T h _=>m2 T _ _ (I.out.af h.k) (J.out.af h.k)) ?_;rintro _ ⟨bq,ci,cx,cg,rfl⟩;refine aj.aD (b:=⟨#[_,_,_,_,_,_,_,_,_,_,_,_,_,_,_,_,_,_,_,_,_,_],_⟩) rfl ?_
 repeat refine aj.aK _ ?_
 refine aj.sC E (fun D v' T _ hf=>jJ T (hf (12,some 18) (.head _) rfl).2.2.get) ?_;rintro _ ⟨D1,D2,D3,D4,rfl⟩;refine aj.aD (b:=⟨#[_,_,_,_,_,_,_,_,_,_,_,_,_,_,_,_,_,_,_,_,_,_],_⟩) rfl ?_;refine aj.sS E ?_;refine aj.sS E ?_;refine aj.sE (fun _ v' w1 B Z hl _ _ hf=> ?_);simp only[qB,qF]at hl;obtain⟨oa,ob,op,oq,-⟩:=hl;have op:ai w1 (w.heap.size+1+1) 26 #[Cx N1,Cq N2 N3 N4]:=op;have oq:ai w1 (w.heap.size+1+1+1) 26 #[Cx D1,Cq D2 D3 D4]:=oq;have FN:Hid (az w1 (.agg #[Cx N1,Cq N2 N3 N4]) (r.num*s.num)):=(hf (7,some 13) (.tail _ (.head _)) rfl).2.2;have FD:Hid (az w1 (.agg #[Cx D1,Cq D2 D3 D4]) (r.den*s.den)):=(hf (15,some 21) (.tail _ (.tail _ (.tail _ (.head _)))) rfl).2.2;replace Fa:=C5 (Fa.out.af Z);replace Fb:=C5 (Fb.out.af Z);replace N:=C5 (N.out.af Z);replace I:=C5 (I.out.af Z);replace X:=C5 (X.out.af Z);replace J:=C5 (J.out.af Z);clear hf Z;refine hQ _ _ ?_;clear hQ E Q' be;have la:=oa.lt;have lb:=ob.lt;obtain⟨bi,bh⟩:=op.r1;have lp:=op.lt;obtain⟨bf,bl⟩:=oq.r1;have lq:=oq.lt;go_wp2_with fail
 refine Ci (by simp[results,Tryz.results53,go_sem,la,lb,bi,bh,lp,bf,bl,lq]; rfl) rfl ?_;exact⟨_,_,rfl,FN.out.af zo,FD.out.af zo,zi⟩
theorem Gz (w:Cc) (ha:FR w va r) (hb:FR w vb s) (g3:fits (r.num*s.num)) (g4:fits (r.den*s.den)) :
  Cb Ch 52 #[va,vb,.func (.func 53) #[] #[]] w fun e E=>∃v,e = Cg (Ck #[v,Cz Cv 0])/\FR E v (r*s)/\zf w E:=by
 have cl:∀E u v,FR E u r->FR E v s->Cb Ch 53 #[u,v] E fun e T=>∃u v,e = Cg (Ck #[u,v])/\az T u (r.num*s.num)/\az T v (r.den*s.den)/\zf E T:=fun E u v h1 h2=>Gy E h1 h2 g3 g4
 have rd:∀E u v,az E u (r.num*s.num)->az E v (r.den*s.den)->Cb Ch 92 #[u,v] E fun e T=>∃v,e = Cg v/\FR T v (r*s)/\zf E T:=fun E u v h1 h2=>by
  have:=kI E h1 h2 g3 g4 (jS r s);rw[Xz]at this;exact this
 obtain⟨a1,a2,a3,a4,a5,a6,a7,a8,rfl⟩:=ha.au;obtain⟨b1,b2,b3,b4,b5,b6,b7,b8,rfl⟩:=hb.au;have N:=C5 ha;have J:=C5 hb;clear ha hb g3 g4
 go_enter_defers Tryz.func52,Tryz.ntmps52
 go_wp2_with fail
 refine(xi _ (N.out.af zo)).mono ?_;rintro e w1 ⟨rfl,st⟩;have B:=bA w st;have kp:=kB w st;have M:ai w1 w.heap.size 28 #[Cx a1,Cq a2 a3 a4,Cx a5,Cq a6 a7 a8]:=ai.ak st;have H:ai w1 (w.heap.size+1) 28 #[Cx b1,Cq b2 b3 b4,Cx b5,Cq b6 b7 b8]:=ai.ak st;have or:ai w1 (w.heap.size+1+1) 28 qE:=ai.ak st;have I:ai w1 (w.heap.size+1+1+1) 32 #[Cz Cv 0]:=ai.ak st;replace N:=C5 (N.out.af kp);replace J:=C5 (J.out.af kp);clear kp;clear st;go_wp2_with fail
 refine(xt _).mono ?_;rintro e T ⟨rfl,st⟩;have sk:=bA w1 st;replace B:=bS B sk;replace M:=M.ae sk;replace H:=H.ae sk;replace or:=or.ae sk;replace I:=I.ae sk;replace N:=C5 (N.out.ae sk);replace J:=C5 (J.out.ae sk);clear st sk;have la:=M.lt;obtain⟨ah,X,Z,b9⟩:=H.r3;have lb:=H.lt;have lr:=or.lt;have le:=I.lt;go_wp2_with fail
 refine(xi _ (J.out.af zo)).mono ?_;rintro e w3 ⟨rfl,st⟩;have sk:=bA T st;replace B:=bS B sk;replace M:=M.ae sk;replace H:=H.ae sk;replace or:=or.ae sk;replace I:=I.ae sk;replace N:=C5 (N.out.ae sk);replace J:=C5 (J.out.ae sk);clear st sk la ah X Z b9 lb lr le;go_wp2_with fail
 refine(xt _).mono ?_;rintro e w4 ⟨rfl,st⟩;have sk:=bA w3 st;replace B:=bS B sk;replace M:=M.ae sk;replace H:=H.ae sk;replace or:=or.ae sk;replace I:=I.ae sk;replace N:=C5 (N.out.ae sk);replace J:=C5 (J.out.ae sk);clear st sk;obtain⟨ce,bt,bg,bq⟩:=M.r3;have la:=M.lt;obtain⟨ah,X,Z,b9⟩:=H.r3;have lb:=H.lt;have lr:=or.lt;have le:=I.lt;go_wp2_with fail
 refine(cl _ _ _ (N.out.af zo) (J.out.af zo)).mono ?_;rintro e w5 ⟨vn,vd,rfl,be,a9,st⟩;have sk:=bA w4 st;replace B:=bS B sk;replace M:=M.ae sk;replace H:=H.ae sk;replace or:=or.ae sk;replace I:=I.ae sk;replace N:=C5 (N.out.ae sk);replace J:=C5 (J.out.ae sk);clear st sk ce bt bg bq la ah X Z b9 lb lr le;obtain⟨n1,n2,n3,n4,rfl⟩:=be.au;obtain⟨d1,d2,d3,d4,rfl⟩:=a9.au;have Fn:=C5 be;clear be;have Fd:=C5 a9;clear a9;go_wp2_with fail
 refine(rd _ _ _ (Fn.out.af zo) (Fd.out.af zo)).mono ?_;rintro e w6 ⟨vq,rfl,Y,st⟩;have sk:=bA w5 st;replace B:=bS B sk;replace M:=M.ae sk;replace H:=H.ae sk;replace or:=or.ae sk;replace I:=I.ae sk;replace N:=C5 (N.out.ae sk);replace J:=C5 (J.out.ae sk);replace Fn:=C5 (Fn.out.ae sk);replace Fd:=C5 (Fd.out.ae sk);clear st sk;have la:=M.lt;have lb:=H.lt;obtain⟨br,bi,bf,bh,fr,lr⟩:=or.s3;have bl:=I.q0;have fe:=I.fr;have le:=I.lt;obtain⟨q1,q2,q3,q4,q5,q6,q7,q8,rfl⟩:=Y.au;have Fq:=C5 Y;clear Y;go_wp2_with fail
 refine leaves_cons (f:=56) (args:=#[Cj (some ⟨w.heap.size+1+1+1,0,none⟩)]) C3 (by simp[go_sem]) ?_;refine(xA _ _).mono ?_;rintro e u' cg ⟨rfl,rfl,rfl⟩;refine⟨_,by simp[results,Tryz.results52,go_sem,la,lb,br,bi,bf,bh,fr,lr,bl,fe,le]; rfl,?_⟩;exact⟨_,rfl,Fq.out.af zo,zi⟩
theorem GA (w:Cc) (I:FR w va r) (X:FR w vb s) (T:sz r i) (hs:sz s j) (Z:i+j<=4095) :
  Cb Ch 20 #[va,vb] w fun e E=>∃v,e = Cg (Ck #[v,Cz Cv 0])/\FR E v (r*s)/\zf w E:=by
 have d1:zh (r.den:Int)<=bp i:=by rw[xH]; exact T.2
 have d2:zh (s.den:Int)<=bp j:=by rw[xH]; exact hs.2
 have g3:=yK (yv T.1 hs.1) Z;have g4:=yK (yv d1 d2) Z;have bo:∀E u v,FR E u r->FR E v s->Cb Ch 52 #[u,v,.func (.func 53) #[] #[]] E fun e w2=>∃v,e = Cg (Ck #[v,Cz Cv 0])/\FR w2 v (r*s)/\zf E w2:=fun E u v h1 h2=>Gz E h1 h2 g3 g4;obtain⟨a1,a2,a3,a4,a5,a6,a7,a8,rfl⟩:=I.au;obtain⟨b1,b2,b3,b4,b5,b6,b7,b8,rfl⟩:=X.au;have Fa:=C5 I;have J:=C5 X;clear I X T hs Z g3 g4;clear d1 d2
 go_enter Tryz.func20,Tryz.ntmps20
 go_wp2_with fail
 refine(bo _ _ _ (Fa.out.af zo) (J.out.af zo)).mono ?_;rintro e w1 ⟨vq,rfl,H,st⟩;have B:=bA w st;have N:=kB w st;have oa:ai w1 w.heap.size 28 #[Cx a1,Cq a2 a3 a4,Cx a5,Cq a6 a7 a8]:=ai.ak st;have ob:ai w1 (w.heap.size+1) 28 #[Cx b1,Cq b2 b3 b4,Cx b5,Cq b6 b7 b8]:=ai.ak st;have or:ai w1 (w.heap.size+1+1) 28 qE:=ai.ak st;replace Fa:=C5 (Fa.out.af N);replace J:=C5 (J.out.af N);clear N;clear st;have la:=oa.lt;have lb:=ob.lt;obtain⟨a9,Y,ah,M,fr,lr⟩:=or.s3;obtain⟨q1,q2,q3,q4,q5,q6,q7,q8,rfl⟩:=H.au;have Fq:=C5 H;clear H;go_wp2_with fail
 refine Ci (by simp[results,Tryz.results20,go_sem,la,lb,a9,Y,ah,M,fr,lr]; rfl) rfl ?_;exact⟨_,rfl,Fq.out.af zo,zi⟩
theorem U3 (w:Cc) (ha:FR w va r) (hb:FR w vb s) (hr:sz r i) (hs:sz s j) (hk:i+j<=4095) :
  Cb Ch 21 #[va,vb] w fun e E=>e = Cg (Ck #[Cz Cv (yJ r s),Cz Cv 0])/\zf w E:=by
 obtain⟨Y,Z,h3⟩:=jG hr hs;have g1:=yK Y hk;have g2:=yK Z hk;have bi:∀E u v,FR E u r->FR E v s->Cb Ch 60 #[u,v] E fun e X=>∃v,e = Cg v/\az X v (r.num*s.den)/\zf E X:=fun E u v Y Z=>j' E Y Z g1;have bt:∀E u v,FR E u s->FR E v r->Cb Ch 60 #[u,v] E fun e X=>∃v,e = Cg v/\az X v (s.num*r.den)/\zf E X:=fun E u v Y Z=>j' E Y Z g2
 have cm:∀E v u,az E v (r.num*s.den)->az E u (s.num*r.den)->Cb Ch 59 #[v,u] E fun e X=>e = Cg (Ck #[Cz Cv (yJ r s),Cz Cv 0])/\zf E X:=fun E v u Y Z=>by
  have:=Gl E Y Z g1 g2;rw[ZC]at this;exact this
 obtain⟨c,hc⟩:∃c,yJ r s=c:=⟨_,rfl⟩;rw[hc]at cm|-;obtain⟨a1,a2,a3,a4,a5,a6,a7,a8,rfl⟩:=ha.au;obtain⟨b1,b2,b3,b4,b5,b6,b7,b8,rfl⟩:=hb.au;have M:=C5 ha;have J:=C5 hb;clear ha hb hr hs hk g1 g2 Y Z h3 hc
 go_enter_defers Tryz.func21,Tryz.ntmps21
 go_wp2_with fail
 refine(xi _ (M.out.af zo)).mono ?_;rintro e w1 ⟨rfl,st⟩;have B:=bA w st;have kp:=kB w st;have T:ai w1 w.heap.size 28 #[Cx a1,Cq a2 a3 a4,Cx a5,Cq a6 a7 a8]:=ai.ak st;have N:ai w1 (w.heap.size+1) 28 #[Cx b1,Cq b2 b3 b4,Cx b5,Cq b6 b7 b8]:=ai.ak st;have I:ai w1 (w.heap.size+1+1) 32 #[Cz Cv 0]:=ai.ak st;replace M:=C5 (M.out.af kp);replace J:=C5 (J.out.af kp);clear kp;clear st;go_wp2_with fail
 refine(xt _).mono ?_;rintro e X ⟨rfl,st⟩;have sk:=bA w1 st;replace B:=bS B sk;replace T:=T.ae sk;replace N:=N.ae sk;replace I:=I.ae sk;replace M:=C5 (M.out.ae sk);replace J:=C5 (J.out.ae sk);clear st sk;have la:=T.lt;obtain⟨b9,a9,ah,be⟩:=N.r3;have lb:=N.lt;have le:=I.lt;go_wp2_with fail
 refine(xi _ (J.out.af zo)).mono ?_;rintro e w3 ⟨rfl,st⟩;have sk:=bA X st;replace B:=bS B sk;replace T:=T.ae sk;replace N:=N.ae sk;replace I:=I.ae sk;replace M:=C5 (M.out.ae sk);replace J:=C5 (J.out.ae sk);clear st sk la b9 a9 ah be lb le;go_wp2_with fail
 refine(xt _).mono ?_;rintro e w4 ⟨rfl,st⟩;have sk:=bA w3 st;replace B:=bS B sk;replace T:=T.ae sk;replace N:=N.ae sk;replace I:=I.ae sk;replace M:=C5 (M.out.ae sk);replace J:=C5 (J.out.ae sk);clear st sk;obtain⟨ce,br,bg,bq⟩:=T.r3;have la:=T.lt;obtain⟨b9,a9,ah,be⟩:=N.r3;have lb:=N.lt;have le:=I.lt;have ze:w.heap.size+1+1<w4.heap.size:=I.lt;have cg:=B.size
 go_upto_region 4 with fail
 refine aj.dj w w4 [.o w.heap.size 28 #[Cx a1,Cq a2 a3 a4,Cx a5,Cq a6 a7 a8],.o (w.heap.size+1) 28 #[Cx b1,Cq b2 b3 b4,Cx b5,Cq b6 b7 b8],.s (w.heap.size+1+1) 32 #[Cz Cv 0] 10 [] (aj.vx #[Cz Cv 0])] [2,5,6,10] [(2,kF),(5,kF),(6,fun z_=>z_ = Ck #[Cz Cv c,Cz Cv 0])] [(2,dm (r.num*s.den)),(5,dm (s.num*r.den))] [(6,[(2,some 14),(5,some 17)]),(10,[(6,some 18)]),(11,[(2,some 14),(5,some 17),(6,some 18)])] [] (by simp only[aX]; exact⟨zi,zo,zw,zw,zw,trivial⟩) (fun N0 bh bf Q' H hQ=> ?_);clear ce br bg bq la b9 a9 ah be lb le;clear bh;refine aj.aV 12 (fun _ _ _ h=>h.e.1.r3) ?_;refine aj.aV 13 (fun _ _ _ h=>h.e.2.1.r3) ?_;refine aj.sC H (fun D v' W' h _=>bi W' _ _ (M.out.af h.k) (J.out.af h.k)) ?_;rintro _ ⟨x1,x2,x3,x4,rfl⟩;refine aj.aD (b:=⟨#[_,_,_,_,_,_,_,_,_,_,_,_,_,_,_,_,_,_,_,_,_],_⟩) rfl ?_;refine aj.aV 15 (fun _ _ _ h=>h.e.2.1.r3) ?_;refine aj.aV 16 (fun _ _ _ h=>h.e.1.r3) ?_;refine aj.sC H (fun D v' W' h _=>bt W' _ _ (J.out.af h.k) (M.out.af h.k)) ?_;rintro _ ⟨y1,y2,y3,y4,rfl⟩;refine aj.aD (b:=⟨#[_,_,_,_,_,_,_,_,_,_,_,_,_,_,_,_,_,_,_,_,_],_⟩) rfl ?_;refine aj.sV H (fun D v' W' _ hf=>cm W' _ _ (hf (2,some 14) (.head _) rfl).2.2 (hf (5,some 17) (.tail _ (.head _)) rfl).2.2) ?_;refine aj.aD (b:=⟨#[_,_,_,_,_,_,_,_,_,_,_,_,_,_,_,_,_,_,_,_,_],_⟩) rfl ?_
 repeat refine aj.aK _ ?_
 refine aj.sS H ?_;refine aj.sE (fun _ v' w5 B jk hl _ _ hf=> ?_);simp only[qB,qF]at hl;obtain⟨T,N,I,-⟩:=hl;have I:ai w5 (w.heap.size+1+1) 32 #[Cz Cv 0]:=I;replace M:=C5 (M.out.af jk);replace J:=C5 (J.out.af jk);clear hf jk;refine hQ _ _ ?_;clear hQ H Q' bf;have la:=T.lt;have lb:=N.lt;have bl:=I.q0;have le:=I.lt;go_wp2_with fail
 refine leaves_cons (f:=56) (args:=#[Cj (some ⟨w.heap.size+1+1,0,none⟩)]) C3 (by simp[go_sem]) ?_;refine(xA _ _).mono ?_;rintro e u' ci ⟨rfl,rfl,rfl⟩;refine⟨_,by simp[results,Tryz.results21,go_sem,la,lb,bl,le]; rfl,?_⟩;exact⟨rfl,zi⟩
def Vc (w:Cc) (b o:Nat) (l:List (Int×Int)):Prop:=∀t,t<l.length->w.cell? ⟨b,o+t*2,none⟩=some (Cz Cv (l.getD t (0,0)).1)/\w.cell? ⟨b,o+t*2+1,none⟩=some (Cz Cv (l.getD t (0,0)).2)
def bJ (w:Cc) (v:Value) (l:List (Int×Int)):Prop:=
 (∀k,-9223372036854775808<=(l.getD k (0,0)).1/\(l.getD k (0,0)).1<=9223372036854775807/\-9223372036854775808<=(l.getD k (0,0)).2/\(l.getD k (0,0)).2<=9223372036854775807)/\
 ∃ao cap,v = Cq ao l.length cap/\l.length<=cap/\(l≠ []->∃b o,ao=some ⟨b,o,none⟩/\b<w.heap.size/\Vc w b o l)
theorem bJ.ae {I:Cc} (h:bJ w v l) (H:zf w I):bJ I v l:=by
 obtain⟨h0,ao,cap,rfl,M,N⟩:=h;refine⟨h0,ao,cap,rfl,M,fun J=> ?_⟩;obtain⟨b,o,rfl,E,hc⟩:=N J;exact⟨b,o,rfl,Nat.lt_of_lt_of_le E H.size,fun t ht=>⟨(H.cell (p:=⟨b,o+t*2,none⟩) E).trans (hc t ht).1,(H.cell (p:=⟨b,o+t*2+1,none⟩) E).trans (hc t ht).2⟩⟩
theorem bJ.au (h:bJ w v l):∃ao cap,v = Cq ao l.length cap:=by obtain⟨_,ao,cap,e,_⟩:=h; exact⟨ao,cap,e⟩
theorem bJ.cells {ao:Option Addr} {n cap:Nat} (h:bJ w (Cq ao n cap) l):n=l.length/\n<=cap/\(0<n->∃b o,ao=some ⟨b,o,none⟩/\b<w.heap.size/\Vc w b o l):=by
 obtain⟨_,H,E,e,M,T⟩:=h
 injection e with X I N
 subst X I N;refine⟨rfl,M,fun J=>T ?_⟩;rintro rfl
 cases J
def qh (p:Int×Int):Prop:= -1048576<=p.1/\p.1<=1048576/\-1048576<=p.2/\p.2<=1048576
instance (p:Int×Int):Decidable (qh p):=by unfold qh; infer_instance
def zQ (l:List (Int×Int)):Int:=if 200<l.length then 4 else if ∀p∈l,qh p then 0 else 8
theorem Uq (h:∀k,k<l.length->qh (l.getD k (0,0))):∀p∈l,qh p:=by
 intro p H;obtain⟨k,E,e⟩:=List.getElem_of_mem H;have:=h k E;simp[List.getD,E,e]at this;exact this
theorem Ur {k:Nat} (E:k<l.length) (h:¬qh (l.getD k (0,0))):¬∀p∈l,qh p:=by
 intro H;apply h
 simp only[List.getD,List.getElem?_eq_getElem E,Option.getD_some];exact H _ (List.getElem_mem E)
theorem ZJ (m y:Int):(if m<y then y else m)=max m y:=by split<;>omega
theorem Vd {P:Program} (E:Array TypeId) (t:TypeId) (x y z u:Int) (w:Cc):(Builtin.max_ E t #[Cz Cv x,Cz Cv y,Cz Cv z,Cz Cv u]).run P w = .ok (Cz Cv (max (max (max x y) z) u)) w:=by
 rw[<- ZJ,<- ZJ,<- ZJ]
 by_cases h1:x<y<;>simp only[h1,if_true,if_false]<;>(first | (by_cases h2:y<z<;>simp[Builtin.max_,Builtin.max2,go_sem,h1,h2]<;>split<;>simp_all) | (by_cases h2:x<z<;>simp[Builtin.max_,Builtin.max2,go_sem,h1,h2]<;>split<;>simp_all))
theorem xX (w:Cc) (hv:bJ w v l) (hl:l.length<=1000) :
  Cb Ch 37 #[v] w fun e Y=>e = Cg (Cz Cv (zQ l))/\zf w Y:=by
 have a9:=hv.1;obtain⟨ao,cap,rfl⟩:=hv.au;obtain⟨-,h1,h2⟩:=hv.cells;obtain⟨n,hn⟩:∃n,l.length=n:=⟨_,rfl⟩;have H:=C5 hn;have bi:=C5 a9;rw[hn]at h1 h2 hl|-;clear hv hn a9
 by_cases hg:200<n
 .
  have E:Hid (zQ l=4):=C7 (by rw[H.out]; exact hg)
  go_enter Tryz.func37,Tryz.ntmps37
  go_wp2
  go_returns
  exact⟨yT E.out.symm,zi⟩
 .
  have E:Hid (zQ l=if ∀p∈l,qh p then 0 else 8):=C8 (by rw[H.out]; exact hg)
  go_enter Tryz.func37,Tryz.ntmps37
  go_wp2
  go_loopw [4,10] (fun _ kk wr=>∃k:Nat,k<=n/\kk = Cz Cv k/\(∀t,t<k->qh (l.getD t (0,0)))/\Below w.heap.size w wr) (fun _ kk _=>(n-(intOf kk).toNat))
  case atStart=>exact⟨0,Nat.zero_le _,rfl,(fun _ h=>by cases h),Below.refl _ _⟩
  case round=>
   obtain⟨k,hk,rfl,J,X⟩:=hrel;have HB:=C5 X;have HA:=C5 J;have zb:=X.size
   rcases Nat.lt_or_ge k n with h3 | h3
   .
    obtain⟨b,o,rfl,ah,hc⟩:=h2 B_;obtain⟨bf,b9,bh,bq⟩:=bi.out k;obtain⟨x,hx⟩:∃x,(l.getD k (0,0)).1=x:=⟨_,rfl⟩;obtain⟨y,hy⟩:∃x,(l.getD k (0,0)).2=x:=⟨_,rfl⟩;rw[hx]at bf b9;rw[hy]at bh bq;have c1:wr.cell? ⟨b,o+k*2,none⟩=some (Cz Cv x):=by rw[<- hx]; exact(X.cell (p:=⟨b,o+k*2,none⟩) ah).trans (hc k (by rw[H.out]; omega)).1
    have c2:wr.cell? ⟨b,o+k*2+1,none⟩=some (Cz Cv y):=by rw[<- hy]; exact(X.cell (p:=⟨b,o+k*2+1,none⟩) ah).trans (hc k (by rw[H.out]; omega)).2
    have HX:=C5 (C6 hx hy);clear hc h2 J hx hy X;obtain⟨nx,N⟩:∃z,wrap64 (-x)=z:=⟨_,rfl⟩;obtain⟨ny,T⟩:∃z,wrap64 (-y)=z:=⟨_,rfl⟩;obtain⟨M,hM⟩:∃M,max (max (max x nx) y) ny=M:=⟨_,rfl⟩;obtain⟨mm,bg⟩:∃z,(if y<x then y else x)=z:=⟨_,rfl⟩;have be:∀Y:Cc,(Builtin.max_ #[2,2,2,2] 2 #[Cz Cv x,Cz Cv nx,Cz Cv y,Cz Cv ny]).run Ch Y = .ok (Cz Cv M) Y:=fun Y=>by rw[<- hM]; exact Vd _ _ _ _ _ _ Y
    have F:Hid (qh (x,y)↔¬1048576<M/\¬mm < -1048576):=by
     show _↔_
     rw[<- hM,<- bg,<- N,<- T];unfold qh wrap64;dsimp only
     constructor
     . rintro ⟨q1,q2,q3,q4⟩; split<;>omega
     . rintro ⟨q1,q2⟩; split at q2<;>omega
    clear hM
    have I:¬qh (x,y)->Hid (zQ l=8):=fun Z=>by
     show zQ l=8
     rw[E.out,C8];refine Ur (k:=k) (by rw[H.out]; exact h3) ?_;have e:l.getD k (0,0)=(x,y):=Prod.ext HX.out.1 HX.out.2;rw[e]; exact Z
    by_cases a1:1048576<M
    .
     have BB:=I (fun h=>(F.out.1 h).1 a1);clear I
     go_wp2
     go_returns
     exact⟨yT BB.out.symm,HB.out.alloc zb _⟩
    by_cases a2:mm < -1048576
    .
     have BB:=I (fun h=>(F.out.1 h).2 a2);clear I
     go_wp2
     go_returns
     exact⟨yT BB.out.symm,HB.out.alloc zb _⟩
    have HQ:=C5 (F.out.2 ⟨a1,a2⟩);have Z:=HQ.out;unfold qh at Z;dsimp only at Z;have e1:nx = -x:=by rw[<- N]; unfold wrap64; omega
    have e2:ny = -y:=by rw[<- T]; unfold wrap64; omega
    rw[e1,e2]at be;clear Z e1 e2 N T;clear I F
    go_wp2
    go_roundw
    case rel=>
     refine⟨k+1,by omega,by go_num,fun t ht=> ?_,HB.out.alloc zb _⟩
     rcases Nat.lt_or_ge t k with h4 | h4
     . exact HA.out t h4
     .
      obtain rfl:t=k:=B_
      have e:l.getD t (0,0)=(x,y):=Prod.ext HX.out.1 HX.out.2;rw[e]; exact HQ.out
    case measure=>simp[intOf]; omega
   .
    have bl:k=n:=B_
    subst bl;clear h2 X
    go_wp2
    go_returns
    refine⟨yT ?_,HB.out⟩;rw[E.out,C7 (Uq (fun t ht=>HA.out t (by rw[H.out]at ht; exact ht)))]
end Go.Proofs.YtffmbepfbienaaaGreat
