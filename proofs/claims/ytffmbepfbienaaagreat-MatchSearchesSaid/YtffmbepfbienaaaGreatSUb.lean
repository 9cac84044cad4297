import Derived.Test.YtffmbepfbienaaaGreatSNo
import Derived.WalkLawsBesides
set_option linter.unusedVariables false
set_option linter.unusedSimpArgs false
set_option maxHeartbeats 6400000
set_option maxRecDepth 1000000
open Go.Value renaming slice->Ex,bool->Ez,int->Ey,pointer->Ek,tuple->Ev
open Go.IntKind renaming i64->Ew
open Go.Ending renaming returned->Eh
open Go.Proofs.Tryz renaming prog->Ec
open Go renaming Calls->Ed,World->Ee,undef->Em,bodyPost_ret->En
namespace Go.Proofs.YtffmbepfbienaaaGreat
open Go.RowKit
variable {x y:Int} {l:List (Int×Int)} {i j:Nat} {r s:Rat} {v va vb:Value} {w:Ee}
def PM (x y:Int) (l:List Int):Prop:=zo l=zi x*zi y/\l.length<=zP
def PE (L l:List Int):Prop:=l=L
theorem VU (w:Ee) (ha:az w va x) (hb:az w vb y) (fx:fits x) (fy:fits y) :
  Ed Ec 55 #[va,vb] w fun e E=>∃v,e = Eh (Ev #[v,Ey Ew (qX (x*y))])/\az E v (xp (x*y))/\zf w E:=by
 have Z:∀ (E:Ee) (q:Nat) (J N:Value),ai E q 26 #[Ez (decide (x<0)),J,Ez (decide (y<0)),N]->aA E J (zp (zi x))->aA E N (zp (zi y))->
   Ed Ec 93 #[Ex (some ⟨q,0,none⟩) 2 2] E fun e I=>e = Eh (Ey Ew 0)/\zf E I:=fun E q J N hb h1 M=>xG E hb h1 M fx fy
 obtain⟨aa,ca,rfl,pa⟩:=ha.parts;obtain⟨ab,cb,rfl,pb⟩:=hb.parts;unfold fits at fx fy;have nx:(zp (zi x)).length<=zP:=by unfold zP; omega
 have ny:(zp (zi y)).length<=zP:=by unfold zP; omega
 have vx:=zD (zA x);have vy:=zD (zA y);obtain⟨g,hg⟩:∃g,(decide (x<0) != decide (y<0))=g:=⟨_,rfl⟩
 have tm:∀E J N,aA E J (zp (zi x))->aA E N (zp (zi y))->Ed Ec 95 #[J,N] E fun e I=>∃v,e = Eh v/\eo (PM x y) v I/\zf E I:=fun E J N h1 M=>by
  refine(GX E h1 M nx ny).mono ?_;rintro e I ⟨v,l,rfl,h1,M,h3,h4⟩;exact⟨v,rfl,⟨l,⟨by rw[M,vx,vy],by unfold zP; omega⟩,h1⟩,h4⟩
 have mk:∀E s,eo (PM x y) s E->Ed Ec 94 #[Ez g,s] E fun e I=>∃v,e = Eh (Ev #[v,Ey Ew (qX (x*y))])/\az I v (xp (x*y))/\zf E I:=fun E s ⟨l,⟨M,h3⟩,h⟩=>by
  have:=qp g E h h3;rw[M,<- hg,UP]at this;rw[<- hg];exact this
 obtain⟨LX,aY⟩:∃l,zp (zi x)=l:=⟨_,rfl⟩;obtain⟨LY,b9⟩:∃l,zp (zi y)=l:=⟨_,rfl⟩;rw[aY]at tm Z pa|-;rw[b9]at tm Z pb|-;obtain⟨n,hn⟩:∃n,LX.length=n:=⟨_,rfl⟩;obtain⟨m,hm⟩:∃m,LY.length=m:=⟨_,rfl⟩;rw[hn]at pa|-;rw[hm]at pb|-;obtain⟨gx,a9⟩:∃b,decide (x<0)=b:=⟨_,rfl⟩;obtain⟨gy,aX⟩:∃b,decide (y<0)=b:=⟨_,rfl⟩;rw[a9,aX]at hg Z|-;have cg:(gx==gy) = !g:=by rw[<- hg]; cases gx<;>cases gy<;>rfl
 have T:=E6 pa;have X:=E6 pb;clear ha hb pa pb hn hm a9 aX hg aY b9 fx fy nx ny vx vy
 go_enter Tryz.func55,Tryz.ntmps55
 go_wp2_with fail
 refine(Z _ _ _ _ zw (T.out.af zj) (X.out.af zj)).mono ?_;rintro e Y ⟨rfl,st⟩;have B:=bA w st;have kp:=kB w st;have oa:ai Y w.heap.size 26 #[Ez gx,Ex aa n ca]:=ai.au st;have ob:ai Y (w.heap.size+1) 26 #[Ez gy,Ex ab m cb]:=ai.au st;have or:ai Y (w.heap.size+1+1) 26 #[Ez false,Ex none 0 0]:=ai.au st;replace T:=E6 (T.out.af kp);replace X:=E6 (X.out.af kp);clear kp;clear st;obtain⟨bt,bh⟩:=oa.r1;have la:=oa.lt;obtain⟨bl,bg⟩:=ob.r1;have lb:=ob.lt;clear Z;have zr:w.heap.size+1+1<Y.heap.size:=or.lt;have ce:=B.size
 go_upto_region 4 with fail
 refine aj.cC w Y [.o w.heap.size 26 #[Ez gx,Ex aa n ca],.o (w.heap.size+1) 26 #[Ez gy,Ex ab m cb],.s (w.heap.size+1+1) 26 #[Ez false,Ex none 0 0] 13 [10] (aj.vT 0)] [9,10,13] [(9,Bm),(10,Zk (qX (x*y)))] [(9,eo (PM x y)),(10,cz (xp (x*y)) (qX (x*y)))] [(10,[(9,some 24)]),(13,[(10,some 25)]),(15,[(9,some 24),(10,some 25)])] [(10,[13])] (by simp only[aP]; exact⟨zh,zj,zw,zw,zw,trivial⟩) (fun N0 be ah Q' H hQ=> ?_);clear bt bh la bl bg lb;clear be;refine aj.aD 15 ?_;refine aj.aO 16 (fun _ _ _ h=>h.e.1.r1) ?_;refine aj.aD 17 ?_;refine aj.aO 18 (fun _ _ _ h=>h.e.2.1.r1) ?_
 repeat refine aj.aD _ ?_
 refine aj.aO 21 (fun _ _ _ h=>h.e.1.r1) ?_;refine aj.aD 22 ?_;refine aj.aO 23 (fun _ _ _ h=>h.e.2.1.r1) ?_;refine aj.sC H (fun D v' W' h _=>tm W' _ _ (T.out.af h.k) (X.out.af h.k)) ?_;rintro _ ⟨t1,t2,t3,rfl⟩;refine aj.aB (b:=⟨#[_,_,_,_,_,_,_,_,_,_,_,_,_,_,_,_,_,_,_,_,_,_,_,_,_,_,_,_],[]⟩) rfl ?_;refine aj.sC H (fun D v' W' _ hf=>mk W' _ (hf (9,some 24) (.head _) rfl).2.2) ?_;rintro _ ⟨p1,p2,p3,p4,rfl⟩;refine aj.aB (b:=⟨#[_,_,_,_,_,_,_,_,_,_,_,_,_,_,_,_,_,_,_,_,_,_,_,_,_,_,_,_],[]⟩) rfl ?_
 repeat refine aj.aD _ ?_
 refine aj.sS H ?_;refine aj.aD 5 ?_;refine aj.sE (fun _ v' I B jk hl _ _ hf=> ?_);simp only[xx,xA]at hl;obtain⟨oa,ob,or,-⟩:=hl;have or:ai I (w.heap.size+1+1) 26 #[Ez p1,Ex p2 p3 p4]:=or;have Fp:=E6 (cz.get (z:=xp (x*y)) (e:=(qX (x*y))) (v:= .agg #[Ez p1,Ex p2 p3 p4]) (hf (10,some 25) (.tail _ (.head _)) rfl).2.2);replace T:=E6 (T.out.af jk);replace X:=E6 (X.out.af jk);clear hf jk;refine hQ _ _ ?_;clear hQ H Q' ah;obtain⟨br,bi⟩:=or.r1;have lr:=or.lt;clear tm mk;go_wp2_with fail
 refine En (by simp[results,Tryz.results55,go_sem,br,bi,lr]; rfl) rfl ?_;exact⟨_,rfl,Fp.out.af zj,zh⟩
theorem CG (w:Ee) (ha:az w va x) (Y:fits x) :
  Ed Ec 131 #[va] w fun e E=>∃v,e = Eh (Ev #[v,Ey Ew 0])/\az E v (-x)/\zf w E:=by
 have ck:∀ (E:Ee) (q:Nat) (J:Value),ai E q 26 #[Ez (decide (x<0)),J]->aA E J (zp (zi x))->
   Ed Ec 93 #[Ex (some ⟨q,0,none⟩) 1 1] E fun e I=>e = Eh (Ey Ew 0)/\zf E I:=fun E q J hb h1=>by
  have:=KH E hb h1;rw[show yZ (zS (decide (x<0)) (zp (zi x)))=0 from E8 (xD Y)]at this;exact this
 obtain⟨aa,ca,rfl,pa⟩:=ha.parts;have nx:(zp (zi x)).length<=zP:=by unfold fits at Y; unfold zP; omega
 have vx:=zD (zA x)
 have cl:∀E J,aA E J (zp (zi x))->Ed Ec 134 #[J] E fun e I=>∃v,e = Eh v/\eo (PE (zp (zi x))) v I/\zf E I:=fun E J h1=>by
  refine(Yv E h1 nx).mono ?_;rintro e I ⟨v,rfl,_,h2,h3⟩;exact⟨v,rfl,⟨_,rfl,h2⟩,h3⟩
 have mk:∀E s,eo (PE (zp (zi x))) s E->Ed Ec 94 #[Ez (!decide (x<0)),s] E fun e I=>∃v,e = Eh (Ev #[v,Ey Ew 0])/\az I v (-x)/\zf E I:=fun E s ⟨l,hl,h⟩=>by
  obtain rfl:l=zp (zi x):=hl;have:=qp (!decide (x<0)) E h nx
  have e:zv (!decide (x<0)) (zo (zp (zi x))) = -x:=by
   rw[vx]; unfold zv zi
   by_cases h:x<0
   . rw[E_ h]; simp; omega
   . rw[E' h]; simp; omega
  rw[e,show qX (-x)=0 from E8 (jN Y),show xp (-x) = -x from E8 (jN Y)]at this;exact this
 obtain⟨LX,X⟩:∃l,zp (zi x)=l:=⟨_,rfl⟩;rw[X]at cl mk ck pa|-;obtain⟨n,hn⟩:∃n,LX.length=n:=⟨_,rfl⟩;rw[hn]at pa|-;obtain⟨gx,N⟩:∃b,decide (x<0)=b:=⟨_,rfl⟩;rw[N]at mk ck|-;have M:=E6 pa;clear ha pa hn N X Y nx vx
 go_enter Tryz.func131,Tryz.ntmps131
 go_wp2_with fail
 refine(ck _ _ _ zw (M.out.af zj)).mono ?_;rintro e Z ⟨rfl,st⟩;have B:=bA w st;have kp:=kB w st;have oa:ai Z w.heap.size 26 #[Ez gx,Ex aa n ca]:=ai.au st;have or:ai Z (w.heap.size+1) 26 #[Ez false,Ex none 0 0]:=ai.au st;replace M:=E6 (M.out.af kp);clear kp;clear st;obtain⟨b9,ah⟩:=oa.r1;have la:=oa.lt;clear ck;have zr:w.heap.size+1<Z.heap.size:=or.lt;have be:=B.size
 go_upto_region 4 with fail
 refine aj.cC w Z [.o w.heap.size 26 #[Ez gx,Ex aa n ca],.s (w.heap.size+1) 26 #[Ez false,Ex none 0 0] 9 [6] (aj.vT 0)] [5,6,9] [(5,Bm),(6,Zk 0)] [(5,eo (PE LX)),(6,cz (-x) 0)] [(6,[(5,some 17)]),(9,[(6,some 18)]),(11,[(5,some 17),(6,some 18)])] [(6,[9])] (by simp only[aP]; exact⟨zh,zj,zw,zw,trivial⟩) (fun N0 a9 T Q' H hQ=> ?_);clear b9 ah la;clear a9;refine aj.aD 12 ?_;refine aj.aO 13 (fun _ _ _ h=>h.e.1.r1) ?_
 repeat refine aj.aD _ ?_
 refine aj.aO 16 (fun _ _ _ h=>h.e.1.r1) ?_;refine aj.sC H (fun D v' W' h _=>cl W' _ (M.out.af h.k)) ?_;rintro _ ⟨t1,t2,t3,rfl⟩;refine aj.aB (b:=⟨#[_,_,_,_,_,_,_,_,_,_,_,_,_,_,_,_,_,_,_,_,_],[]⟩) rfl ?_;refine aj.sC H (fun D v' W' _ hf=>mk W' _ (hf (5,some 17) (.head _) rfl).2.2) ?_;rintro _ ⟨p1,p2,p3,p4,rfl⟩;refine aj.aB (b:=⟨#[_,_,_,_,_,_,_,_,_,_,_,_,_,_,_,_,_,_,_,_,_],[]⟩) rfl ?_
 repeat refine aj.aD _ ?_
 refine aj.sS H ?_;refine aj.aD 3 ?_;refine aj.sE (fun _ v' I B jk hl _ _ hf=> ?_);simp only[xx,xA]at hl;obtain⟨oa,or,-⟩:=hl;have or:ai I (w.heap.size+1) 26 #[Ez p1,Ex p2 p3 p4]:=or;have Fp:=E6 (cz.get (z:= -x) (e:=0) (v:= .agg #[Ez p1,Ex p2 p3 p4]) (hf (6,some 18) (.tail _ (.head _)) rfl).2.2);replace M:=E6 (M.out.af jk);clear hf jk;refine hQ _ _ ?_;clear hQ H Q' T;obtain⟨aY,aX⟩:=or.r1;have lr:=or.lt;clear cl mk;go_wp2_with fail
 refine En (by simp[results,Tryz.results131,go_sem,aY,aX,lr]; rfl) rfl ?_;exact⟨_,rfl,Fp.out.af zj,zh⟩
theorem UQ (w:Ee) (X:az w va x) (Z:fits x) :
  Ed Ec 150 #[va] w fun e E=>e = Eh (Ey Ew 0)/\zf w E:=by
 have M:∀ (E:Ee) (q:Nat) (N:Value),ai E q 26 #[Ez (decide (x<0)),N]->aA E N (zp (zi x))->
   Ed Ec 93 #[Ex (some ⟨q,0,none⟩) 1 1] E fun e w2=>e = Eh (Ey Ew 0)/\zf E w2:=fun E q N hb h1=>by
  have:=KH E hb h1;rw[show yZ (zS (decide (x<0)) (zp (zi x)))=0 from E8 (xD Z)]at this;exact this
 obtain⟨aa,ca,rfl,J⟩:=X.parts;obtain⟨LX,I⟩:∃l,zp (zi x)=l:=⟨_,rfl⟩;rw[I]at M J|-;obtain⟨n,hn⟩:∃n,LX.length=n:=⟨_,rfl⟩;rw[hn]at J|-;obtain⟨gx,H⟩:∃b,decide (x<0)=b:=⟨_,rfl⟩;rw[H]at M|-;have T:=E6 J;clear X J hn H I Z
 go_enter Tryz.func150,Tryz.ntmps150
 go_wp2_with fail
 refine(M _ _ _ zw (T.out.af zj)).mono ?_;rintro e w1 ⟨rfl,st⟩;have B:=bA w st;have Y:=kB w st;have oa:ai w1 w.heap.size 26 #[Ez gx,Ex aa n ca]:=ai.au st;replace T:=E6 (T.out.af Y);clear Y;clear st
 go_wp2
 go_returns
 exact⟨rfl,zh⟩
theorem Hc (w:Ee):Ed Ec 57 #[Ey Ew 0] w fun e E=>e = Eh (Ev #[])/\E=w:=by
 go_enter Tryz.func57,Tryz.ntmps57
 go_wp2
 go_end0
 exact⟨rfl,rfl⟩
def C8 (e:Int):Value:= .iface 143 (.agg #[Ey Ew e])
theorem ql (p:Addr) (w:Ee) :
  CallsD Ec 56 #[Ek (some p)] .returning w fun e I J=>e = Eh (Ev #[])/\I = .returning/\J=w:=by
 refine callsD_of_wpS Tryz.func56 rfl fun E cs H=> ?_;apply wpS_seq
 apply wpS_region
 simp[wpOpsS,go_sem,recoverD,H,Tryz.ntmps56,Exit.thenS];refine wpS_of_wp ?_
 show Code.wp _ _ _ ⟨#[Ek (some p),Em,Em,Em,Em,.nilIface,Em,Em,Em,Em,Em,Em,Em,Em,Em],[]⟩ w
 go_wp2_with fail
 cases E
 simp_all [bodyPostS,results,Tryz.results56]
theorem qq (H : -9223372036854775808<=x) (E:x<=9223372036854775807):fits x:=z9 (k:=2) (by rw[xE]; unfold zi; omega) D5
theorem kJ (w:Ee) (E:az w va x):Ed Ec 54 #[va,Ey Ew 0] w fun e H=>∃v,e = Eh v/\az H v x/\zf w H:=by
 obtain⟨a1,a2,J,a4,rfl⟩:=E.ak;have I:=E6 E;clear E
 go_enter Tryz.func54,Tryz.ntmps54
 go_wp2_with fail
 refine En (by simp[results,Tryz.results54,go_sem,]; rfl) rfl ?_;exact⟨_,rfl,I.out.af zj,zh⟩
theorem Zq (w:Ee) (ha:az w va x) (hb:az w vb y) (fx:fits x) (fy:fits y) (hy:y≠0) :
  Ed Ec 92 #[va,vb] w fun e H=>∃v,e = Eh v/\FR H v ((x:Rat) / (y:Rat))/\zf w H:=by
 have RA:=JY (x:=x) hy;have fP:fits (Yg x y):=yE RA.1 fx;have fQ:fits (ZH x y):=yE RA.2.1 fy;have fG:fits (rg x y):=yE RA.2.2 fy;have g0:=QP (x:=x) hy;have gc:∀H u v,az H u x->az H v y->Ed Ec 96 #[u,v] H fun e J=>∃v,e = Eh (Ev #[v,Ey Ew 0])/\az J v (yv x y)/\zf H J:=fun H u v h1 h2=>(Bj H h1 h2 fx fy).mono (by rintro e J ⟨v,rfl,h,-,hs⟩; exact⟨v,rfl,h,hs⟩);have d1:∀H u v,az H u x->az H v (rg x y)->Ed Ec 132 #[u,v] H fun e J=>∃q r,e = Eh (Ev #[q,r,Ey Ew 0])/\az J q (Yg x y)/\az J r (xz x (rg x y))/\zf H J:=fun H u v h1 h2=>KM H h1 h2 fx fG g0;have d2:∀H u v,az H u y->az H v (rg x y)->Ed Ec 132 #[u,v] H fun e J=>∃q r,e = Eh (Ev #[q,r,Ey Ew 0])/\az J q (ZH x y)/\az J r (xz y (rg x y))/\zf H J:=fun H u v h1 h2=>KM H h1 h2 fy fG g0;have MK:Hid (∀H a s b t,az H (.agg #[Ez a,s]) (Yg x y)->az H (.agg #[Ez b,t]) (ZH x y)->FR H (.agg #[Ez a,s,Ez b,t]) ((x:Rat) / (y:Rat))):=fun H a s b t h1 h2=>FR.dK hy (bU.mk' h1 h2 (Yh (x:=x) hy) (JW (x:=x) hy) fP fQ)
 have fg:fits (yv x y):=by
  unfold rg at fG
  split at fG
  . have:=jN fG; rwa[Int.neg_neg]at this
  . exact fG
 have ng:∀H v,az H v (yv x y)->Ed Ec 131 #[v] H fun e J=>∃v,e = Eh (Ev #[v,Ey Ew 0])/\az J v (-yv x y)/\zf H J:=fun H v h=>CG H h fg;obtain⟨a1,a2,a3,a4,rfl⟩:=ha.ak;have T:=E6 ha;clear ha;obtain⟨b2,b4,rfl,-⟩:=hb.parts;obtain⟨b3,bi⟩:∃n,(zp (zi y)).length=n:=⟨_,rfl⟩;rw[bi]at hb|-
 by_cases hs:y<0
 focus
  rw[E_ hs]at hb|-;have HG:rg x y = -yv x y:=E8 hs;rw[HG]at d1 d2;have N:=E6 hb;clear hb bi hs HG fg hy fx fy g0 RA fP fQ fG
  go_enter Tryz.func92,Tryz.ntmps92
  go_wp2_with fail
  refine(gc _ _ _ (T.out.af zj) (N.out.af zj)).mono ?_;rintro e w1 ⟨vg,rfl,ah,dk⟩;have st:zf _ w1:=dk;have B:=bA w st;have kp:=kB w st;have X:ai w1 w.heap.size 26 #[Ez a1,Ex a2 a3 a4]:=ai.au st;have M:ai w1 (w.heap.size+1) 26 #[Ez true,Ex b2 b3 b4]:=ai.au st;have or:ai w1 (w.heap.size+1+1) 28 jp:=ai.au st;replace T:=E6 (T.out.af kp);replace N:=E6 (N.out.af kp);clear kp;clear st;obtain⟨g1,g2,g3,g4,rfl⟩:=ah.ak;have Z:=E6 ah;clear ah;clear gc;go_wp2_with fail
  refine(kJ _ (Z.out.af zj)).mono ?_;rintro e J ⟨d9,rfl,I,ek⟩;have st:zf _ J:=ek;have sk:=bA w1 st;replace B:=bS B sk;replace X:=X.ae sk;replace M:=M.ae sk;replace or:=or.ae sk;replace T:=E6 (T.out.ae sk);replace N:=E6 (N.out.ae sk);replace Z:=E6 (Z.out.ae sk);clear st sk;have la:=X.lt;obtain⟨be,b9⟩:=M.r1;have lb:=M.lt;have lr:=or.lt;obtain⟨bg,br,bh,bl,rfl⟩:=I.ak;have E:=E6 I;clear I;have zr:w.heap.size+1+1<J.heap.size:=or.lt;have dy:=B.size;go_wp2_with fail
  refine(ng _ _ (E.out.af zj)).mono ?_;rintro e w3 ⟨vh,rfl,co,bi⟩;have st:zf _ w3:=bi;have sk:=bA J st;replace B:=bS B sk;have og:ai w3 J.heap.size 26 #[Ez bg,Ex br bh bl]:=ai.au st;replace X:=X.ae sk;replace M:=M.ae sk;replace or:=or.ae sk;replace T:=E6 (T.out.ae sk);replace N:=E6 (N.out.ae sk);replace Z:=E6 (Z.out.ae sk);replace E:=E6 (E.out.ae sk);clear st sk la be b9 lb lr;obtain⟨h1,h2,h3,h4,rfl⟩:=co.ak;have Fh:=E6 co;clear co;clear ng;go_wp2_with fail
  refine(kJ _ (Fh.out.af zj)).mono ?_;rintro e w4 ⟨ey,rfl,aY,dx⟩;have st:zf _ w4:=dx;have sk:=bA w3 st;replace B:=bS B sk;replace X:=X.ae sk;replace M:=M.ae sk;replace or:=or.ae sk;replace og:=og.ae sk;replace T:=E6 (T.out.ae sk);replace N:=E6 (N.out.ae sk);replace Z:=E6 (Z.out.ae sk);replace E:=E6 (E.out.ae sk);replace Fh:=E6 (Fh.out.ae sk);clear st sk;obtain⟨cn,cx⟩:=X.r1;have la:=X.lt;have lb:=M.lt;have lr:=or.lt;obtain⟨bt,cg,fg,lg⟩:=og.s1;obtain⟨dc,cU,cN,cy,rfl⟩:=aY.ak;have Y:=E6 aY;clear aY;go_wp2_with fail
  refine(d1 _ _ _ (T.out.af zj) (Y.out.af zj)).mono ?_;rintro e w5 ⟨vp,vs,rfl,a9,aX,st⟩;have Bn:=bA w st;have kp:=kB w4 st;replace X:ai w5 w.heap.size 26 #[Ez a1,Ex a2 a3 a4]:=ai.au st;replace M:ai w5 (w.heap.size+1) 26 #[Ez true,Ex b2 b3 b4]:=ai.au st;replace or:ai w5 (w.heap.size+1+1) 28 jp:=ai.au st;replace og:ai w5 J.heap.size 26 #[Ez dc,Ex cU cN cy]:=ai.au st;clear cn cx la lb lr bt cg fg lg;replace B:=Bn;replace T:=E6 (T.out.af kp);replace N:=E6 (N.out.af kp);replace Z:=E6 (Z.out.af kp);replace E:=E6 (E.out.af kp);replace Fh:=E6 (Fh.out.af kp);replace Y:=E6 (Y.out.af kp);clear kp;clear st;have la:=X.lt;obtain⟨be,b9⟩:=M.r1;have lb:=M.lt;have lr:=or.lt;obtain⟨bt,cg⟩:=og.r1;have lg:=og.lt;obtain⟨p1,p2,p3,p4,rfl⟩:=a9.ak;obtain⟨s1,s2,s3,s4,rfl⟩:=aX.ak;have Fp:=E6 a9;clear a9;have Fs:=E6 aX;clear aX;clear d1;have zg:J.heap.size<w5.heap.size:=og.lt;have eM:=B.size;go_wp2_with fail
  refine(d2 _ _ _ (N.out.af zj) (Y.out.af zj)).mono ?_;rintro e w6 ⟨vq,vt,rfl,ci,ce,st⟩;have sk:=bA w5 st;replace B:=bS B sk;have op:ai w6 w5.heap.size 26 #[Ez p1,Ex p2 p3 p4]:=ai.au st;have os:ai w6 (w5.heap.size+1) 26 #[Ez s1,Ex s2 s3 s4]:=ai.au st;replace X:=X.ae sk;replace M:=M.ae sk;replace or:=or.ae sk;replace og:=og.ae sk;replace T:=E6 (T.out.ae sk);replace N:=E6 (N.out.ae sk);replace Z:=E6 (Z.out.ae sk);replace E:=E6 (E.out.ae sk);replace Fh:=E6 (Fh.out.ae sk);replace Y:=E6 (Y.out.ae sk)
 rotate_left
 focus
  rw[E' hs]at hb|-;have HG:rg x y=yv x y:=E9 hs;rw[HG]at d1 d2;have N:=E6 hb;clear hb bi hs HG fg hy fx fy g0 RA fP fQ fG ng
  go_enter Tryz.func92,Tryz.ntmps92
  go_wp2_with fail
  refine(gc _ _ _ (T.out.af zj) (N.out.af zj)).mono ?_;rintro e w1 ⟨vg,rfl,ah,st⟩;have B:=bA w st;have kp:=kB w st;have X:ai w1 w.heap.size 26 #[Ez a1,Ex a2 a3 a4]:=ai.au st;have M:ai w1 (w.heap.size+1) 26 #[Ez false,Ex b2 b3 b4]:=ai.au st;have or:ai w1 (w.heap.size+1+1) 28 jp:=ai.au st;replace T:=E6 (T.out.af kp);replace N:=E6 (N.out.af kp);clear kp;clear st;obtain⟨g1,g2,g3,g4,rfl⟩:=ah.ak;have Z:=E6 ah;clear ah;clear gc;go_wp2_with fail
  refine(kJ _ (Z.out.af zj)).mono ?_;rintro e J ⟨d9,rfl,I,st⟩;have sk:=bA w1 st;replace B:=bS B sk;replace X:=X.ae sk;replace M:=M.ae sk;replace or:=or.ae sk;replace T:=E6 (T.out.ae sk);replace N:=E6 (N.out.ae sk);replace Z:=E6 (Z.out.ae sk);clear st sk;obtain⟨cn,cx⟩:=X.r1;have la:=X.lt;obtain⟨be,b9⟩:=M.r1;have lb:=M.lt;have lr:=or.lt;obtain⟨bg,br,bh,bl,rfl⟩:=I.ak;have E:=E6 I;clear I;have zr:w.heap.size+1+1<J.heap.size:=or.lt;have dy:=B.size;go_wp2_with fail
  refine(d1 _ _ _ (T.out.af zj) (E.out.af zj)).mono ?_;rintro e w5 ⟨vp,vs,rfl,a9,aX,st⟩;have sk:=bA J st;replace B:=bS B sk;have og:ai w5 J.heap.size 26 #[Ez bg,Ex br bh bl]:=ai.au st;replace X:=X.ae sk;replace M:=M.ae sk;replace or:=or.ae sk;replace T:=E6 (T.out.ae sk);replace N:=E6 (N.out.ae sk);replace Z:=E6 (Z.out.ae sk);replace E:=E6 (E.out.ae sk);clear st sk cn cx la be b9 lb lr;have la:=X.lt;obtain⟨be,b9⟩:=M.r1;have lb:=M.lt;have lr:=or.lt;obtain⟨bt,cg⟩:=og.r1;have lg:=og.lt;obtain⟨p1,p2,p3,p4,rfl⟩:=a9.ak;obtain⟨s1,s2,s3,s4,rfl⟩:=aX.ak;have Fp:=E6 a9;clear a9;have Fs:=E6 aX;clear aX;clear d1;have zg:J.heap.size<w5.heap.size:=og.lt;have f7:=B.size;go_wp2_with fail
  refine(d2 _ _ _ (N.out.af zj) (E.out.af zj)).mono ?_;rintro e w6 ⟨vq,vt,rfl,ci,ce,st⟩;have sk:=bA w5 st;replace B:=bS B sk;have op:ai w6 w5.heap.size 26 #[Ez p1,Ex p2 p3 p4]:=ai.au st;have os:ai w6 (w5.heap.size+1) 26 #[Ez s1,Ex s2 s3 s4]:=ai.au st;replace X:=X.ae sk;replace M:=M.ae sk;replace or:=or.ae sk;replace og:=og.ae sk;replace T:=E6 (T.out.ae sk);replace N:=E6 (N.out.ae sk);replace Z:=E6 (Z.out.ae sk);replace E:=E6 (E.out.ae sk)
 rotate_left
 all_goals
  replace Fp:=E6 (Fp.out.ae sk);replace Fs:=E6 (Fs.out.ae sk);clear st sk la be b9 lb lr bt cg lg;have la:=X.lt;have lb:=M.lt;obtain⟨em,er,dP,dl,fr,lr⟩:=or.s3;obtain⟨ed,dz⟩:=op.r1;have lp:=op.lt;have ls:=os.lt;obtain⟨q1,q2,q3,q4,rfl⟩:=ci.ak;obtain⟨t1,t2,t3,t4,rfl⟩:=ce.ak;have Fq:=E6 ci;clear ci;have Ft:=E6 ce;clear ce;clear d2;have zs:w5.heap.size+1<w6.heap.size:=os.lt;have eW:=B.size;go_wp2_with fail
  refine En (by simp[results,Tryz.results92,go_sem,la,lb,em,er,dP,dl,fr,lr,ed,dz,lp,ls]; rfl) rfl ?_;exact⟨_,rfl,MK.out _ _ _ _ _ (Fp.out.af zj) (Fq.out.af zj),zh⟩
theorem xX (w:Ee):Ed Ec 57 #[Ey Ew 0] w fun e E=>e = Eh (Ev #[])/\zf w E:=(Hc w).mono (by rintro e E ⟨rfl,rfl⟩; exact⟨rfl,Below.refl _ _⟩)
theorem BA (w:Ee) (ha:az w va x) (hb:az w vb y) (fx:fits x) (fy:fits y) (hy:y≠0) :
  Ed Ec 117 #[va,vb] w fun e E=>∃v,e = Eh (Ev #[v,Ey Ew 0])/\FR E v ((x:Rat) / (y:Rat))/\zf w E:=by
 have c1:∀E v,az E v x->Ed Ec 150 #[v] E fun e Y=>e = Eh (Ey Ew 0)/\zf E Y:=fun E v h=>UQ E h fx;have c2:∀E v,az E v y->Ed Ec 150 #[v] E fun e Y=>e = Eh (Ey Ew 0)/\zf E Y:=fun E v h=>UQ E h fy;have zr:∀E v,az E v y->Ed Ec 97 #[v] E fun e Y=>e = Eh (Ez false)/\zf E Y:=fun E v h=>by have:=UC E h; rwa[E' hy]at this
 have rd:∀E u v,az E u x->az E v y->Ed Ec 92 #[u,v] E fun e Y=>∃v,e = Eh v/\FR Y v ((x:Rat) / (y:Rat))/\zf E Y:=fun E u v h1 h2=>Zq E h1 h2 fx fy hy;obtain⟨a1,a2,a3,a4,rfl⟩:=ha.ak;have N:=E6 ha;clear ha;obtain⟨b1,b2,b3,b4,rfl⟩:=hb.ak;have J:=E6 hb;clear hb;clear fx fy hy
 go_enter_defers Tryz.func117,Tryz.ntmps117
 go_wp2_with fail
 refine(c1 _ _ (N.out.af zj)).mono ?_;rintro e w1 ⟨rfl,st⟩;have B:=bA w st;have kp:=kB w st;have M:ai w1 w.heap.size 26 #[Ez a1,Ex a2 a3 a4]:=ai.au st;have H:ai w1 (w.heap.size+1) 26 #[Ez b1,Ex b2 b3 b4]:=ai.au st;have or:ai w1 (w.heap.size+1+1) 28 jp:=ai.au st;have I:ai w1 (w.heap.size+1+1+1) 32 #[Ey Ew 0]:=ai.au st;replace N:=E6 (N.out.af kp);replace J:=E6 (J.out.af kp);clear kp;clear st;go_wp2_with fail
 refine(xX _).mono ?_;rintro e Y ⟨rfl,st⟩;have sk:=bA w1 st;replace B:=bS B sk;replace M:=M.ae sk;replace H:=H.ae sk;replace or:=or.ae sk;replace I:=I.ae sk;replace N:=E6 (N.out.ae sk);replace J:=E6 (J.out.ae sk);clear st sk;have la:=M.lt;obtain⟨X,T⟩:=H.r1;have lb:=H.lt;have Z:=or.lt;have le:=I.lt;go_wp2_with fail
 refine(c2 _ _ (J.out.af zj)).mono ?_;rintro e w3 ⟨rfl,st⟩;have sk:=bA Y st;replace B:=bS B sk;replace M:=M.ae sk;replace H:=H.ae sk;replace or:=or.ae sk;replace I:=I.ae sk;replace N:=E6 (N.out.ae sk);replace J:=E6 (J.out.ae sk);clear st sk la X T lb Z le;go_wp2_with fail
 refine(xX _).mono ?_;rintro e w4 ⟨rfl,st⟩;have sk:=bA w3 st;replace B:=bS B sk;replace M:=M.ae sk;replace H:=H.ae sk;replace or:=or.ae sk;replace I:=I.ae sk;replace N:=E6 (N.out.ae sk);replace J:=E6 (J.out.ae sk);clear st sk;have la:=M.lt;obtain⟨X,T⟩:=H.r1;have lb:=H.lt;have Z:=or.lt;have le:=I.lt;go_wp2_with fail
 refine(zr _ _ (J.out.af zj)).mono ?_;rintro e w5 ⟨rfl,st⟩;have sk:=bA w4 st;replace B:=bS B sk;replace M:=M.ae sk;replace H:=H.ae sk;replace or:=or.ae sk;replace I:=I.ae sk;replace N:=E6 (N.out.ae sk);replace J:=E6 (J.out.ae sk);clear st sk la X T lb Z le;obtain⟨bh,b9⟩:=M.r1;have la:=M.lt;obtain⟨X,T⟩:=H.r1;have lb:=H.lt;have Z:=or.lt;have le:=I.lt;go_wp2_with fail
 refine(rd _ _ _ (N.out.af zj) (J.out.af zj)).mono ?_;rintro e w6 ⟨vq,rfl,a9,st⟩;have sk:=bA w5 st;replace B:=bS B sk;replace M:=M.ae sk;replace H:=H.ae sk;replace or:=or.ae sk;replace I:=I.ae sk;replace N:=E6 (N.out.ae sk);replace J:=E6 (J.out.ae sk);clear st sk bh b9 la X T lb Z le;have la:=M.lt;have lb:=H.lt;obtain⟨bg,be,ah,aY,fr,Z⟩:=or.s3;have aX:=I.q0;have fe:=I.fr;have le:=I.lt;obtain⟨q1,q2,q3,q4,q5,q6,q7,q8,rfl⟩:=a9.ak;have Fq:=E6 a9;clear a9;go_wp2_with fail
 refine leaves_cons (f:=56) (args:=#[Ek (some ⟨w.heap.size+1+1+1,0,none⟩)]) D8 (by simp[go_sem]) ?_;refine(ql _ _).mono ?_;rintro e u' bi ⟨rfl,rfl,rfl⟩;refine⟨_,by simp[results,Tryz.results117,go_sem,la,lb,bg,be,ah,aY,fr,Z,aX,fe,le]; rfl,?_⟩;exact⟨_,rfl,Fq.out.af zj,zh⟩
theorem Q_ (x y:Int) (w:Ee) (x0 : -9223372036854775808<=x) (Y:x<=9223372036854775807) (Z : -9223372036854775808<=y) (y1:y<=9223372036854775807) (hy:y≠0) :
  Ed Ec 77 #[Ey Ew x,Ey Ew y] w fun e E=>∃v,e = Eh (Ev #[v,Ey Ew 0])/\FR E v ((x:Rat) / (y:Rat))/\zf w E:=by
 have fx:fits x:=qq x0 Y;have fy:fits y:=qq Z y1;have f1:=fun E=>Ux x E x0 Y;have f2:=fun E=>Ux y E Z y1;have mk:∀E u v,az E u x->az E v y->Ed Ec 117 #[u,v] E fun e T=>∃v,e = Eh (Ev #[v,Ey Ew 0])/\FR T v ((x:Rat) / (y:Rat))/\zf E T:=fun E u v h1 h2=>BA E h1 h2 fx fy hy;clear x0 Y Z y1 fx fy hy
 go_enter Tryz.func77,Tryz.ntmps77
 go_wp2_with fail
 refine(f1 _).mono ?_;rintro e w1 ⟨bl,rfl,J,st⟩;have B:=bA w st;have or:ai w1 w.heap.size 28 jp:=ai.au st;clear st;obtain⟨bt,b9,bi,aY,rfl⟩:=J.ak;have H:=E6 J;clear J;go_wp2_with fail
 refine(f2 _).mono ?_;rintro e T ⟨bg,rfl,I,st⟩;have sk:=bA w1 st;replace B:=bS B sk;replace or:=or.ae sk;replace H:=E6 (H.out.ae sk);clear st sk;obtain⟨bh,be,br,ce,rfl⟩:=I.ak;have N:=E6 I;clear I;go_wp2_with fail
 refine(mk _ _ _ (H.out.af zj) (N.out.af zj)).mono ?_;rintro e w3 ⟨vq,rfl,M,st⟩;have sk:=bA T st;replace B:=bS B sk;replace or:=or.ae sk;replace H:=E6 (H.out.ae sk);replace N:=E6 (N.out.ae sk);clear st sk;obtain⟨aX,ah,X,a9,fr,lr⟩:=or.s3;obtain⟨q1,q2,q3,q4,q5,q6,q7,q8,rfl⟩:=M.ak;have Fq:=E6 M;clear M;go_wp2_with fail
 refine En (by simp[results,Tryz.results77,go_sem,aX,ah,X,a9,fr,lr]; rfl) rfl ?_;exact⟨_,rfl,Fq.out.af zj,zh⟩
theorem vL (w:Ee) (Y:FR w va r) (hb:FR w vb s) (f:fits (r.num*s.den)) :
  Ed Ec 60 #[va,vb] w fun e E=>∃v,e = Eh v/\az E v (r.num*s.den)/\zf w E:=by
 have fa:=Y.fit;have fb:=hb.fit;obtain⟨a2,a3,a4,a6,a7,a8,rfl,na,da,-⟩:=Y.bW;obtain⟨b2,b3,b4,b6,b7,b8,rfl,aX,db,-⟩:=hb.bW
 have m1:∀E u v,az E u r.num->az E v s.den->Ed Ec 55 #[u,v] E fun e w2=>∃v,e = Eh (Ev #[v,Ey Ew 0])/\az w2 v (r.num*s.den)/\zf E w2:=fun E u v h1 h2=>by
  have:=VU E h1 h2 fa.1 fb.2;rw[zM f,zH f]at this;exact this
 obtain⟨ga,T⟩:∃g,decide (r<0)=g:=⟨_,rfl⟩;obtain⟨gb,N⟩:∃g,decide (s<0)=g:=⟨_,rfl⟩;rw[T]at na|-;rw[N];have J:=E6 na;have M:=E6 db;clear T N na da aX db fa fb Y hb f
 go_enter Tryz.func60,Tryz.ntmps60
 go_wp2_with fail
 refine(m1 _ _ _ (J.out.af zj) (M.out.af zj)).mono ?_;rintro e X ⟨vp,rfl,I,st⟩;have B:=bA w st;have kp:=kB w st;have oa:ai X w.heap.size 28 #[Ez ga,Ex a2 a3 a4,Ez false,Ex a6 a7 a8]:=ai.au st;have Z:ai X (w.heap.size+1) 28 #[Ez gb,Ex b2 b3 b4,Ez false,Ex b6 b7 b8]:=ai.au st;have or:ai X (w.heap.size+1+1) 26 #[Ez false,Ex none 0 0]:=ai.au st;replace J:=E6 (J.out.af kp);replace M:=E6 (M.out.af kp);clear kp;clear st;obtain⟨p1,p2,p3,p4,rfl⟩:=I.ak;have Fp:=E6 I;clear I;go_wp2_with fail
 refine(kJ _ (Fp.out.af zj)).mono ?_;rintro e w2 ⟨vq,rfl,H,st⟩;have sk:=bA X st;replace B:=bS B sk;replace oa:=oa.ae sk;replace Z:=Z.ae sk;replace or:=or.ae sk;replace J:=E6 (J.out.ae sk);replace M:=E6 (M.out.ae sk);replace Fp:=E6 (Fp.out.ae sk);clear st sk;have la:=oa.lt;have lb:=Z.lt;obtain⟨ah,a9,fr,lr⟩:=or.s1;obtain⟨q1,q2,q3,q4,rfl⟩:=H.ak;have Fq:=E6 H;clear H;go_wp2_with fail
 refine En (by simp[results,Tryz.results60,go_sem,la,lb,ah,a9,fr,lr]; rfl) rfl ?_;exact⟨_,rfl,Fq.out.af zj,zh⟩
theorem xK (w:Ee) (h:FR w v r):Ed Ec 58 #[v] w fun e E=>e = Eh (Ey Ew 0)/\zf w E:=VK w h
theorem J9 (w:Ee) (h:eJ w v):Ed Ec 58 #[v] w fun e I=>e = Eh (Ey Ew 8)/\zf w I:=by
 obtain⟨gx,M,gy,J,la,lb,rfl,H,E,hv⟩:=h;have:=UE gx gy w H E;rw[Ze,E9 hv]at this;exact this
theorem BC (w:Ee) (ha:FR w va r) (hb:FR w vb s) (g1:fits (r.num*s.den)) (g2:fits (s.num*r.den)) (g3:fits (r.num*s.den+s.num*r.den)) (g4:fits (r.den*s.den)) :
  Ed Ec 154 #[va,vb] w fun e E=>∃u v,e = Eh (Ev #[u,v])/\az E u (r.num*s.den+s.num*r.den)/\az E v (r.den*s.den)/\zf w E:=by
 have fa:=ha.fit;have fb:=hb.fit
 have m2:∀E u v,az E u (r.den)->az E v (s.den)->Ed Ec 55 #[u,v] E fun e I=>∃v,e = Eh (Ev #[v,Ey Ew 0])/\az I v (r.den*s.den)/\zf E I:=fun E u v X Z=>by
  have:=VU E X Z fa.2 fb.2;rw[zM g4,zH g4]at this;exact this
 have ci:∀E u v,FR E u r->FR E v s->Ed Ec 60 #[u,v] E fun e I=>∃v,e = Eh v/\az I v (r.num*s.den)/\zf E I:=fun E u v X Z=>vL E X Z g1;have br:∀E u v,FR E u s->FR E v r->Ed Ec 60 #[u,v] E fun e I=>∃v,e = Eh v/\az I v (s.num*r.den)/\zf E I:=fun E u v X Z=>vL E X Z g2
 have ad:∀E u v,az E u (r.num*s.den)->az E v (s.num*r.den)->Ed Ec 155 #[u,v] E fun e I=>∃v,e = Eh (Ev #[v,Ey Ew 0])/\az I v (r.num*s.den+s.num*r.den)/\zf E I:=fun E u v X Z=>by
  have:=Cv E X Z g1 g2;rw[zM g3,zH g3]at this;exact this
 have ah:=ha;have T:=hb;obtain⟨a2,a3,a4,a6,a7,a8,rfl,na,da,-⟩:=ha.bW;obtain⟨b2,b3,b4,b6,b7,b8,rfl,a9,db,-⟩:=hb.bW;obtain⟨ga,be⟩:∃g,decide (r<0)=g:=⟨_,rfl⟩;obtain⟨gb,bh⟩:∃g,decide (s<0)=g:=⟨_,rfl⟩;rw[be]at na ah|-;rw[bh]at a9 T|-;have Fa:=E6 ah;have Fb:=E6 T;have aY:=E6 na;have b9:=E6 a9;have Y:=E6 da;have aX:=E6 db;clear be bh na da a9 db ha hb ah T fa fb;clear g3 g4 g1 g2
 go_enter Tryz.func154,Tryz.ntmps154
 go_upto_region 1 with fail
 refine aj.cC w w [.o w.heap.size 28 #[Ez ga,Ex a2 a3 a4,Ez false,Ex a6 a7 a8],.o (w.heap.size+1) 28 #[Ez gb,Ex b2 b3 b4,Ez false,Ex b6 b7 b8],.s (w.heap.size+1+1) 26 #[Ez false,Ex none 0 0] 18 [9] aj.v1,.s (w.heap.size+1+1+1) 26 #[Ez false,Ex none 0 0] 19 [17] aj.v1] [2,5,6,9,14,17,18,19] [(2,Zj),(5,Zj),(6,Zk 0),(9,Zj),(14,Zk 0),(17,Zj)] [(2,dH (r.num*s.den)),(5,dH (s.num*r.den)),(6,cz (r.num*s.den+s.num*r.den) 0),(9,dH (r.num*s.den+s.num*r.den)),(14,cz (r.den*s.den) 0),(17,dH (r.den*s.den))] [(6,[(2,some 8),(5,some 11)]),(9,[(6,some 12)]),(17,[(14,some 20)]),(18,[(9,some 15)]),(19,[(17,some 23)]),(20,[(2,some 8),(5,some 11),(6,some 12),(9,some 15),(14,some 20),(17,some 23)])] [(9,[18]),(17,[19])] (by simp only[aP]; exact⟨zh,zj,zw,zw,zw,zw,trivial⟩) (fun N0 bi bg Q' H hQ=> ?_);clear bi;refine aj.aO 6 (fun _ _ _ h=>h.e.1.r3) ?_;refine aj.aO 7 (fun _ _ _ h=>h.e.2.1.r3) ?_;refine aj.sC H (fun D v' J h _=>ci J _ _ (Fa.out.af h.k) (Fb.out.af h.k)) ?_;rintro _ ⟨cx,dx,dz,dP,rfl⟩;refine aj.dD rfl ?_;refine aj.aO 9 (fun _ _ _ h=>h.e.2.1.r3) ?_;refine aj.aO 10 (fun _ _ _ h=>h.e.1.r3) ?_;refine aj.sC H (fun D v' J h _=>br J _ _ (Fb.out.af h.k) (Fa.out.af h.k)) ?_;rintro _ ⟨co,ek,d9,ed,rfl⟩;refine aj.dD rfl ?_;refine aj.sC H (fun D v' J _ M=>ad J _ _ (M (2,some 8) (.head _) rfl).2.2 (M (5,some 11) (.tail _ (.head _)) rfl).2.2) ?_;rintro _ ⟨cy,dk,dc,cN,rfl⟩;refine aj.dD rfl ?_
 repeat refine aj.aD _ ?_
 refine aj.sC H (fun D v' J _ M=>kJ J (M (6,some 12) (.head _) rfl).2.2.get) ?_;rintro _ ⟨N1,N2,N3,N4,rfl⟩;refine aj.dD rfl ?_;refine aj.aD 16 ?_;refine aj.aO 17 (fun _ _ _ h=>h.e.1.r3) ?_;refine aj.aD 18 ?_;refine aj.aO 19 (fun _ _ _ h=>h.e.2.1.r3) ?_;refine aj.sC H (fun D v' J h _=>m2 J _ _ (Y.out.af h.k) (aX.out.af h.k)) ?_;rintro _ ⟨cn,cU,dl,dy,rfl⟩;refine aj.dD rfl ?_
 repeat refine aj.aD _ ?_
 refine aj.sC H (fun D v' J _ M=>kJ J (M (14,some 20) (.head _) rfl).2.2.get) ?_;rintro _ ⟨D1,D2,D3,D4,rfl⟩;refine aj.dD rfl ?_;refine aj.sS H ?_;refine aj.sS H ?_;refine aj.sE (fun _ v' w1 B N hl _ _ M=> ?_);simp only[xx,xA]at hl;obtain⟨oa,ob,op,oq,-⟩:=hl;have op:ai w1 (w.heap.size+1+1) 26 #[Ez N1,Ex N2 N3 N4]:=op;have oq:ai w1 (w.heap.size+1+1+1) 26 #[Ez D1,Ex D2 D3 D4]:=oq;have FN:Hid (az w1 (.agg #[Ez N1,Ex N2 N3 N4]) (r.num*s.den+s.num*r.den)):=(M (9,some 15) (.tail _ (.tail _ (.tail _ (.head _)))) rfl).2.2;have FD:Hid (az w1 (.agg #[Ez D1,Ex D2 D3 D4]) (r.den*s.den)):=(M (17,some 23) (.tail _ (.tail _ (.tail _ (.tail _ (.tail _ (.head _)))))) rfl).2.2;replace Fa:=E6 (Fa.out.af N);replace Fb:=E6 (Fb.out.af N);replace aY:=E6 (aY.out.af N);replace Y:=E6 (Y.out.af N);replace b9:=E6 (b9.out.af N);replace aX:=E6 (aX.out.af N);clear M N;refine hQ _ _ ?_;clear hQ H Q' bg;have la:=oa.lt;have lb:=ob.lt;obtain⟨bt,bl⟩:=op.r1;have lp:=op.lt;obtain⟨ce,cg⟩:=oq.r1;have lq:=oq.lt;go_wp2_with fail
 refine En (by simp[results,Tryz.results154,go_sem,la,lb,bt,bl,lp,ce,cg,lq]; rfl) rfl ?_;exact⟨_,_,rfl,FN.out.af zj,FD.out.af zj,zh⟩
theorem BD (w:Ee) (ha:FR w va r) (hb:FR w vb s) (g1:fits (r.num*s.den)) (g2:fits (s.num*r.den)) (g3:fits (r.num*s.den+s.num*r.den)) (g4:fits (r.den*s.den)) :
  Ed Ec 52 #[va,vb,.func (.func 154) #[] #[]] w fun e E=>∃v,e = Eh (Ev #[v,Ey Ew 0])/\FR E v (r+s)/\zf w E:=by
 have cl:∀E u v,FR E u r->FR E v s->Ed Ec 154 #[u,v] E fun e T=>∃u v,e = Eh (Ev #[u,v])/\az T u (r.num*s.den+s.num*r.den)/\az T v (r.den*s.den)/\zf E T:=fun E u v h1 h2=>BC E h1 h2 g1 g2 g3 g4
 have rd:∀E u v,az E u (r.num*s.den+s.num*r.den)->az E v (r.den*s.den)->Ed Ec 92 #[u,v] E fun e T=>∃v,e = Eh v/\FR T v (r+s)/\zf E T:=fun E u v h1 h2=>by
  have:=Zq E h1 h2 g3 g4 (qM r s);rw[YF]at this;exact this
 obtain⟨a1,a2,a3,a4,a5,a6,a7,a8,rfl⟩:=ha.ak;obtain⟨b1,b2,b3,b4,b5,b6,b7,b8,rfl⟩:=hb.ak;have J:=E6 ha;have M:=E6 hb;clear ha hb g3 g4 g1 g2
 go_enter_defers Tryz.func52,Tryz.ntmps52
 go_wp2_with fail
 refine(xK _ (J.out.af zj)).mono ?_;rintro e w1 ⟨rfl,st⟩;have B:=bA w st;have kp:=kB w st;have N:ai w1 w.heap.size 28 #[Ez a1,Ex a2 a3 a4,Ez a5,Ex a6 a7 a8]:=ai.au st;have H:ai w1 (w.heap.size+1) 28 #[Ez b1,Ex b2 b3 b4,Ez b5,Ex b6 b7 b8]:=ai.au st;have or:ai w1 (w.heap.size+1+1) 28 jp:=ai.au st;have I:ai w1 (w.heap.size+1+1+1) 32 #[Ey Ew 0]:=ai.au st;replace J:=E6 (J.out.af kp);replace M:=E6 (M.out.af kp);clear kp;clear st;go_wp2_with fail
 refine(xX _).mono ?_;rintro e T ⟨rfl,st⟩;have sk:=bA w1 st;replace B:=bS B sk;replace N:=N.ae sk;replace H:=H.ae sk;replace or:=or.ae sk;replace I:=I.ae sk;replace J:=E6 (J.out.ae sk);replace M:=E6 (M.out.ae sk);clear st sk;have la:=N.lt;obtain⟨aX,a9,X,Y⟩:=H.r3;have lb:=H.lt;have lr:=or.lt;have le:=I.lt;go_wp2_with fail
 refine(xK _ (M.out.af zj)).mono ?_;rintro e w3 ⟨rfl,st⟩;have sk:=bA T st;replace B:=bS B sk;replace N:=N.ae sk;replace H:=H.ae sk;replace or:=or.ae sk;replace I:=I.ae sk;replace J:=E6 (J.out.ae sk);replace M:=E6 (M.out.ae sk);clear st sk la aX a9 X Y lb lr le;go_wp2_with fail
 refine(xX _).mono ?_;rintro e w4 ⟨rfl,st⟩;have sk:=bA w3 st;replace B:=bS B sk;replace N:=N.ae sk;replace H:=H.ae sk;replace or:=or.ae sk;replace I:=I.ae sk;replace J:=E6 (J.out.ae sk);replace M:=E6 (M.out.ae sk);clear st sk;obtain⟨ce,bl,bi,b9⟩:=N.r3;have la:=N.lt;obtain⟨aX,a9,X,Y⟩:=H.r3;have lb:=H.lt;have lr:=or.lt;have le:=I.lt;go_wp2_with fail
 refine(cl _ _ _ (J.out.af zj) (M.out.af zj)).mono ?_;rintro e w5 ⟨vn,vd,rfl,aY,Z,st⟩;have sk:=bA w4 st;replace B:=bS B sk;replace N:=N.ae sk;replace H:=H.ae sk;replace or:=or.ae sk;replace I:=I.ae sk;replace J:=E6 (J.out.ae sk);replace M:=E6 (M.out.ae sk);clear st sk ce bl bi b9 la aX a9 X Y lb lr le;obtain⟨n1,n2,n3,n4,rfl⟩:=aY.ak;obtain⟨d1,d2,d3,d4,rfl⟩:=Z.ak;have Fn:=E6 aY;clear aY;have Fd:=E6 Z;clear Z;go_wp2_with fail
 refine(rd _ _ _ (Fn.out.af zj) (Fd.out.af zj)).mono ?_;rintro e w6 ⟨vq,rfl,ah,st⟩;have sk:=bA w5 st;replace B:=bS B sk;replace N:=N.ae sk;replace H:=H.ae sk;replace or:=or.ae sk;replace I:=I.ae sk;replace J:=E6 (J.out.ae sk);replace M:=E6 (M.out.ae sk);replace Fn:=E6 (Fn.out.ae sk);replace Fd:=E6 (Fd.out.ae sk);clear st sk;have la:=N.lt;have lb:=H.lt;obtain⟨bt,br,be,bh,fr,lr⟩:=or.s3;have bg:=I.q0;have fe:=I.fr;have le:=I.lt;obtain⟨q1,q2,q3,q4,q5,q6,q7,q8,rfl⟩:=ah.ak;have Fq:=E6 ah;clear ah;go_wp2_with fail
 refine leaves_cons (f:=56) (args:=#[Ek (some ⟨w.heap.size+1+1+1,0,none⟩)]) D8 (by simp[go_sem]) ?_;refine(ql _ _).mono ?_;rintro e u' cg ⟨rfl,rfl,rfl⟩;refine⟨_,by simp[results,Tryz.results52,go_sem,la,lb,bt,br,be,bh,fr,lr,bg,fe,le]; rfl,?_⟩;exact⟨_,rfl,Fq.out.af zj,zh⟩
theorem BE (w:Ee) (N:FR w va r) (hb:FR w vb s) (hr:sz r i) (hs:sz s j) (hk:i+j<=4094) :
  Ed Ec 123 #[va,vb] w fun e E=>∃v,e = Eh (Ev #[v,Ey Ew 0])/\FR E v (r+s)/\zf w E:=by
 obtain⟨I,J,h3⟩:=qS hr hs;have g1:=z9 I D5;have g2:=z9 J D5;have g4:=z9 h3 D5;have g3:=z9 (xr I J) D5;have bo:∀E u v,FR E u r->FR E v s->Ed Ec 52 #[u,v,.func (.func 154) #[] #[]] E fun e w2=>∃v,e = Eh (Ev #[v,Ey Ew 0])/\FR w2 v (r+s)/\zf E w2:=fun E u v I J=>BD E I J g1 g2 g3 g4;obtain⟨a1,a2,a3,a4,a5,a6,a7,a8,rfl⟩:=N.ak;obtain⟨b1,b2,b3,b4,b5,b6,b7,b8,rfl⟩:=hb.ak;have T:=E6 N;have Z:=E6 hb;clear N hb hr hs hk g1 g2 g3 g4;clear I J h3
 go_enter Tryz.func123,Tryz.ntmps123
 go_wp2_with fail
 refine(bo _ _ _ (T.out.af zj) (Z.out.af zj)).mono ?_;rintro e M ⟨vq,rfl,H,st⟩;have B:=bA w st;have X:=kB w st;have oa:ai M w.heap.size 28 #[Ez a1,Ex a2 a3 a4,Ez a5,Ex a6 a7 a8]:=ai.au st;have ob:ai M (w.heap.size+1) 28 #[Ez b1,Ex b2 b3 b4,Ez b5,Ex b6 b7 b8]:=ai.au st;have or:ai M (w.heap.size+1+1) 28 jp:=ai.au st;replace T:=E6 (T.out.af X);replace Z:=E6 (Z.out.af X);clear X;clear st;have la:=oa.lt;have lb:=ob.lt;obtain⟨aX,ah,Y,a9,fr,lr⟩:=or.s3;obtain⟨q1,q2,q3,q4,q5,q6,q7,q8,rfl⟩:=H.ak;have Fq:=E6 H;clear H;go_wp2_with fail
 refine En (by simp[results,Tryz.results123,go_sem,la,lb,aX,ah,Y,a9,fr,lr]; rfl) rfl ?_;exact⟨_,rfl,Fq.out.af zj,zh⟩
theorem BF (w:Ee) (ha:FR w va r) (hb:FR w vb s) (g1:fits (r.num*s.den)) (g2:fits (s.num*r.den)) (g3:fits (r.num*s.den-s.num*r.den)) (g4:fits (r.den*s.den)) :
  Ed Ec 151 #[va,vb] w fun e E=>∃u v,e = Eh (Ev #[u,v])/\az E u (r.num*s.den-s.num*r.den)/\az E v (r.den*s.den)/\zf w E:=by
 have fa:=ha.fit;have fb:=hb.fit
 have m2:∀E u v,az E u (r.den)->az E v (s.den)->Ed Ec 55 #[u,v] E fun e I=>∃v,e = Eh (Ev #[v,Ey Ew 0])/\az I v (r.den*s.den)/\zf E I:=fun E u v X Z=>by
  have:=VU E X Z fa.2 fb.2;rw[zM g4,zH g4]at this;exact this
 have ci:∀E u v,FR E u r->FR E v s->Ed Ec 60 #[u,v] E fun e I=>∃v,e = Eh v/\az I v (r.num*s.den)/\zf E I:=fun E u v X Z=>vL E X Z g1;have br:∀E u v,FR E u s->FR E v r->Ed Ec 60 #[u,v] E fun e I=>∃v,e = Eh v/\az I v (s.num*r.den)/\zf E I:=fun E u v X Z=>vL E X Z g2
 have ad:∀E u v,az E u (r.num*s.den)->az E v (s.num*r.den)->Ed Ec 152 #[u,v] E fun e I=>∃v,e = Eh (Ev #[v,Ey Ew 0])/\az I v (r.num*s.den-s.num*r.den)/\zf E I:=fun E u v X Z=>by
  have:=Cx E X Z g1 g2;rw[zM g3,zH g3]at this;exact this
 have ah:=ha;have T:=hb;obtain⟨a2,a3,a4,a6,a7,a8,rfl,na,da,-⟩:=ha.bW;obtain⟨b2,b3,b4,b6,b7,b8,rfl,a9,db,-⟩:=hb.bW;obtain⟨ga,be⟩:∃g,decide (r<0)=g:=⟨_,rfl⟩;obtain⟨gb,bh⟩:∃g,decide (s<0)=g:=⟨_,rfl⟩;rw[be]at na ah|-;rw[bh]at a9 T|-;have Fa:=E6 ah;have Fb:=E6 T;have aY:=E6 na;have b9:=E6 a9;have Y:=E6 da;have aX:=E6 db;clear be bh na da a9 db ha hb ah T fa fb;clear g3 g4 g1 g2
 go_enter Tryz.func151,Tryz.ntmps151
 go_upto_region 1 with fail
 refine aj.cC w w [.o w.heap.size 28 #[Ez ga,Ex a2 a3 a4,Ez false,Ex a6 a7 a8],.o (w.heap.size+1) 28 #[Ez gb,Ex b2 b3 b4,Ez false,Ex b6 b7 b8],.s (w.heap.size+1+1) 26 #[Ez false,Ex none 0 0] 18 [9] aj.v1,.s (w.heap.size+1+1+1) 26 #[Ez false,Ex none 0 0] 19 [17] aj.v1] [2,5,6,9,14,17,18,19] [(2,Zj),(5,Zj),(6,Zk 0),(9,Zj),(14,Zk 0),(17,Zj)] [(2,dH (r.num*s.den)),(5,dH (s.num*r.den)),(6,cz (r.num*s.den-s.num*r.den) 0),(9,dH (r.num*s.den-s.num*r.den)),(14,cz (r.den*s.den) 0),(17,dH (r.den*s.den))] [(6,[(2,some 8),(5,some 11)]),(9,[(6,some 12)]),(17,[(14,some 20)]),(18,[(9,some 15)]),(19,[(17,some 23)]),(20,[(2,some 8),(5,some 11),(6,some 12),(9,some 15),(14,some 20),(17,some 23)])] [(9,[18]),(17,[19])] (by simp only[aP]; exact⟨zh,zj,zw,zw,zw,zw,trivial⟩) (fun N0 bi bg Q' H hQ=> ?_);clear bi;refine aj.aO 6 (fun _ _ _ h=>h.e.1.r3) ?_;refine aj.aO 7 (fun _ _ _ h=>h.e.2.1.r3) ?_;refine aj.sC H (fun D v' J h _=>ci J _ _ (Fa.out.af h.k) (Fb.out.af h.k)) ?_;rintro _ ⟨cx,dx,dz,dP,rfl⟩;refine aj.dD rfl ?_;refine aj.aO 9 (fun _ _ _ h=>h.e.2.1.r3) ?_;refine aj.aO 10 (fun _ _ _ h=>h.e.1.r3) ?_;refine aj.sC H (fun D v' J h _=>br J _ _ (Fb.out.af h.k) (Fa.out.af h.k)) ?_;rintro _ ⟨co,ek,d9,ed,rfl⟩;refine aj.dD rfl ?_;refine aj.sC H (fun D v' J _ M=>ad J _ _ (M (2,some 8) (.head _) rfl).2.2 (M (5,some 11) (.tail _ (.head _)) rfl).2.2) ?_;rintro _ ⟨cy,dk,dc,cN,rfl⟩;refine aj.dD rfl ?_
 repeat refine aj.aD _ ?_
 refine aj.sC H (fun D v' J _ M=>kJ J (M (6,some 12) (.head _) rfl).2.2.get) ?_;rintro _ ⟨N1,N2,N3,N4,rfl⟩;refine aj.dD rfl ?_;refine aj.aD 16 ?_;refine aj.aO 17 (fun _ _ _ h=>h.e.1.r3) ?_;refine aj.aD 18 ?_;refine aj.aO 19 (fun _ _ _ h=>h.e.2.1.r3) ?_;refine aj.sC H (fun D v' J h _=>m2 J _ _ (Y.out.af h.k) (aX.out.af h.k)) ?_;rintro _ ⟨cn,cU,dl,dy,rfl⟩;refine aj.dD rfl ?_
 repeat refine aj.aD _ ?_
 refine aj.sC H (fun D v' J _ M=>kJ J (M (14,some 20) (.head _) rfl).2.2.get) ?_;rintro _ ⟨D1,D2,D3,D4,rfl⟩;refine aj.dD rfl ?_;refine aj.sS H ?_;refine aj.sS H ?_;refine aj.sE (fun _ v' w1 B N hl _ _ M=> ?_);simp only[xx,xA]at hl;obtain⟨oa,ob,op,oq,-⟩:=hl;have op:ai w1 (w.heap.size+1+1) 26 #[Ez N1,Ex N2 N3 N4]:=op;have oq:ai w1 (w.heap.size+1+1+1) 26 #[Ez D1,Ex D2 D3 D4]:=oq;have FN:Hid (az w1 (.agg #[Ez N1,Ex N2 N3 N4]) (r.num*s.den-s.num*r.den)):=(M (9,some 15) (.tail _ (.tail _ (.tail _ (.head _)))) rfl).2.2;have FD:Hid (az w1 (.agg #[Ez D1,Ex D2 D3 D4]) (r.den*s.den)):=(M (17,some 23) (.tail _ (.tail _ (.tail _ (.tail _ (.tail _ (.head _)))))) rfl).2.2;replace Fa:=E6 (Fa.out.af N);replace Fb:=E6 (Fb.out.af N);replace aY:=E6 (aY.out.af N);replace Y:=E6 (Y.out.af N);replace b9:=E6 (b9.out.af N);replace aX:=E6 (aX.out.af N);clear M N;refine hQ _ _ ?_;clear hQ H Q' bg;have la:=oa.lt;have lb:=ob.lt;obtain⟨bt,bl⟩:=op.r1;have lp:=op.lt;obtain⟨ce,cg⟩:=oq.r1;have lq:=oq.lt;go_wp2_with fail
 refine En (by simp[results,Tryz.results151,go_sem,la,lb,bt,bl,lp,ce,cg,lq]; rfl) rfl ?_;exact⟨_,_,rfl,FN.out.af zj,FD.out.af zj,zh⟩
theorem BG (w:Ee) (ha:FR w va r) (hb:FR w vb s) (g1:fits (r.num*s.den)) (g2:fits (s.num*r.den)) (g3:fits (r.num*s.den-s.num*r.den)) (g4:fits (r.den*s.den)) :
  Ed Ec 52 #[va,vb,.func (.func 151) #[] #[]] w fun e E=>∃v,e = Eh (Ev #[v,Ey Ew 0])/\FR E v (r-s)/\zf w E:=by
 have cl:∀E u v,FR E u r->FR E v s->Ed Ec 151 #[u,v] E fun e T=>∃u v,e = Eh (Ev #[u,v])/\az T u (r.num*s.den-s.num*r.den)/\az T v (r.den*s.den)/\zf E T:=fun E u v h1 h2=>BF E h1 h2 g1 g2 g3 g4
 have rd:∀E u v,az E u (r.num*s.den-s.num*r.den)->az E v (r.den*s.den)->Ed Ec 92 #[u,v] E fun e T=>∃v,e = Eh v/\FR T v (r-s)/\zf E T:=fun E u v h1 h2=>by
  have:=Zq E h1 h2 g3 g4 (qM r s);rw[YG]at this;exact this
 obtain⟨a1,a2,a3,a4,a5,a6,a7,a8,rfl⟩:=ha.ak;obtain⟨b1,b2,b3,b4,b5,b6,b7,b8,rfl⟩:=hb.ak;have J:=E6 ha;have M:=E6 hb;clear ha hb g3 g4 g1 g2
 go_enter_defers Tryz.func52,Tryz.ntmps52
 go_wp2_with fail
 refine(xK _ (J.out.af zj)).mono ?_;rintro e w1 ⟨rfl,st⟩;have B:=bA w st;have kp:=kB w st;have N:ai w1 w.heap.size 28 #[Ez a1,Ex a2 a3 a4,Ez a5,Ex a6 a7 a8]:=ai.au st;have H:ai w1 (w.heap.size+1) 28 #[Ez b1,Ex b2 b3 b4,Ez b5,Ex b6 b7 b8]:=ai.au st;have or:ai w1 (w.heap.size+1+1) 28 jp:=ai.au st;have I:ai w1 (w.heap.size+1+1+1) 32 #[Ey Ew 0]:=ai.au st;replace J:=E6 (J.out.af kp);replace M:=E6 (M.out.af kp);clear kp;clear st;go_wp2_with fail
 refine(xX _).mono ?_;rintro e T ⟨rfl,st⟩;have sk:=bA w1 st;replace B:=bS B sk;replace N:=N.ae sk;replace H:=H.ae sk;replace or:=or.ae sk;replace I:=I.ae sk;replace J:=E6 (J.out.ae sk);replace M:=E6 (M.out.ae sk);clear st sk;have la:=N.lt;obtain⟨aX,a9,X,Y⟩:=H.r3;have lb:=H.lt;have lr:=or.lt;have le:=I.lt;go_wp2_with fail
 refine(xK _ (M.out.af zj)).mono ?_;rintro e w3 ⟨rfl,st⟩;have sk:=bA T st;replace B:=bS B sk;replace N:=N.ae sk;replace H:=H.ae sk;replace or:=or.ae sk;replace I:=I.ae sk;replace J:=E6 (J.out.ae sk);replace M:=E6 (M.out.ae sk);clear st sk la aX a9 X Y lb lr le;go_wp2_with fail
 refine(xX _).mono ?_;rintro e w4 ⟨rfl,st⟩;have sk:=bA w3 st;replace B:=bS B sk;replace N:=N.ae sk;replace H:=H.ae sk;replace or:=or.ae sk;replace I:=I.ae sk;replace J:=E6 (J.out.ae sk);replace M:=E6 (M.out.ae sk);clear st sk;obtain⟨ce,bl,bi,b9⟩:=N.r3;have la:=N.lt;obtain⟨aX,a9,X,Y⟩:=H.r3;have lb:=H.lt;have lr:=or.lt;have le:=I.lt;go_wp2_with fail
 refine(cl _ _ _ (J.out.af zj) (M.out.af zj)).mono ?_;rintro e w5 ⟨vn,vd,rfl,aY,Z,st⟩;have sk:=bA w4 st;replace B:=bS B sk;replace N:=N.ae sk;replace H:=H.ae sk;replace or:=or.ae sk;replace I:=I.ae sk;replace J:=E6 (J.out.ae sk);replace M:=E6 (M.out.ae sk);clear st sk ce bl bi b9 la aX a9 X Y lb lr le;obtain⟨n1,n2,n3,n4,rfl⟩:=aY.ak;obtain⟨d1,d2,d3,d4,rfl⟩:=Z.ak;have Fn:=E6 aY;clear aY;have Fd:=E6 Z;clear Z;go_wp2_with fail
 refine(rd _ _ _ (Fn.out.af zj) (Fd.out.af zj)).mono ?_;rintro e w6 ⟨vq,rfl,ah,st⟩;have sk:=bA w5 st;replace B:=bS B sk;replace N:=N.ae sk;replace H:=H.ae sk;replace or:=or.ae sk;replace I:=I.ae sk;replace J:=E6 (J.out.ae sk);replace M:=E6 (M.out.ae sk);replace Fn:=E6 (Fn.out.ae sk);replace Fd:=E6 (Fd.out.ae sk);clear st sk;have la:=N.lt;have lb:=H.lt;obtain⟨bt,br,be,bh,fr,lr⟩:=or.s3;have bg:=I.q0;have fe:=I.fr;have le:=I.lt;obtain⟨q1,q2,q3,q4,q5,q6,q7,q8,rfl⟩:=ah.ak;have Fq:=E6 ah;clear ah;go_wp2_with fail
 refine leaves_cons (f:=56) (args:=#[Ek (some ⟨w.heap.size+1+1+1,0,none⟩)]) D8 (by simp[go_sem]) ?_;refine(ql _ _).mono ?_;rintro e u' cg ⟨rfl,rfl,rfl⟩;refine⟨_,by simp[results,Tryz.results52,go_sem,la,lb,bt,br,be,bh,fr,lr,bg,fe,le]; rfl,?_⟩;exact⟨_,rfl,Fq.out.af zj,zh⟩
theorem GA (w:Ee) (N:FR w va r) (hb:FR w vb s) (hr:sz r i) (hs:sz s j) (hk:i+j<=4094) :
  Ed Ec 119 #[va,vb] w fun e E=>∃v,e = Eh (Ev #[v,Ey Ew 0])/\FR E v (r-s)/\zf w E:=by
 obtain⟨I,J,h3⟩:=qS hr hs;have g1:=z9 I D5;have g2:=z9 J D5;have g4:=z9 h3 D5;have g3:fits (r.num*s.den-s.num*r.den):=by rw[Int.sub_eq_add_neg]; exact z9 (xr I (by rw[jO]; exact J)) D5
 have bo:∀E u v,FR E u r->FR E v s->Ed Ec 52 #[u,v,.func (.func 151) #[] #[]] E fun e w2=>∃v,e = Eh (Ev #[v,Ey Ew 0])/\FR w2 v (r-s)/\zf E w2:=fun E u v I J=>BG E I J g1 g2 g3 g4;obtain⟨a1,a2,a3,a4,a5,a6,a7,a8,rfl⟩:=N.ak;obtain⟨b1,b2,b3,b4,b5,b6,b7,b8,rfl⟩:=hb.ak;have T:=E6 N;have Z:=E6 hb;clear N hb hr hs hk g1 g2 g3 g4;clear I J h3
 go_enter Tryz.func119,Tryz.ntmps119
 go_wp2_with fail
 refine(bo _ _ _ (T.out.af zj) (Z.out.af zj)).mono ?_;rintro e M ⟨vq,rfl,H,st⟩;have B:=bA w st;have X:=kB w st;have oa:ai M w.heap.size 28 #[Ez a1,Ex a2 a3 a4,Ez a5,Ex a6 a7 a8]:=ai.au st;have ob:ai M (w.heap.size+1) 28 #[Ez b1,Ex b2 b3 b4,Ez b5,Ex b6 b7 b8]:=ai.au st;have or:ai M (w.heap.size+1+1) 28 jp:=ai.au st;replace T:=E6 (T.out.af X);replace Z:=E6 (Z.out.af X);clear X;clear st;have la:=oa.lt;have lb:=ob.lt;obtain⟨aX,ah,Y,a9,fr,lr⟩:=or.s3;obtain⟨q1,q2,q3,q4,q5,q6,q7,q8,rfl⟩:=H.ak;have Fq:=E6 H;clear H;go_wp2_with fail
 refine En (by simp[results,Tryz.results119,go_sem,la,lb,aX,ah,Y,a9,fr,lr]; rfl) rfl ?_;exact⟨_,rfl,Fq.out.af zj,zh⟩
theorem BH (w:Ee) (ha:FR w va r) (hb:FR w vb s) (g3:fits (r.num*s.num)) (g4:fits (r.den*s.den)) :
  Ed Ec 53 #[va,vb] w fun e H=>∃u v,e = Eh (Ev #[u,v])/\az H u (r.num*s.num)/\az H v (r.den*s.den)/\zf w H:=by
 have fa:=ha.fit;have fb:=hb.fit
 have m2:∀H u v,az H u (r.den)->az H v (s.den)->Ed Ec 55 #[u,v] H fun e w2=>∃v,e = Eh (Ev #[v,Ey Ew 0])/\az w2 v (r.den*s.den)/\zf H w2:=fun H u v h1 h2=>by
  have:=VU H h1 h2 fa.2 fb.2;rw[zM g4,zH g4]at this;exact this
 have m1:∀H u v,az H u (r.num)->az H v (s.num)->Ed Ec 55 #[u,v] H fun e w2=>∃v,e = Eh (Ev #[v,Ey Ew 0])/\az w2 v (r.num*s.num)/\zf H w2:=fun H u v h1 h2=>by
  have:=VU H h1 h2 fa.1 fb.1;rw[zM g3,zH g3]at this;exact this
 have T:=ha;have Z:=hb;obtain⟨a2,a3,a4,a6,a7,a8,rfl,na,da,-⟩:=ha.bW;obtain⟨b2,b3,b4,b6,b7,b8,rfl,a9,db,-⟩:=hb.bW;obtain⟨ga,b9⟩:∃g,decide (r<0)=g:=⟨_,rfl⟩;obtain⟨gb,aY⟩:∃g,decide (s<0)=g:=⟨_,rfl⟩;rw[b9]at na T|-;rw[aY]at a9 Z|-;have Fa:=E6 T;have Fb:=E6 Z;have ah:=E6 na;have J:=E6 a9;have N:=E6 da;have X:=E6 db;clear b9 aY na da a9 db ha hb T Z fa fb;clear g3 g4
 go_enter Tryz.func53,Tryz.ntmps53
 go_upto_region 1 with fail
 refine aj.cC w w [.o w.heap.size 28 #[Ez ga,Ex a2 a3 a4,Ez false,Ex a6 a7 a8],.o (w.heap.size+1) 28 #[Ez gb,Ex b2 b3 b4,Ez false,Ex b6 b7 b8],.s (w.heap.size+1+1) 26 #[Ez false,Ex none 0 0] 16 [7] aj.v1,.s (w.heap.size+1+1+1) 26 #[Ez false,Ex none 0 0] 17 [15] aj.v1] [4,7,12,15,16,17] [(4,Zk 0),(7,Zj),(12,Zk 0),(15,Zj)] [(4,cz (r.num*s.num) 0),(7,dH (r.num*s.num)),(12,cz (r.den*s.den) 0),(15,dH (r.den*s.den))] [(7,[(4,some 10)]),(15,[(12,some 18)]),(16,[(7,some 13)]),(17,[(15,some 21)]),(18,[(4,some 10),(7,some 13),(12,some 18),(15,some 21)])] [(7,[16]),(15,[17])] (by simp only[aP]; exact⟨zh,zj,zw,zw,zw,zw,trivial⟩) (fun N0 bl aX Q' E hQ=> ?_);clear bl;refine aj.aD 6 ?_;refine aj.aO 7 (fun _ _ _ h=>h.e.1.r3) ?_;refine aj.aD 8 ?_;refine aj.aO 9 (fun _ _ _ h=>h.e.2.1.r3) ?_;refine aj.sC E (fun D v' Y h _=>m1 Y _ _ (ah.out.af h.k) (J.out.af h.k)) ?_;rintro _ ⟨br,co,ce,cg,rfl⟩;refine aj.aB (b:=⟨#[_,_,_,_,_,_,_,_,_,_,_,_,_,_,_,_,_,_,_,_,_,_],_⟩) rfl ?_
 repeat refine aj.aD _ ?_
 refine aj.sC E (fun D v' Y _ M=>kJ Y (M (4,some 10) (.head _) rfl).2.2.get) ?_;rintro _ ⟨N1,N2,N3,N4,rfl⟩;refine aj.aB (b:=⟨#[_,_,_,_,_,_,_,_,_,_,_,_,_,_,_,_,_,_,_,_,_,_],_⟩) rfl ?_;refine aj.aD 14 ?_;refine aj.aO 15 (fun _ _ _ h=>h.e.1.r3) ?_;refine aj.aD 16 ?_;refine aj.aO 17 (fun _ _ _ h=>h.e.2.1.r3) ?_;refine aj.sC E (fun D v' Y h _=>m2 Y _ _ (N.out.af h.k) (X.out.af h.k)) ?_;rintro _ ⟨cx,cn,ci,bt,rfl⟩;refine aj.aB (b:=⟨#[_,_,_,_,_,_,_,_,_,_,_,_,_,_,_,_,_,_,_,_,_,_],_⟩) rfl ?_
 repeat refine aj.aD _ ?_
 refine aj.sC E (fun D v' Y _ M=>kJ Y (M (12,some 18) (.head _) rfl).2.2.get) ?_;rintro _ ⟨D1,D2,D3,D4,rfl⟩;refine aj.aB (b:=⟨#[_,_,_,_,_,_,_,_,_,_,_,_,_,_,_,_,_,_,_,_,_,_],_⟩) rfl ?_;refine aj.sS E ?_;refine aj.sS E ?_;refine aj.sE (fun _ v' w1 B I hl _ _ M=> ?_);simp only[xx,xA]at hl;obtain⟨oa,ob,op,oq,-⟩:=hl;have op:ai w1 (w.heap.size+1+1) 26 #[Ez N1,Ex N2 N3 N4]:=op;have oq:ai w1 (w.heap.size+1+1+1) 26 #[Ez D1,Ex D2 D3 D4]:=oq;have FN:Hid (az w1 (.agg #[Ez N1,Ex N2 N3 N4]) (r.num*s.num)):=(M (7,some 13) (.tail _ (.head _)) rfl).2.2;have FD:Hid (az w1 (.agg #[Ez D1,Ex D2 D3 D4]) (r.den*s.den)):=(M (15,some 21) (.tail _ (.tail _ (.tail _ (.head _)))) rfl).2.2;replace Fa:=E6 (Fa.out.af I);replace Fb:=E6 (Fb.out.af I);replace ah:=E6 (ah.out.af I);replace N:=E6 (N.out.af I);replace J:=E6 (J.out.af I);replace X:=E6 (X.out.af I);clear M I;refine hQ _ _ ?_;clear hQ E Q' aX;have la:=oa.lt;have lb:=ob.lt;obtain⟨be,bh⟩:=op.r1;have lp:=op.lt;obtain⟨bg,bi⟩:=oq.r1;have lq:=oq.lt;go_wp2_with fail
 refine En (by simp[results,Tryz.results53,go_sem,la,lb,be,bh,lp,bg,bi,lq]; rfl) rfl ?_;exact⟨_,_,rfl,FN.out.af zj,FD.out.af zj,zh⟩
theorem BI (w:Ee) (ha:FR w va r) (hb:FR w vb s) (g3:fits (r.num*s.num)) (g4:fits (r.den*s.den)) :
  Ed Ec 52 #[va,vb,.func (.func 53) #[] #[]] w fun e E=>∃v,e = Eh (Ev #[v,Ey Ew 0])/\FR E v (r*s)/\zf w E:=by
 have cl:∀E u v,FR E u r->FR E v s->Ed Ec 53 #[u,v] E fun e T=>∃u v,e = Eh (Ev #[u,v])/\az T u (r.num*s.num)/\az T v (r.den*s.den)/\zf E T:=fun E u v h1 h2=>BH E h1 h2 g3 g4
 have rd:∀E u v,az E u (r.num*s.num)->az E v (r.den*s.den)->Ed Ec 92 #[u,v] E fun e T=>∃v,e = Eh v/\FR T v (r*s)/\zf E T:=fun E u v h1 h2=>by
  have:=Zq E h1 h2 g3 g4 (qM r s);rw[YE]at this;exact this
 obtain⟨a1,a2,a3,a4,a5,a6,a7,a8,rfl⟩:=ha.ak;obtain⟨b1,b2,b3,b4,b5,b6,b7,b8,rfl⟩:=hb.ak;have J:=E6 ha;have M:=E6 hb;clear ha hb g3 g4
 go_enter_defers Tryz.func52,Tryz.ntmps52
 go_wp2_with fail
 refine(xK _ (J.out.af zj)).mono ?_;rintro e w1 ⟨rfl,st⟩;have B:=bA w st;have kp:=kB w st;have N:ai w1 w.heap.size 28 #[Ez a1,Ex a2 a3 a4,Ez a5,Ex a6 a7 a8]:=ai.au st;have H:ai w1 (w.heap.size+1) 28 #[Ez b1,Ex b2 b3 b4,Ez b5,Ex b6 b7 b8]:=ai.au st;have or:ai w1 (w.heap.size+1+1) 28 jp:=ai.au st;have I:ai w1 (w.heap.size+1+1+1) 32 #[Ey Ew 0]:=ai.au st;replace J:=E6 (J.out.af kp);replace M:=E6 (M.out.af kp);clear kp;clear st;go_wp2_with fail
 refine(xX _).mono ?_;rintro e T ⟨rfl,st⟩;have sk:=bA w1 st;replace B:=bS B sk;replace N:=N.ae sk;replace H:=H.ae sk;replace or:=or.ae sk;replace I:=I.ae sk;replace J:=E6 (J.out.ae sk);replace M:=E6 (M.out.ae sk);clear st sk;have la:=N.lt;obtain⟨aX,a9,X,Y⟩:=H.r3;have lb:=H.lt;have lr:=or.lt;have le:=I.lt;go_wp2_with fail
 refine(xK _ (M.out.af zj)).mono ?_;rintro e w3 ⟨rfl,st⟩;have sk:=bA T st;replace B:=bS B sk;replace N:=N.ae sk;replace H:=H.ae sk;replace or:=or.ae sk;replace I:=I.ae sk;replace J:=E6 (J.out.ae sk);replace M:=E6 (M.out.ae sk);clear st sk la aX a9 X Y lb lr le;go_wp2_with fail
 refine(xX _).mono ?_;rintro e w4 ⟨rfl,st⟩;have sk:=bA w3 st;replace B:=bS B sk;replace N:=N.ae sk;replace H:=H.ae sk;replace or:=or.ae sk;replace I:=I.ae sk;replace J:=E6 (J.out.ae sk);replace M:=E6 (M.out.ae sk);clear st sk;obtain⟨ce,bl,bi,b9⟩:=N.r3;have la:=N.lt;obtain⟨aX,a9,X,Y⟩:=H.r3;have lb:=H.lt;have lr:=or.lt;have le:=I.lt;go_wp2_with fail
 refine(cl _ _ _ (J.out.af zj) (M.out.af zj)).mono ?_;rintro e w5 ⟨vn,vd,rfl,aY,Z,st⟩;have sk:=bA w4 st;replace B:=bS B sk;replace N:=N.ae sk;replace H:=H.ae sk;replace or:=or.ae sk;replace I:=I.ae sk;replace J:=E6 (J.out.ae sk);replace M:=E6 (M.out.ae sk);clear st sk ce bl bi b9 la aX a9 X Y lb lr le;obtain⟨n1,n2,n3,n4,rfl⟩:=aY.ak;obtain⟨d1,d2,d3,d4,rfl⟩:=Z.ak;have Fn:=E6 aY;clear aY;have Fd:=E6 Z;clear Z;go_wp2_with fail
 refine(rd _ _ _ (Fn.out.af zj) (Fd.out.af zj)).mono ?_;rintro e w6 ⟨vq,rfl,ah,st⟩;have sk:=bA w5 st;replace B:=bS B sk;replace N:=N.ae sk;replace H:=H.ae sk;replace or:=or.ae sk;replace I:=I.ae sk;replace J:=E6 (J.out.ae sk);replace M:=E6 (M.out.ae sk);replace Fn:=E6 (Fn.out.ae sk);replace Fd:=E6 (Fd.out.ae sk);clear st sk;have la:=N.lt;have lb:=H.lt;obtain⟨bt,br,be,bh,fr,lr⟩:=or.s3;have bg:=I.q0;have fe:=I.fr;have le:=I.lt;obtain⟨q1,q2,q3,q4,q5,q6,q7,q8,rfl⟩:=ah.ak;have Fq:=E6 ah;clear ah;go_wp2_with fail
 refine leaves_cons (f:=56) (args:=#[Ek (some ⟨w.heap.size+1+1+1,0,none⟩)]) D8 (by simp[go_sem]) ?_;refine(ql _ _).mono ?_;rintro e u' cg ⟨rfl,rfl,rfl⟩;refine⟨_,by simp[results,Tryz.results52,go_sem,la,lb,bt,br,be,bh,fr,lr,bg,fe,le]; rfl,?_⟩;exact⟨_,rfl,Fq.out.af zj,zh⟩
theorem BJ (w:Ee) (M:FR w va r) (hb:FR w vb s) (hr:sz r i) (Z:sz s j) (J:i+j<=4095) :
  Ed Ec 20 #[va,vb] w fun e E=>∃v,e = Eh (Ev #[v,Ey Ew 0])/\FR E v (r*s)/\zf w E:=by
 have d1:zi (r.den:Int)<=bp i:=by rw[xv]; exact hr.2
 have d2:zi (s.den:Int)<=bp j:=by rw[xv]; exact Z.2
 have g3:=z9 (yj hr.1 Z.1) J;have g4:=z9 (yj d1 d2) J;have bo:∀E u v,FR E u r->FR E v s->Ed Ec 52 #[u,v,.func (.func 53) #[] #[]] E fun e w2=>∃v,e = Eh (Ev #[v,Ey Ew 0])/\FR w2 v (r*s)/\zf E w2:=fun E u v h1 h2=>BI E h1 h2 g3 g4;obtain⟨a1,a2,a3,a4,a5,a6,a7,a8,rfl⟩:=M.ak;obtain⟨b1,b2,b3,b4,b5,b6,b7,b8,rfl⟩:=hb.ak;have N:=E6 M;have Y:=E6 hb;clear M hb hr Z J g3 g4;clear d1 d2
 go_enter Tryz.func20,Tryz.ntmps20
 go_wp2_with fail
 refine(bo _ _ _ (N.out.af zj) (Y.out.af zj)).mono ?_;rintro e I ⟨vq,rfl,H,st⟩;have B:=bA w st;have T:=kB w st;have oa:ai I w.heap.size 28 #[Ez a1,Ex a2 a3 a4,Ez a5,Ex a6 a7 a8]:=ai.au st;have ob:ai I (w.heap.size+1) 28 #[Ez b1,Ex b2 b3 b4,Ez b5,Ex b6 b7 b8]:=ai.au st;have or:ai I (w.heap.size+1+1) 28 jp:=ai.au st;replace N:=E6 (N.out.af T);replace Y:=E6 (Y.out.af T);clear T;clear st;have la:=oa.lt;have lb:=ob.lt;obtain⟨aX,ah,X,a9,fr,lr⟩:=or.s3;obtain⟨q1,q2,q3,q4,q5,q6,q7,q8,rfl⟩:=H.ak;have Fq:=E6 H;clear H;go_wp2_with fail
 refine En (by simp[results,Tryz.results20,go_sem,la,lb,aX,ah,X,a9,fr,lr]; rfl) rfl ?_;exact⟨_,rfl,Fq.out.af zj,zh⟩
theorem GB (w:Ee) (ha:FR w va r) (hb:FR w vb s) (hr:sz r i) (hs:sz s j) (hk:i+j<=4095) :
  Ed Ec 21 #[va,vb] w fun e E=>e = Eh (Ev #[Ey Ew (z8 r s),Ey Ew 0])/\zf w E:=by
 obtain⟨Y,Z,h3⟩:=qS hr hs;have g1:=z9 Y hk;have g2:=z9 Z hk;have bt:∀E u v,FR E u r->FR E v s->Ed Ec 60 #[u,v] E fun e X=>∃v,e = Eh v/\az X v (r.num*s.den)/\zf E X:=fun E u v Y Z=>vL E Y Z g1;have bg:∀E u v,FR E u s->FR E v r->Ed Ec 60 #[u,v] E fun e X=>∃v,e = Eh v/\az X v (s.num*r.den)/\zf E X:=fun E u v Y Z=>vL E Y Z g2
 have cm:∀E v u,az E v (r.num*s.den)->az E u (s.num*r.den)->Ed Ec 59 #[v,u] E fun e X=>e = Eh (Ev #[Ey Ew (z8 r s),Ey Ew 0])/\zf E X:=fun E v u Y Z=>by
  have:=Bh E Y Z g1 g2;rw[Zh]at this;exact this
 obtain⟨c,hc⟩:∃c,z8 r s=c:=⟨_,rfl⟩;rw[hc]at cm|-;obtain⟨a1,a2,a3,a4,a5,a6,a7,a8,rfl⟩:=ha.ak;obtain⟨b1,b2,b3,b4,b5,b6,b7,b8,rfl⟩:=hb.ak;have J:=E6 ha;have M:=E6 hb;clear ha hb hr hs hk g1 g2 Y Z h3 hc
 go_enter_defers Tryz.func21,Tryz.ntmps21
 go_wp2_with fail
 refine(xK _ (J.out.af zj)).mono ?_;rintro e w1 ⟨rfl,st⟩;have B:=bA w st;have kp:=kB w st;have T:ai w1 w.heap.size 28 #[Ez a1,Ex a2 a3 a4,Ez a5,Ex a6 a7 a8]:=ai.au st;have N:ai w1 (w.heap.size+1) 28 #[Ez b1,Ex b2 b3 b4,Ez b5,Ex b6 b7 b8]:=ai.au st;have I:ai w1 (w.heap.size+1+1) 32 #[Ey Ew 0]:=ai.au st;replace J:=E6 (J.out.af kp);replace M:=E6 (M.out.af kp);clear kp;clear st;go_wp2_with fail
 refine(xX _).mono ?_;rintro e X ⟨rfl,st⟩;have sk:=bA w1 st;replace B:=bS B sk;replace T:=T.ae sk;replace N:=N.ae sk;replace I:=I.ae sk;replace J:=E6 (J.out.ae sk);replace M:=E6 (M.out.ae sk);clear st sk;have la:=T.lt;obtain⟨aY,aX,a9,ah⟩:=N.r3;have lb:=N.lt;have le:=I.lt;go_wp2_with fail
 refine(xK _ (M.out.af zj)).mono ?_;rintro e w3 ⟨rfl,st⟩;have sk:=bA X st;replace B:=bS B sk;replace T:=T.ae sk;replace N:=N.ae sk;replace I:=I.ae sk;replace J:=E6 (J.out.ae sk);replace M:=E6 (M.out.ae sk);clear st sk la aY aX a9 ah lb le;go_wp2_with fail
 refine(xX _).mono ?_;rintro e w4 ⟨rfl,st⟩;have sk:=bA w3 st;replace B:=bS B sk;replace T:=T.ae sk;replace N:=N.ae sk;replace I:=I.ae sk;replace J:=E6 (J.out.ae sk);replace M:=E6 (M.out.ae sk);clear st sk;obtain⟨ce,br,bl,be⟩:=T.r3;have la:=T.lt;obtain⟨aY,aX,a9,ah⟩:=N.r3;have lb:=N.lt;have le:=I.lt;have ze:w.heap.size+1+1<w4.heap.size:=I.lt;have cg:=B.size
 go_upto_region 4 with fail
 refine aj.cC w w4 [.o w.heap.size 28 #[Ez a1,Ex a2 a3 a4,Ez a5,Ex a6 a7 a8],.o (w.heap.size+1) 28 #[Ez b1,Ex b2 b3 b4,Ez b5,Ex b6 b7 b8],.s (w.heap.size+1+1) 32 #[Ey Ew 0] 10 [] (aj.vx #[Ey Ew 0])] [2,5,6,10] [(2,Zj),(5,Zj),(6,fun z_=>z_ = Ev #[Ey Ew c,Ey Ew 0])] [(2,dH (r.num*s.den)),(5,dH (s.num*r.den))] [(6,[(2,some 14),(5,some 17)]),(10,[(6,some 18)]),(11,[(2,some 14),(5,some 17),(6,some 18)])] [] (by simp only[aP]; exact⟨zh,zj,zw,zw,zw,trivial⟩) (fun N0 bi b9 Q' H hQ=> ?_);clear ce br bl be la aY aX a9 ah lb le;clear bi;refine aj.aO 12 (fun _ _ _ h=>h.e.1.r3) ?_;refine aj.aO 13 (fun _ _ _ h=>h.e.2.1.r3) ?_;refine aj.sC H (fun D v' W' h _=>bt W' _ _ (J.out.af h.k) (M.out.af h.k)) ?_;rintro _ ⟨x1,x2,x3,x4,rfl⟩;refine aj.aB (b:=⟨#[_,_,_,_,_,_,_,_,_,_,_,_,_,_,_,_,_,_,_,_,_],_⟩) rfl ?_;refine aj.aO 15 (fun _ _ _ h=>h.e.2.1.r3) ?_;refine aj.aO 16 (fun _ _ _ h=>h.e.1.r3) ?_;refine aj.sC H (fun D v' W' h _=>bg W' _ _ (M.out.af h.k) (J.out.af h.k)) ?_;rintro _ ⟨y1,y2,y3,y4,rfl⟩;refine aj.aB (b:=⟨#[_,_,_,_,_,_,_,_,_,_,_,_,_,_,_,_,_,_,_,_,_],_⟩) rfl ?_;refine aj.sV H (fun D v' W' _ hf=>cm W' _ _ (hf (2,some 14) (.head _) rfl).2.2 (hf (5,some 17) (.tail _ (.head _)) rfl).2.2) ?_;refine aj.aB (b:=⟨#[_,_,_,_,_,_,_,_,_,_,_,_,_,_,_,_,_,_,_,_,_],_⟩) rfl ?_
 repeat refine aj.aD _ ?_
 refine aj.sS H ?_;refine aj.sE (fun _ v' w5 B jk hl _ _ hf=> ?_);simp only[xx,xA]at hl;obtain⟨T,N,I,-⟩:=hl;have I:ai w5 (w.heap.size+1+1) 32 #[Ey Ew 0]:=I;replace J:=E6 (J.out.af jk);replace M:=E6 (M.out.af jk);clear hf jk;refine hQ _ _ ?_;clear hQ H Q' b9;have la:=T.lt;have lb:=N.lt;have bh:=I.q0;have le:=I.lt;go_wp2_with fail
 refine leaves_cons (f:=56) (args:=#[Ek (some ⟨w.heap.size+1+1,0,none⟩)]) D8 (by simp[go_sem]) ?_;refine(ql _ _).mono ?_;rintro e u' ci ⟨rfl,rfl,rfl⟩;refine⟨_,by simp[results,Tryz.results21,go_sem,la,lb,bh,le]; rfl,?_⟩;exact⟨rfl,zh⟩
def UR (w:Ee) (b o:Nat) (l:List (Int×Int)):Prop:=∀t,t<l.length->w.cell? ⟨b,o+t*2,none⟩=some (Ey Ew (l.getD t (0,0)).1)/\w.cell? ⟨b,o+t*2+1,none⟩=some (Ey Ew (l.getD t (0,0)).2)
def bP (w:Ee) (v:Value) (l:List (Int×Int)):Prop:=
 (∀k,-9223372036854775808<=(l.getD k (0,0)).1/\(l.getD k (0,0)).1<=9223372036854775807/\-9223372036854775808<=(l.getD k (0,0)).2/\(l.getD k (0,0)).2<=9223372036854775807)/\
 ∃ao cap,v = Ex ao l.length cap/\l.length<=cap/\(l≠ []->∃b o,ao=some ⟨b,o,none⟩/\b<w.heap.size/\UR w b o l)
theorem bP.ae {I:Ee} (h:bP w v l) (H:zf w I):bP I v l:=by
 obtain⟨h0,ao,cap,rfl,M,J⟩:=h;refine⟨h0,ao,cap,rfl,M,fun N=> ?_⟩;obtain⟨b,o,rfl,E,hc⟩:=J N;exact⟨b,o,rfl,Nat.lt_of_lt_of_le E H.size,fun t ht=>⟨(H.cell (p:=⟨b,o+t*2,none⟩) E).trans (hc t ht).1,(H.cell (p:=⟨b,o+t*2+1,none⟩) E).trans (hc t ht).2⟩⟩
theorem bP.ak (h:bP w v l):∃ao cap,v = Ex ao l.length cap:=by obtain⟨_,ao,cap,e,_⟩:=h; exact⟨ao,cap,e⟩
theorem bP.cells {ao:Option Addr} {n cap:Nat} (h:bP w (Ex ao n cap) l):n=l.length/\n<=cap/\(0<n->∃b o,ao=some ⟨b,o,none⟩/\b<w.heap.size/\UR w b o l):=by
 obtain⟨_,M,E,e,J,I⟩:=h
 injection e with X H T
 subst X H T;refine⟨rfl,J,fun N=>I ?_⟩;rintro rfl
 cases N
def ji (p:Int×Int):Prop:= -1048576<=p.1/\p.1<=1048576/\-1048576<=p.2/\p.2<=1048576
instance (p:Int×Int):Decidable (ji p):=by unfold ji; infer_instance
def z6 (l:List (Int×Int)):Int:=if 200<l.length then 4 else if ∀p∈l,ji p then 0 else 8
theorem K7 (h:∀k,k<l.length->ji (l.getD k (0,0))):∀p∈l,ji p:=by
 intro p H;obtain⟨k,E,e⟩:=List.getElem_of_mem H;have:=h k E;simp[List.getD,E,e]at this;exact this
theorem K8 {k:Nat} (E:k<l.length) (h:¬ji (l.getD k (0,0))):¬∀p∈l,ji p:=by
 intro H;apply h
 simp only[List.getD,List.getElem?_eq_getElem E,Option.getD_some];exact H _ (List.getElem_mem E)
theorem Zr (w:Ee) (hv:bP w v l) (hl:l.length<=1000) :
  Ed Ec 62 #[v] w fun e w'=>e = Eh (Ey Ew (z6 l))/\zf w w':=by
 obtain⟨ao,cap,rfl⟩:=hv.ak;obtain⟨-,h1,X⟩:=hv.cells;obtain⟨n,hn⟩:∃n,l.length=n:=⟨_,rfl⟩;have H:=E6 hn;rw[hn]at h1 X hl|-;clear hv hn
 by_cases hg:200<n
 .
  have E:Hid (z6 l=4):=E8 (by rw[H.out]; exact hg)
  go_enter Tryz.func62,Tryz.ntmps62
  go_wp2
  go_returns
  exact⟨yK E.out.symm,zh⟩
 .
  have E:Hid (z6 l=if ∀p∈l,ji p then 0 else 8):=E9 (by rw[H.out]; exact hg)
  go_enter Tryz.func62,Tryz.ntmps62
  go_wp2
  go_loopw [3] (fun kk wr=>∃k:Nat,k<=n/\kk = Ey Ew k/\(∀t,t<k->ji (l.getD t (0,0)))/\Below w.heap.size w wr) (fun kk _=>(n-(intOf kk).toNat))
  case atStart=>exact⟨0,Nat.zero_le _,rfl,(fun _ h=>by cases h),Below.refl _ _⟩
  case round=>
   obtain⟨k,hk,rfl,J,Z⟩:=hrel;have N:=E6 Z;have HA:=E6 J
   rcases Nat.lt_or_ge k n with h3 | h3
   .
    obtain⟨b,o,rfl,T,hc⟩:=X D5;obtain⟨x,hx⟩:∃x,(l.getD k (0,0)).1=x:=⟨_,rfl⟩;obtain⟨y,hy⟩:∃x,(l.getD k (0,0)).2=x:=⟨_,rfl⟩;have c1:wr.cell? ⟨b,o+k*2,none⟩=some (Ey Ew x):=by rw[<- hx]; exact(Z.cell (p:=⟨b,o+k*2,none⟩) T).trans (hc k (by rw[H.out]; omega)).1
    have c2:wr.cell? ⟨b,o+k*2+1,none⟩=some (Ey Ew y):=by rw[<- hy]; exact(Z.cell (p:=⟨b,o+k*2+1,none⟩) T).trans (hc k (by rw[H.out]; omega)).2
    have Y:=E6 (E7 hx hy);clear hc X J hx hy
    have I:¬ji (x,y)->Hid (z6 l=8):=fun hq=>by
     show z6 l=8
     rw[E.out,E9];refine K8 (k:=k) (by rw[H.out]; exact h3) ?_;have e:l.getD k (0,0)=(x,y):=Prod.ext Y.out.1 Y.out.2;rw[e]; exact hq
    by_cases a1:x < -1048576
    .
     have M:=I (by unfold ji; dsimp only; omega);clear I
     go_wp2
     go_returns
     exact⟨yK M.out.symm,N.out⟩
    by_cases a2:1048576<x
    .
     have M:=I (by unfold ji; dsimp only; omega);clear I
     go_wp2
     go_returns
     exact⟨yK M.out.symm,N.out⟩
    by_cases a3:y < -1048576
    .
     have M:=I (by unfold ji; dsimp only; omega);clear I
     go_wp2
     go_returns
     exact⟨yK M.out.symm,N.out⟩
    by_cases a4:1048576<y
    .
     have M:=I (by unfold ji; dsimp only; omega);clear I
     go_wp2
     go_returns
     exact⟨yK M.out.symm,N.out⟩
    clear I
    go_wp2
    go_roundw
    case rel=>
     refine⟨k+1,by omega,by go_num,fun t ht=> ?_,N.out⟩
     rcases Nat.lt_or_ge t k with h4 | h4
     . exact HA.out t h4
     .
      obtain rfl:t=k:=D5
      have e:l.getD t (0,0)=(x,y):=Prod.ext Y.out.1 Y.out.2;rw[e]; unfold ji; dsimp only; omega
    case measure=>simp[intOf]; omega
   .
    have a9:k=n:=D5
    subst a9;clear X Z
    go_wp2
    go_returns
    refine⟨yK ?_,N.out⟩;rw[E.out,E8 (K7 (fun t ht=>HA.out t (by rw[H.out]at ht; exact ht)))]
theorem Zs (m y:Int):(if m<y then y else m)=max m y:=by split<;>omega
theorem US {P:Program} (E:Array TypeId) (t:TypeId) (x y z u:Int) (w:Ee):(Builtin.max_ E t #[Ey Ew x,Ey Ew y,Ey Ew z,Ey Ew u]).run P w = .ok (Ey Ew (max (max (max x y) z) u)) w:=by
 rw[<- Zs,<- Zs,<- Zs]
 by_cases h1:x<y<;>simp only[h1,if_true,if_false]<;>(first | (by_cases h2:y<z<;>simp[Builtin.max_,Builtin.max2,go_sem,h1,h2]<;>split<;>simp_all) | (by_cases h2:x<z<;>simp[Builtin.max_,Builtin.max2,go_sem,h1,h2]<;>split<;>simp_all))
theorem kU (w:Ee) (hv:bP w v l) (hl:l.length<=1000) :
  Ed Ec 37 #[v] w fun e Y=>e = Eh (Ey Ew (z6 l))/\zf w Y:=by
 have a9:=hv.1;obtain⟨ao,cap,rfl⟩:=hv.ak;obtain⟨-,h1,h2⟩:=hv.cells;obtain⟨n,hn⟩:∃n,l.length=n:=⟨_,rfl⟩;have H:=E6 hn;have bh:=E6 a9;rw[hn]at h1 h2 hl|-;clear hv hn a9
 by_cases hg:200<n
 .
  have E:Hid (z6 l=4):=E8 (by rw[H.out]; exact hg)
  go_enter Tryz.func37,Tryz.ntmps37
  go_wp2
  go_returns
  exact⟨yK E.out.symm,zh⟩
 .
  have E:Hid (z6 l=if ∀p∈l,ji p then 0 else 8):=E9 (by rw[H.out]; exact hg)
  go_enter Tryz.func37,Tryz.ntmps37
  go_wp2
  go_loopw [4,10] (fun _ kk wr=>∃k:Nat,k<=n/\kk = Ey Ew k/\(∀t,t<k->ji (l.getD t (0,0)))/\Below w.heap.size w wr) (fun _ kk _=>(n-(intOf kk).toNat))
  case atStart=>exact⟨0,Nat.zero_le _,rfl,(fun _ h=>by cases h),Below.refl _ _⟩
  case round=>
   obtain⟨k,hk,rfl,J,X⟩:=hrel;have HB:=E6 X;have HA:=E6 J;have zb:=X.size
   rcases Nat.lt_or_ge k n with h3 | h3
   .
    obtain⟨b,o,rfl,ah,hc⟩:=h2 D5;obtain⟨aY,bi,b9,bl⟩:=bh.out k;obtain⟨x,hx⟩:∃x,(l.getD k (0,0)).1=x:=⟨_,rfl⟩;obtain⟨y,hy⟩:∃x,(l.getD k (0,0)).2=x:=⟨_,rfl⟩;rw[hx]at aY bi;rw[hy]at b9 bl;have c1:wr.cell? ⟨b,o+k*2,none⟩=some (Ey Ew x):=by rw[<- hx]; exact(X.cell (p:=⟨b,o+k*2,none⟩) ah).trans (hc k (by rw[H.out]; omega)).1
    have c2:wr.cell? ⟨b,o+k*2+1,none⟩=some (Ey Ew y):=by rw[<- hy]; exact(X.cell (p:=⟨b,o+k*2+1,none⟩) ah).trans (hc k (by rw[H.out]; omega)).2
    have HX:=E6 (E7 hx hy);clear hc h2 J hx hy X;obtain⟨nx,N⟩:∃z,wrap64 (-x)=z:=⟨_,rfl⟩;obtain⟨ny,T⟩:∃z,wrap64 (-y)=z:=⟨_,rfl⟩;obtain⟨M,hM⟩:∃M,max (max (max x nx) y) ny=M:=⟨_,rfl⟩;obtain⟨mm,bg⟩:∃z,(if y<x then y else x)=z:=⟨_,rfl⟩;have be:∀Y:Ee,(Builtin.max_ #[2,2,2,2] 2 #[Ey Ew x,Ey Ew nx,Ey Ew y,Ey Ew ny]).run Ec Y = .ok (Ey Ew M) Y:=fun Y=>by rw[<- hM]; exact US _ _ _ _ _ _ Y
    have F:Hid (ji (x,y)↔¬1048576<M/\¬mm < -1048576):=by
     show _↔_
     rw[<- hM,<- bg,<- N,<- T];unfold ji wrap64;dsimp only
     constructor
     . rintro ⟨q1,q2,q3,q4⟩; split<;>omega
     . rintro ⟨q1,q2⟩; split at q2<;>omega
    clear hM
    have I:¬ji (x,y)->Hid (z6 l=8):=fun Z=>by
     show z6 l=8
     rw[E.out,E9];refine K8 (k:=k) (by rw[H.out]; exact h3) ?_;have e:l.getD k (0,0)=(x,y):=Prod.ext HX.out.1 HX.out.2;rw[e]; exact Z
    by_cases a1:1048576<M
    .
     have BB:=I (fun h=>(F.out.1 h).1 a1);clear I
     go_wp2
     go_returns
     exact⟨yK BB.out.symm,HB.out.alloc zb _⟩
    by_cases a2:mm < -1048576
    .
     have BB:=I (fun h=>(F.out.1 h).2 a2);clear I
     go_wp2
     go_returns
     exact⟨yK BB.out.symm,HB.out.alloc zb _⟩
    have HQ:=E6 (F.out.2 ⟨a1,a2⟩);have Z:=HQ.out;unfold ji at Z;dsimp only at Z;have e1:nx = -x:=by rw[<- N]; unfold wrap64; omega
    have e2:ny = -y:=by rw[<- T]; unfold wrap64; omega
    rw[e1,e2]at be;clear Z e1 e2 N T;clear I F
    go_wp2
    go_roundw
    case rel=>
     refine⟨k+1,by omega,by go_num,fun t ht=> ?_,HB.out.alloc zb _⟩
     rcases Nat.lt_or_ge t k with h4 | h4
     . exact HA.out t h4
     .
      obtain rfl:t=k:=D5
      have e:l.getD t (0,0)=(x,y):=Prod.ext HX.out.1 HX.out.2;rw[e]; exact HQ.out
    case measure=>simp[intOf]; omega
   .
    have aX:k=n:=D5
    subst aX;clear h2 X
    go_wp2
    go_returns
    refine⟨yK ?_,HB.out⟩;rw[E.out,E8 (K7 (fun t ht=>HA.out t (by rw[H.out]at ht; exact ht)))]
end Go.Proofs.YtffmbepfbienaaaGreat
