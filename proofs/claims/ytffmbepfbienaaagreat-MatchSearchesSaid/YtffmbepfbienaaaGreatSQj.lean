import Derived.Test.YtffmbepfbienaaaGreatSRow
set_option linter.unusedVariables false
set_option linter.unusedSimpArgs false
set_option maxHeartbeats 6400000
set_option maxRecDepth 1000000
open Go.Value renaming slice->Ex,bool->Ez,int->Ey,agg->Ej,pointer->Ek,tuple->Ev
open Go.IntKind renaming i64->Ew
open Go.Ending renaming returned->Eh
open Go.Proofs.Tryz renaming prog->Ec
open Go renaming Calls->Ed,World->Ee,Value->Ef,bodyPost_ret->En
open Nat renaming le_refl->Eo,lt_or_ge->Ep
open Go.World renaming cell?->Er
namespace Go.Proofs.YtffmbepfbienaaaGreat
open Go.RowKit
variable {a:aV} {l:PL} {v:Ef} {w w':Ee}
def cP (x n:Int):Int:=if n=0 then 0 else((x:Rat) / (n:Rat)).num
def cQ (x n:Int):Int:=if n=0 then 0 else(((x:Rat) / (n:Rat)).den:Int)
def QN (w:Ee) (v:Ef) (a:aV):Prop:=
 ∃Z Y c2 X c4 c5 c6 c7 c8 c9 E T H J I M,v = Ej #[Ey Ew a.k0,Ey Ew a.k1,Ey Ew a.k2,Ey Ew a.k3,Z,Y,c2,X,c4,c5,c6,c7,c8,c9,E,T,H,J,I,M]/\
  (az w (Ej #[Z,Y]) (cP a.a1 a.n)/\az w (Ej #[c2,X]) (cQ a.a1 a.n))/\(az w (Ej #[c4,c5]) (cP a.a2 a.n)/\az w (Ej #[c6,c7]) (cQ a.a2 a.n))/\
  (az w (Ej #[c8,c9]) (cP a.b1 a.n)/\az w (Ej #[E,T]) (cQ a.b1 a.n))/\(az w (Ej #[H,J]) (cP a.b2 a.n)/\az w (Ej #[I,M]) (cQ a.b2 a.n))
theorem QN.af (h:QN w v a) (k:av w w'):QN w' v a:=by
 obtain⟨X,c1,c2,c3,c4,c5,Y,Z,c8,c9,E,M,H,T,I,J,e,⟨h0,h1⟩,⟨h2,h3⟩,⟨h4,h5⟩,⟨h6,h7⟩⟩:=h;exact⟨X,c1,c2,c3,c4,c5,Y,Z,c8,c9,E,M,H,T,I,J,e,⟨h0.af k,h1.af k⟩,⟨h2.af k,h3.af k⟩,⟨h4.af k,h5.af k⟩,⟨h6.af k,h7.af k⟩⟩
theorem QN.ae (h:QN w v a) (k:zf w w'):QN w' v a:=h.af (av.ae k)
theorem az.dw (w:Ee):az w (Ej #[Ez false,Ex none 0 0]) 0:=⟨_,rfl,by
 have e:zp (zi 0) = []:=(zY (zA _)).2 (by unfold zi; omega)
 rw[e]; exact aA.nil w⟩
theorem QN.zero (w:Ee):QN w (Ej ZT) zK:=
 ⟨_,_,_,_,_,_,_,_,_,_,_,_,_,_,_,_,rfl,⟨az.dw w,az.dw w⟩,⟨az.dw w,az.dw w⟩,⟨az.dw w,az.dw w⟩,⟨az.dw w,az.dw w⟩⟩
theorem FR.dT {a b c d:Ef} {x n:Int} (J:0<n) (h:FR w (Ej #[a,b,c,d]) ((x:Rat) / (n:Rat))):az w (Ej #[a,b]) (cP x n)/\az w (Ej #[c,d]) (cQ x n):=by
 obtain⟨a2,M,a4,a6,I,a8,e,H,E,-⟩:=h.bW;unfold cP cQ;rw[E9 D5,E9 D5];simp only[Value.agg.injEq,Array.mk.injEq,List.cons.injEq,and_true]at e;obtain⟨rfl,rfl,rfl,rfl⟩:=e;exact⟨H,E⟩
theorem QD.qn (E:0<a.n) (h:QD w v a.k0 a.k1 a.k2 a.k3 ((a.a1:Rat) / (a.n:Rat)) ((a.a2:Rat) / (a.n:Rat)) ((a.b1:Rat) / (a.n:Rat)) ((a.b2:Rat) / (a.n:Rat))):QN w v a:=by
 obtain⟨Y,c1,c2,c3,c4,c5,Z,c7,c8,c9,H,T,I,X,J,M,e,h0,h1,h2,h3⟩:=h;exact⟨Y,c1,c2,c3,c4,c5,Z,c7,c8,c9,H,T,I,X,J,M,e,h0.dT E,h1.dT E,h2.dT E,h3.dT E⟩
def CJ (n:Nat) (k:Nat->Int) (i:Nat):Prop:=(0<=k i/\k i<n)/\∀m,m<i->k m≠k i
def Ca (n:Nat) (k:Nat->Int):Prop:=∀i,i<4->CJ n k i
def KK (k:Nat->Int):Nat->Nat:=XA (k 0).toNat (k 1).toNat (k 2).toNat (k 3).toNat
open Classical in
noncomputable def codeS (l:PL) (k:Nat->Int):Int×aV:=
 if z6 l≠0 then(z6 l,zK)else if ¬Ca l.length k then(2,zK)else if jB l (KK k)=0 then(18,zK)else(0,yA l (KK k))
def eS (w:Ee) (l:PL) (k:Nat->Int) (e:Ending) (w':Ee):Prop:=∃u,e = Eh (Ev #[u,Ey Ew (codeS l k).1])/\QN w' u (codeS l k).2/\zf w w'
theorem eS.none {k:Nat->Int} {c:Int} (h:codeS l k=(c,zK)) (st:zf w w'):eS w l k (Eh (Ev #[Ej ZT,Ey Ew c])) w':=
 ⟨_,by rw[h],by rw[h]; exact QN.zero w',st⟩
structure cX (a:aV):Prop where
 a1 : -35184372088832<=a.a1/\a.a1<=35184372088832
 a2 : -35184372088832<=a.a2/\a.a2<=35184372088832
 b1 : -35184372088832<=a.b1/\a.b1<=35184372088832
 b2 : -35184372088832<=a.b2/\a.b2<=35184372088832
 n:0<=a.n/\a.n<=35184372088832
theorem Jf {p q r s:Int×Int} (k0 k1 k2 k3:Nat) (h0:kK p.1 p.2) (E:kK q.1 q.2) (I:kK r.1 r.2) (H:kK s.1 s.2):cX (UM k0 k1 k2 k3 p q r s):=by
 have a:=jJ (xR I h0) (xR E h0);have b:=jJ (xR H h0) (xR E h0);have c:=jJ (xR E h0) (xR E h0);have d:=jz (q.1-p.1) (q.2-p.2);refine⟨?_,?_,?_,?_,?_⟩<;>(unfold UM ; try unfold j5; try unfold kl; try unfold XB)<;>dsimp only
 . omega
 . omega
 . omega
 . omega
 . unfold kh at *; omega
theorem YX {K:Nat->Nat} (E:∀i,kK (pt l (K i)).1 (pt l (K i)).2) (h:0<jB l K):cX (yA l K):=by
 obtain⟨H,-,-⟩:=qU l K h;obtain⟨p,-,e⟩:=List.mem_map.1 H;rw[<- e];exact Jf _ _ _ _ (E _) (E _) (E _) (E _)
theorem QD.cells {k0 k1 k2 k3:Int} {T r1 r2 r3:Rat} (h:QD w v k0 k1 k2 k3 T r1 r2 r3):∃cs,v = Ej cs/\cs.size=20/\cs.all (·.oneCell')=true:=by
 obtain⟨c0,c1,c2,c3,c4,c5,c6,c7,c8,c9,M,aX,X,aY,a9,ah,e,h0,Y,h2,Z⟩:=h;obtain⟨_,_,_,_,_,_,_,_,J⟩:=h0.ak;obtain⟨_,_,_,_,_,_,_,_,H⟩:=Y.ak;obtain⟨_,_,_,_,_,_,_,_,I⟩:=h2.ak;obtain⟨_,_,_,_,_,_,_,_,E⟩:=Z.ak;simp only[Value.agg.injEq,Array.mk.injEq,List.cons.injEq,and_true]at J H I E;obtain⟨rfl,rfl,rfl,rfl⟩:=J;obtain⟨rfl,rfl,rfl,rfl⟩:=H;obtain⟨rfl,rfl,rfl,rfl⟩:=I;obtain⟨rfl,rfl,rfl,rfl⟩:=E;exact⟨_,e,rfl,by simp[Value.oneCell']⟩
theorem Hl (a:aV) (w:Ee) (h:cX a) (H:0<a.n):Ed Ec 108 #[Ej (qZ a)] w fun e w'=>∃cs,e = Eh (Ev #[Ej cs,Ey Ew 0])/\QN w' (Ej cs) a/\(cs.size=20/\cs.all (·.oneCell')=true)/\zf w w':=by
 refine Calls.mono (B' a.k0 a.k1 a.k2 a.k3 a.a1 a.a2 a.b1 a.b2 a.n w ⟨by have:=h.a1; omega,by have:=h.a1; omega⟩ ⟨by have:=h.a2; omega,by have:=h.a2; omega⟩ ⟨by have:=h.b1; omega,by have:=h.b1; omega⟩ ⟨by have:=h.b2; omega,by have:=h.b2; omega⟩ ⟨H,by have:=h.n; omega⟩) ?_;rintro e w' ⟨v,rfl,E,M⟩;obtain⟨cs,rfl,J,I⟩:=E.cells;exact⟨cs,rfl,E.qn H,⟨J,I⟩,M⟩
theorem Zv (h:z6 l=0) (k:Nat) (E:k<l.length):kK (pt l k).1 (pt l k).2:=by
 unfold z6 at h
 split at h
 . cases h
 .
  split at h
  .
   rename_i hq
   have H:pt l k∈l:=by
    unfold pt;simp only[List.getD,List.getElem?_eq_getElem E,Option.getD_some];exact List.getElem_mem E
   obtain⟨q1,q2,q3,q4⟩:=hq _ H;exact⟨q1,q2,q3,q4⟩
  . cases h
open Go.RowKit
theorem U7 (x y:Int) (w:Ee) (X : -9223372036854775808<=x) (J:x<=9223372036854775807) (M : -9223372036854775808<=y) (T:y<=9223372036854775807) (E:y≠0) :
  Ed Ec 69 #[Ey Ew x,Ey Ew y] w fun e w'=>∃v,e = Eh (Ev #[v,Ey Ew 0])/\FR w' v ((x:Rat) / (y:Rat))/\zf w w':=by
 refine(Dp x y w X J M T E).mono ?_;rintro e w' ⟨v,rfl,I,H⟩;exact⟨v,rfl,FR.dK E I,H⟩
theorem Kg (Y X T Z:Int) (w:Ee) (p0:kK Y X) (p1:kK T Z):Ed Ec 114 #[Ej #[Ey Ew Y,Ey Ew X],Ej #[Ey Ew T,Ey Ew Z]] w fun e w'=>e = Eh (Ey Ew (XB (T,Z) (Y,X)))/\zf w w':=by
 have s:=xR p0 p1;have q:=jJ s s;obtain⟨J,I⟩:∃z,Y-T=z:=⟨_,rfl⟩;obtain⟨M,H⟩:∃z,X-Z=z:=⟨_,rfl⟩;have E:Hid (XB (T,Z) (Y,X)=J*J+M*M):=by show XB _ _=_; unfold XB kh; dsimp only; rw[I,H]
 rw[I,H]at q;unfold kK at p0 p1;obtain⟨m1,h1⟩:∃z,J*J=z:=⟨_,rfl⟩;obtain⟨m2,h2⟩:∃z,M*M=z:=⟨_,rfl⟩;rw[h1,h2]at q E;have w1:wrap64 (Y-T)=J:=by rw[<- I]; unfold wrap64; omega
 have w2:wrap64 (X-Z)=M:=by rw[<- H]; unfold wrap64; omega
 have w3:wrap64 (J*J)=m1:=by rw[h1]; unfold wrap64; omega
 have w4:wrap64 (M*M)=m2:=by rw[h2]; unfold wrap64; omega
 have w5:wrap64 (m1+m2)=m1+m2:=by unfold wrap64; omega
 obtain⟨m,hm⟩:∃z,m1+m2=z:=⟨_,rfl⟩;rw[hm]at w5 E;have w6:wrap64 (m1+m2)=m:=by rw[hm]; exact w5
 clear w5 hm h1 h2 q s p0 p1 I H
 go_enter Tryz.func114,Tryz.ntmps114
 go_wp2
 go_returns
 first | exact⟨yK E.out.symm,zh⟩ | exact⟨yK (w6.trans E.out.symm),zh⟩
theorem GG (H E I J x2 y2:Int) (w:Ee) (p0:kK H E) (p1:kK I J) (p2:kK x2 y2) (hn:XB (H,E) (I,J)≠0):Ed Ec 148 #[Ej #[Ey Ew H,Ey Ew E],Ej #[Ey Ew I,Ey Ew J],Ej #[Ey Ew x2,Ey Ew y2]] w fun e w'=>
  ∃u v,e = Eh (Ev #[u,v])/\FR w' u ((j5 (I-H) (J-E) (x2-H) (y2-E):Int) / (XB (H,E) (I,J):Int):Rat)/\FR w' v ((kl (I-H) (J-E) (x2-H) (y2-E):Int) / (XB (H,E) (I,J):Int):Rat)/\zf w w':=by
 have s1:=xR p1 p0;have s2:=xR p2 p0;have q1:=jJ s2 s1;have q2:=jJ s1 s1;have n0:=YM (H,E) (I,J);have ap:=fun w'=>Kg H E I J w' p0 p1;rw[Zo]at ap;have n1:XB (H,E) (I,J)<=35184372088832:=by unfold XB kh; dsimp only; omega
 have a1 : -35184372088832<=j5 (I-H) (J-E) (x2-H) (y2-E)/\j5 (I-H) (J-E) (x2-H) (y2-E)<=35184372088832:=by unfold j5; omega
 have a2 : -35184372088832<=kl (I-H) (J-E) (x2-H) (y2-E)/\kl (I-H) (J-E) (x2-H) (y2-E)<=35184372088832:=by unfold kl; omega
 obtain⟨A,hA⟩:∃z,j5 (I-H) (J-E) (x2-H) (y2-E)=z:=⟨_,rfl⟩;obtain⟨B,hB⟩:∃z,kl (I-H) (J-E) (x2-H) (y2-E)=z:=⟨_,rfl⟩;obtain⟨n,dc⟩:∃z,XB (H,E) (I,J)=z:=⟨_,rfl⟩;rw[dc]at ap n0 n1 hn|-;rw[hA]at a1|-;rw[hB]at a2|-;unfold kK at p0 p1 p2;have dx:=fun w'=>U7 A n w' D5 D5 D5 D5 hn;have fd:=fun w'=>U7 B n w' D5 D5 D5 D5 hn;obtain⟨ux,cN⟩:∃z,I-H=z:=⟨_,rfl⟩;obtain⟨uy,cU⟩:∃z,J-E=z:=⟨_,rfl⟩;obtain⟨vx,cy⟩:∃z,x2-H=z:=⟨_,rfl⟩;obtain⟨vy,d9⟩:∃z,y2-E=z:=⟨_,rfl⟩;have w1:wrap64 (I-H)=ux:=by rw[<- cN]; unfold wrap64; omega
 have w2:wrap64 (J-E)=uy:=by rw[<- cU]; unfold wrap64; omega
 have w3:wrap64 (x2-H)=vx:=by rw[<- cy]; unfold wrap64; omega
 have w4:wrap64 (y2-E)=vy:=by rw[<- d9]; unfold wrap64; omega
 rw[cN,cU,cy,d9]at q1 hA hB;unfold j5 at hA;unfold kl at hB;obtain⟨m1,h1⟩:∃z,vx*ux=z:=⟨_,rfl⟩;obtain⟨m2,h2⟩:∃z,vy*uy=z:=⟨_,rfl⟩;obtain⟨m3,h3⟩:∃z,vy*ux=z:=⟨_,rfl⟩;obtain⟨m4,h4⟩:∃z,vx*uy=z:=⟨_,rfl⟩;rw[h1,h2]at hA q1;rw[h3,h4]at hB q1;have w5:wrap64 (vx*ux)=m1:=by rw[h1]; unfold wrap64; omega
 have w6:wrap64 (vy*uy)=m2:=by rw[h2]; unfold wrap64; omega
 have w7:wrap64 (vy*ux)=m3:=by rw[h3]; unfold wrap64; omega
 have w8:wrap64 (vx*uy)=m4:=by rw[h4]; unfold wrap64; omega
 have w9:wrap64 (m1+m2)=A:=by rw[hA]; unfold wrap64; omega
 have gd:wrap64 (m3-m4)=B:=by rw[hB]; unfold wrap64; omega
 clear a1 a2 n0 n1 q1 q2 s1 s2 p0 p1 p2 hn cN cU cy d9 h1 h2 h3 h4 hA hB dc
 go_enter Tryz.func148,Tryz.ntmps148
 go_upto_region 1 with fail
 refine aj.cC w w [.o w.heap.size 23 #[Ey Ew H,Ey Ew E],.o (w.heap.size+1) 23 #[Ey Ew I,Ey Ew J],.o (w.heap.size+1+1) 23 #[Ey Ew x2,Ey Ew y2],.o (w.heap.size+1+1+1) 28 #[Ez false,Ex none 0 0,Ez false,Ex none 0 0],.o (w.heap.size+1+1+1+1) 28 #[Ez false,Ex none 0 0,Ez false,Ex none 0 0]] [] [] [] [(24,[])] [] (by simp only[aP]; exact⟨zh,zj,zw,zw,zw,zw,zw,trivial⟩) (fun N0 cx ce Q' M hQ=> ?_);clear cx;refine aj.aD 17 ?_;refine aj.aO 18 (fun _ _ _ h=>h.e.2.1.r1) ?_;refine aj.aD 19 ?_;refine aj.aO 20 (fun _ _ _ h=>h.e.1.r1) ?_
 repeat refine aj.aD _ ?_
 refine aj.aO 23 (fun _ _ _ h=>h.e.2.1.r1) ?_;refine aj.aD 24 ?_;refine aj.aO 25 (fun _ _ _ h=>h.e.1.r1) ?_
 repeat refine aj.aD _ ?_
 refine aj.aO 28 (fun _ _ _ h=>h.e.2.2.1.r1) ?_;refine aj.aD 29 ?_;refine aj.aO 30 (fun _ _ _ h=>h.e.1.r1) ?_
 repeat refine aj.aD _ ?_
 refine aj.aO 33 (fun _ _ _ h=>h.e.2.2.1.r1) ?_;refine aj.aD 34 ?_;refine aj.aO 35 (fun _ _ _ h=>h.e.1.r1) ?_
 repeat refine aj.aD _ ?_
 refine aj.sE (fun _ v' w1 B jk hl _ _ hf=> ?_);simp only[xx,xA]at hl;obtain⟨oa,ob,oc,oq,or,-⟩:=hl;clear hf jk;refine hQ _ _ ?_;clear hQ M Q' ce;obtain⟨fe,dl⟩:=oa.r1;have la:=oa.lt;obtain⟨f9,dz⟩:=ob.r1;have lb:=ob.lt;have lc:=oc.lt;have lq:=oq.lt;have lr:=or.lt;go_wp2_with fail
 refine(ap _).mono ?_;rintro e w2 ⟨rfl,st⟩;have sk:=bA w1 st;replace B:=bS B sk;replace oa:=oa.ae sk;replace ob:=ob.ae sk;replace oc:=oc.ae sk;replace oq:=oq.ae sk;replace or:=or.ae sk;clear st sk fe dl la f9 dz lb lc lq lr;go_wp2_with fail
 refine(dx _).mono ?_;rintro e w3 ⟨fl,rfl,X,st⟩;have sk:=bA w2 st;replace B:=bS B sk;replace oa:=oa.ae sk;replace ob:=ob.ae sk;replace oc:=oc.ae sk;replace oq:=oq.ae sk;replace or:=or.ae sk;clear st sk;obtain⟨b9,ah,aY,Z,aX,bg,a9,be,rfl⟩:=X.ak;have T:=E6 X;clear X;have g9:w.heap.size+1+1+1+1<w3.heap.size:=or.lt;have gt:=B.size;go_wp2_with fail
 refine(fd _).mono ?_;rintro e w4 ⟨ft,rfl,Y,st⟩;have sk:=bA w3 st;replace B:=bS B sk;have of:ai w4 w3.heap.size 28 #[Ez b9,Ex ah aY Z,Ez aX,Ex bg a9 be]:=ai.au st;replace oa:=oa.ae sk;replace ob:=ob.ae sk;replace oc:=oc.ae sk;replace oq:=oq.ae sk;replace or:=or.ae sk;replace T:=E6 (T.out.ae sk);clear st sk;obtain⟨ek,em,dP,er⟩:=of.r3;have lf:=of.lt;obtain⟨bh,cn,bi,cg,co,br,bt,ci,rfl⟩:=Y.ak;have bl:=E6 Y;clear Y;have g8:w3.heap.size<w4.heap.size:=of.lt;have gn:=B.size;go_wp2_with fail
 go_upto_region 5 with fail
 refine aj.cC w w4 [.o w.heap.size 23 #[Ey Ew H,Ey Ew E],.o (w.heap.size+1) 23 #[Ey Ew I,Ey Ew J],.o (w.heap.size+1+1) 23 #[Ey Ew x2,Ey Ew y2],.s (w.heap.size+1+1+1) 28 #[Ez false,Ex none 0 0,Ez false,Ex none 0 0] 2 [] (aj.vx #[Ez b9,Ex ah aY Z,Ez aX,Ex bg a9 be]),.s (w.heap.size+1+1+1+1) 28 #[Ez false,Ex none 0 0,Ez false,Ex none 0 0] 3 [] (aj.vx #[Ez bh,Ex cn bi cg,Ez co,Ex br bt ci]),.o w3.heap.size 28 #[Ez b9,Ex ah aY Z,Ez aX,Ex bg a9 be],.o w4.heap.size 28 #[Ez bh,Ex cn bi cg,Ez co,Ex br bt ci]] [2,3] [] [] [(4,[])] [] (by simp only[aP]; exact⟨zh,zj,zw,zw,zw,zw,zw,zw,zw,trivial⟩) (fun N0 cx ce Q' M hQ=> ?_);clear ek em dP er lf;clear cx;refine aj.aO 64 (fun _ _ _ h=>h.e.2.2.2.2.2.1.r3) ?_;refine aj.aO 65 (fun _ _ _ h=>h.e.2.2.2.2.2.2.1.r3) ?_;refine aj.sS M ?_;refine aj.sS M ?_;refine aj.sE (fun _ v' w5 B jk hl _ _ hf=> ?_);simp only[xx,xA]at hl;obtain⟨oa,ob,oc,oq,or,of,og,-⟩:=hl;have oq:ai w5 (w.heap.size+1+1+1) 28 #[Ez b9,Ex ah aY Z,Ez aX,Ex bg a9 be]:=oq;have or:ai w5 (w.heap.size+1+1+1+1) 28 #[Ez bh,Ex cn bi cg,Ez co,Ex br bt ci]:=or;replace T:=E6 (T.out.af jk);replace bl:=E6 (bl.out.af jk);clear hf jk;refine hQ _ _ ?_;clear hQ M Q' ce;have la:=oa.lt;have lb:=ob.lt;have lc:=oc.lt;obtain⟨eM,eW,f7,ed⟩:=oq.r3;have lq:=oq.lt;obtain⟨ey,f8,dy,dk⟩:=or.r3;have lr:=or.lt;go_wp2_with fail
 refine En (by simp[results,Tryz.results148,go_sem,la,lb,lc,eM,eW,f7,ed,lq,ey,f8,dy,dk,lr]; rfl) rfl ?_;exact⟨_,_,rfl,T.out.af zj,bl.out.af zj,zh⟩
open Go.RowKit
variable {l:PL}
theorem Jg {P:Program} (E:Array TypeId) (t:TypeId) (x y:Int) (w:Ee):(Builtin.max_ E t #[Ey Ew x,Ey Ew y]).run P w = .ok (Ey Ew (max x y)) w:=by
 rw[<- Zs]
 by_cases h1:x<y<;>simp[Builtin.max_,Builtin.max2,go_sem,h1]
def V7 (l:PL) (K:Nat->Nat) (i:Nat) (b:Int):Nat->Int
 | 0=>b
 | k+1=>max (V7 l K i b k) (dst l K i k)
def Kh (l:PL) (K:Nat->Nat):Nat->Int
 | 0=>0
 | i+1=>V7 l K i (Kh l K i) i
theorem U8 (l:PL) (K:Nat->Nat):Kh l K 4=jB l K:=rfl
theorem bP.at {w:Ee} {ao:Option Addr} {len cap:Nat} (h:bP w (Ex ao len cap) l) {a:Nat} (E:a<l.length):∃b o,ao=some ⟨b,o,none⟩/\b<w.heap.size/\w.cell? ⟨b,o+a*2,none⟩=some (Ey Ew (pt l a).1)/\w.cell? ⟨b,o+a*2+1,none⟩=some (Ey Ew (pt l a).2):=by
 obtain⟨e,-,H⟩:=h.cells;obtain⟨b,o,J,I,hc⟩:=H D5;exact⟨b,o,J,I,(hc a E).1,(hc a E).2⟩
theorem Vb {v:Ef} (k0 k1 k2 k3:Nat) (K:Nat->Nat) (hK:XA k0 k1 k2 k3=K) (w:Ee) (h:bP w v l) (hk:∀i,K i<l.length) (hp:∀i,kK (pt l (K i)).1 (pt l (K i)).2) :
  Ed Ec 74 #[v,Ej #[Ey Ew k0,Ey Ew k1,Ey Ew k2,Ey Ew k3]] w fun e w'=>e = Eh (Ey Ew (jB l K))/\zf w w':=by
 have aX:∀i,i<4->(#[Ey Ew k0,Ey Ew k1,Ey Ew k2,Ey Ew k3]:Array Ef)[i]? = some (Ey Ew (K i:Nat)):=fun i hi=>by rw[<- hK]; rcases(show i=0\/i=1\/i=2\/i=3 by omega)with rfl | rfl | rfl | rfl<;>rfl
 obtain⟨ao,cap,rfl⟩:=h.ak;have H:∀a,a<l.length->∃b o,ao=some ⟨b,o,none⟩/\b<w.heap.size/\w.cell? ⟨b,o+a*2,none⟩=some (Ey Ew (pt l a).1)/\w.cell? ⟨b,o+a*2+1,none⟩=some (Ey Ew (pt l a).2):=fun a ha=>h.at ha;obtain⟨len,Z⟩:∃n,l.length=n:=⟨_,rfl⟩;have b9:len<=cap:=by have:=h.cells; omega
 rw[Z]at H hk|-;clear h hK Z;rw[<- U8];obtain⟨T,o0,rfl,Y,-,-⟩:=H _ (hk 0)
 replace H:∀a,a<len->w.cell? ⟨T,o0+a*2,none⟩=some (Ey Ew (pt l a).1)/\w.cell? ⟨T,o0+a*2+1,none⟩=some (Ey Ew (pt l a).2):=fun a ha=>by
  obtain⟨b,o,e,-,h1,h2⟩:=H a ha
  injection e with e
  injection e with e1 e2
  subst e1 e2;exact⟨h1,h2⟩
 go_enter Tryz.func74,Tryz.ntmps74
 go_wp2_with fail
 go_loopw [5,6] (fun nn kk wr=>∃i:Nat,i<=4/\kk = Ey Ew i/\nn = Ey Ew (Kh l K i)/\ai wr w.heap.size 80 #[Ey Ew k0,Ey Ew k1,Ey Ew k2,Ey Ew k3]/\Below w.heap.size w wr) (fun _ kk _=>4-(intOf kk).toNat)
 case atStart=>exact⟨0,by omega,rfl,rfl,zw,zh⟩
 case round=>
  obtain⟨i,hi,rfl,rfl,J,B⟩:=hrel
  rcases Ep i 4 with i4 | i4
  .
   have be:decide ((i:Int)<4)=true:=E_ D5;go_wp2_with fail
   go_loopw [5,7] (fun nn kk wr=>∃k:Nat,k<=i/\kk = Ey Ew k/\nn = Ey Ew (V7 l K i (Kh l K i) k)/\ai wr w.heap.size 80 #[Ey Ew k0,Ey Ew k1,Ey Ew k2,Ey Ew k3]/\Below w.heap.size w wr) (fun _ kk _=>i-(intOf kk).toNat)
   case atStart=>exact⟨0,by omega,rfl,rfl,zw,zh⟩
   case round=>
    obtain⟨k,bh,rfl,rfl,za,zB⟩:=hrel;clear J B;have J:=za;have B:=zB;clear za zB
    rcases Ep k i with ki | ki
    .
     have bg:decide ((k:Int)<(i:Int))=true:=E_ D5;have ap:=fun w'=>Kg (pt l (K i)).1 (pt l (K i)).2 (pt l (K k)).1 (pt l (K k)).2 w' (hp i) (hp k);have aY:XB ((pt l (K k)).1,(pt l (K k)).2) ((pt l (K i)).1,(pt l (K i)).2)=dst l K i k:=Zo _ _;rw[aY]at ap;have HN:Hid (V7 l K i (Kh l K i) (k+1)=max (V7 l K i (Kh l K i) k) (dst l K i k)):=rfl;obtain⟨d,hd⟩:∃z,dst l K i k=z:=⟨_,rfl⟩;obtain⟨n,hn⟩:∃z,V7 l K i (Kh l K i) k=z:=⟨_,rfl⟩;rw[hd]at ap HN;rw[hn]at HN|-;obtain⟨M,hM⟩:∃z,max n d=z:=⟨_,rfl⟩;rw[hM]at HN;have bi:∀w':Ee,(Builtin.max_ #[2,2] 2 #[Ey Ew n,Ey Ew d]).run Ec w' = .ok (Ey Ew M) w':=fun w'=>by rw[<- hM]; exact Jg _ _ _ _ w'
     have hA:=aX i i4;have hB:=aX k D5;have ha:=hk i;have hb:=hk k;obtain⟨xa,ya⟩:=H _ ha;obtain⟨xb,yb⟩:=H _ hb;generalize (pt l (K i)).1=x1 at *;generalize (pt l (K i)).2=y1 at *;generalize (pt l (K k)).1=x2 at *;generalize (pt l (K k)).2=y2 at *;generalize K i=a at *;generalize K k=c at *;clear hd hn hM aY;go_wp2_with fail
     refine aj.aI (fun D v W=>Below w.heap.size w W/\ai W w.heap.size 80 #[Ey Ew k0,Ey Ew k1,Ey Ew k2,Ey Ew k3]) (aj.inl [13]) (aj.gv [(13,fun z_=>z_ = Ey Ew d)]) aj.aR (fun _=>aj.Any) (fun _ _=>False) (aj.pl []) (aj.pl [])
      D6 D6 D6 (aj.dI _) (fun _=>⟨zh,zw⟩) (fun _ _ _ _ _ h=>h) (fun _ _ _ _ _ _ _ _ _ _ _ _ _=>aj.none_) (fun _ _ _ _ h=>h.elim) (fun ah Q' a9 hQ=> ?_)
     repeat refine aj.aD _ ?_
     apply aj.RP rfl rfl rfl 21 rfl rfl
     .
      intro D v W hc I hf K' E;obtain⟨X,J⟩:=I;have c0:Er W ⟨w.heap.size,i,none⟩=some (Ey Ew a):=J.c _ hA;go_step;exact E.out
     . rfl
     refine aj.aD 22 ?_;apply aj.RP rfl rfl rfl 23 rfl rfl
     .
      intro D v W hc I hf K' E;obtain⟨X,J⟩:=I;have c0:Er W ⟨T,o0+a*2,none⟩=_:=(X.cell (p:=⟨T,o0+a*2,none⟩) Y).trans xa;have c1:Er W ⟨T,o0+a*2+1,none⟩=_:=(X.cell (p:=⟨T,o0+a*2+1,none⟩) Y).trans ya;go_step;exact E.out
     . rfl
     repeat refine aj.aD _ ?_
     apply aj.RP rfl rfl rfl 27 rfl rfl
     .
      intro D v W hc I hf K' E;obtain⟨X,J⟩:=I;have c0:Er W ⟨w.heap.size,k,none⟩=some (Ey Ew c):=J.c _ hB;go_step;exact E.out
     . rfl
     refine aj.aD 28 ?_;apply aj.RP rfl rfl rfl 29 rfl rfl
     .
      intro D v W hc I hf K' E;obtain⟨X,J⟩:=I;have c0:Er W ⟨T,o0+c*2,none⟩=_:=(X.cell (p:=⟨T,o0+c*2,none⟩) Y).trans xb;have c1:Er W ⟨T,o0+c*2+1,none⟩=_:=(X.cell (p:=⟨T,o0+c*2+1,none⟩) Y).trans yb;go_step;exact E.out
     . rfl
     refine aj.aC rfl (ZB rfl) rfl (fun D v W hc I hf K' E=> ?_) ?_
     .
      obtain⟨X,J⟩:=I;go_step;refine(ap _).mono ?_;rintro e W2 ⟨rfl,hs⟩;exact E.out _ W2 aj.any ⟨X1 X hs,J.ae hs⟩ trivial rfl
     rintro _ rfl;refine aj.aB (b:=⟨#[_,_,_,_,_,_,_,_,_,_,_,_,_,_,_,_,_,_,_,_,_,_,_,_,_,_,_,_,_,_,_,_,_],_⟩) rfl ?_
     repeat refine aj.aD _ ?_
     refine aj.aF (fun D v w9 hd I hf=> ?_);obtain⟨B,J⟩:=I;clear hd hf;refine hQ _ _ ?_;clear hQ a9 Q' ah
     repeat' (first | go_values | go_skip | go_guarded | go_step | go_upon)
     go_roundw
     case rel=>exact⟨k+1,by omega,by go_num,by rw[HN.out],zw,zh⟩
     case measure=>simp[intOf]; omega
    .
     obtain rfl:k=i:=D5
     go_wp2
     go_roundw
     case rel=>exact⟨k+1,by omega,by go_num,rfl,zw,zh⟩
     case measure=>simp[intOf]; omega
  .
   obtain rfl:i=4:=D5
   go_wp2
   go_returns
   exact⟨rfl,zh⟩
open Go.RowKit
variable {CA cs:Array Ef} {e k:Nat->Int} {r:Nat->Rat} {w w':Ee}
def QF (w:Ee) (cs:Array Ef) (k:Nat->Int) (r:Nat->Rat):Prop:=cs.size=20/\cs.all (·.oneCell')=true/\(∀i,i<4->cs[i]? = some (Ey Ew (k i)))/\
 ∀i,i<4->∃a1 a2 H a4 a5 a6 E a8,cs[4+i*4]? = some (Ez a1)/\cs[4+i*4+1]? = some (Ex a2 H a4)/\cs[4+i*4+2]? = some (Ez a5)/\cs[4+i*4+3]? = some (Ex a6 E a8)/\FR w (Ej #[Ez a1,Ex a2 H a4,Ez a5,Ex a6 E a8]) (r i)
theorem QF.af (h:QF w cs k r) (Y:av w w'):QF w' cs k r:=by
 obtain⟨I,E,h3,h4⟩:=h;refine⟨I,E,h3,fun i H=> ?_⟩;obtain⟨a1,a2,a3,a4,a5,a6,Z,a8,X,T,J,M,f⟩:=h4 i H;exact⟨a1,a2,a3,a4,a5,a6,Z,a8,X,T,J,M,f.af Y⟩
theorem QF.ae (h:QF w cs k r) (s:zf w w'):QF w' cs k r:=h.af (av.ae s)
theorem GH (w:Ee) (h:QF w CA k r) (s0:sz (r 0) 2) (s2:sz (r 2) 2) :
  Ed Ec 149 #[Ej CA] w fun e w'=>∃v,e = Eh v/\FR w' v (r 0+r 2)/\zf w w':=by
 obtain⟨-,-,-,Z⟩:=h;obtain⟨a1,a2,a3,a4,a5,a6,a7,a8,c4,c5,T,X,fa⟩:=Z 0 D5;obtain⟨b1,b2,b3,b4,b5,b6,b7,b8,E,J,H,I,fb⟩:=Z 2 D5;replace c4:CA[4]? = _:=c4;replace c5:CA[5]? = _:=c5;replace T:CA[6]? = _:=T;replace X:CA[7]? = _:=X;replace E:CA[12]? = _:=E;replace J:CA[13]? = _:=J;replace H:CA[14]? = _:=H;replace I:CA[15]? = _:=I;have ad:=fun w' (M:zf w w')=>Gy w' (fa.af (av.ae M)) (fb.af (av.ae M)) s0 s2 D5;clear Z fa fb s0 s2
 go_enter Tryz.func149,Tryz.ntmps149
 go_wp2_with fail
 refine(ad _ zh).mono ?_;rintro e w1 ⟨v,rfl,hv,M⟩;obtain⟨p1,p2,p3,p4,p5,p6,p7,p8,rfl⟩:=hv.ak;have B:=bA w M;have or:ai w1 (w.heap.size+1) 28 jp:=ai.au M;have zz:=B.size;clear M ad c4 c5 T X E J H I;have lr:=or.lt;have fr:=or.fr;obtain⟨aX,ah,Y,a9⟩:=or.r3;dsimp only;go_wp2_with fail
 refine En (by simp[results,Tryz.results149,go_sem,lr,fr,aX,ah,Y,a9]; rfl) rfl ?_;exact⟨_,rfl,hv.af zj,zh⟩
theorem U9 {d:Nat->Int} (h:∀n,n<8->e (n+1)=jR (e n) (d n)) (n:Nat) (E:e n≠0) (m:Nat) (I:n<=m) (H:m<=8):e m=e n:=by
 induction m with
 | zero=>
      obtain rfl:n=0:=D5
      rfl
 | succ m ih=>
  rcases Ep m n with g | g
  .
   obtain rfl:n=m+1:=D5
   rfl
  . rw[h m D5,ih g D5]; unfold jR; rw[E9 E]
theorem W_ {CB:Array Ef} {l:Nat->Int} {s:Nat->Rat} (w:Ee) (ha:QF w CA k r) (hb:QF w CB l s) (sr:∀i,i<4->sz (r i) 2) (ss:∀i,i<4->sz (s i) 2) (d9:sz (r 0+r 2) 9) (bt:sz (s 0+s 2) 9)
  (be:∀i,i<4->0<=k i/\k i<=1000000) (aY:∀i,i<4->0<=l i/\l i<=1000000)
  (h0:e 0=z8 (r 0+r 2) (s 0+s 2)) (h1:∀i,i<4->e (i+1)=jR (e i) (z8 (r i) (s i))) (h2:∀i,i<4->e (4+i+1)=jR (e (4+i)) (k i-l i)) :
  Ed Ec 116 #[Ej CA,Ej CB] w fun x w'=>x = Eh (Ez (decide (e 8<0)))/\zf w w':=by
 have hst:∀n,e n≠0->∀m,n<=m->m<=8->e m=e n:=U9 (d:=fun n=>if n<4 then z8 (r n) (s n)else k (n-4)-l (n-4)) (fun n Z=>by
  by_cases g:n<4
  . rw[E8 g]; exact h1 n g
  .
   rw[E9 g];have:=h2 (n-4) D5
   rwa[show 4+(n-4)=n by omega]at this)
 have sa:=fun w' (H:zf w w')=>GH w' (ha.ae H) (sr 0 D5) (sr 2 D5);have sb:=fun w' (H:zf w w')=>GH w' (hb.ae H) (ss 0 D5) (ss 2 D5);obtain⟨c,hc⟩:∃z,e 0=z:=⟨_,rfl⟩;have cm:∀w' u v,FR w' u (r 0+r 2)->FR w' v (s 0+s 2)->Ed Ec 87 #[u,v] w' fun x w2=>x = Eh (Ev #[Ey Ew c,Ey Ew 0])/\zf w' w2:=fun w' u v f g=>by rw[<- hc,h0]; exact K6 w' f g d9 bt D5
 have ce:=ha.1;have cU:=hb.1;have b9:=ha.2.2.1;have aX:=hb.2.2.1;have br:=E6 ha;have co:=E6 hb;clear ha hb h0;have HC:=E6 hc;clear hc;have ia:(Tryz.prog.info? 83).map (·.size)=some CA.size:=by rw[ce]; kernel_rfl
 have ib:(Tryz.prog.info? 83).map (·.size)=some CB.size:=by rw[cU]; kernel_rfl
 go_enter Tryz.func116,Tryz.ntmps116
 go_wp2_with fail
 refine aj.aI (fun D v W=>Below w.heap.size w W/\av w W/\ai W w.heap.size 83 CA/\ai W (w.heap.size+1) 83 CB) (aj.inl [1,3,4]) (aj.gv [(1,ym),(3,ym),(4,fun z_=>z_ = Ev #[Ey Ew c,Ey Ew 0])]) (gw [(1,bc (r 0+r 2)),(3,bc (s 0+s 2))]) (fun _=>av) (fun _ _=>False) (aj.pl [(4,[(1,some 11),(3,some 13)]),(10,[(1,some 11),(3,some 13)])]) (aj.pl [])
  D6 D6 D6 (aj.dI _) (fun _=>⟨zh,zj,zw,zw⟩) (fun _ _ _ _ _ h=>h) (fun _ _ _ _ _ _ _ _ _ _ _ hk hg=>qT _ (by intro p hp; simp only[List.mem_cons,List.not_mem_nil,or_false]at hp; rcases hp with rfl | rfl<;>first | exact bc.af | exact cZ.af | exact dH.af | exact cz.af) hk hg) (fun _ _ _ _ h=>h.elim) (fun X Q' T hQ=> ?_)
 apply aj.RP rfl rfl rfl 10 rfl rfl
 .
  intro D v W hc M Y K' E;obtain⟨j0,jk,I,J⟩:=M;exact wp_load_row 83 (.tmp 2) rfl w.heap.size rfl 83 CA (0,0) _ I Tryz.underlying83 rfl ia E.out
 . rfl
 refine aj.aC rfl (ZB rfl) rfl (fun D v W hc M Y K' E=> ?_) ?_
 .
  obtain⟨j0,jk,I,J⟩:=M;go_step;refine(sa _ j0).mono ?_;rintro e W2 ⟨v,rfl,hv,H⟩;exact E.out _ W2 (av.ae H) ⟨X1 j0 H,jk.aJ H,I.ae H,J.ae H⟩ hv hv.ak
 rintro _ ⟨u1,u2,u3,u4,u5,u6,u7,u8,rfl⟩;refine aj.aB (b:=⟨#[_,_,_,_,_,_,_,_,_,_,_,_,_,_,_,_,_,_,_,_,_,_,_,_,_,_,_,_,_,_,_,_,_,_,_,_,_,_,_,_,_,_,_,_,_,_,_,_,_,_,_,_,_,_,_,_],_⟩) rfl ?_;apply aj.RP rfl rfl rfl 12 rfl rfl
 .
  intro D v W hc M Y K' E;obtain⟨j0,jk,I,J⟩:=M;exact wp_load_row 83 (.tmp 3) rfl (w.heap.size+1) rfl 83 CB (0,0) _ J Tryz.underlying83 rfl ib E.out
 . rfl
 refine aj.aC rfl (ZB rfl) rfl (fun D v W hc M Y K' E=> ?_) ?_
 .
  obtain⟨j0,jk,I,J⟩:=M;go_step;refine(sb _ j0).mono ?_;rintro e W2 ⟨v,rfl,hv,H⟩;exact E.out _ W2 (av.ae H) ⟨X1 j0 H,jk.aJ H,I.ae H,J.ae H⟩ hv hv.ak
 rintro _ ⟨v1,v2,v3,v4,v5,v6,v7,v8,rfl⟩;refine aj.aB (b:=⟨#[_,_,_,_,_,_,_,_,_,_,_,_,_,_,_,_,_,_,_,_,_,_,_,_,_,_,_,_,_,_,_,_,_,_,_,_,_,_,_,_,_,_,_,_,_,_,_,_,_,_,_,_,_,_,_,_],_⟩) rfl ?_;refine aj.aC rfl (ZB rfl) rfl (fun D v W hc M Y K' E=> ?_) ?_
 .
  obtain⟨j0,jk,I,J⟩:=M;have g1:=(Y (1,some 11) (.head _) rfl).2.2;have g1:FR W (Ej #[Ez u1,Ex u2 u3 u4,Ez u5,Ex u6 u7 u8]) (r 0+r 2):=g1;have g3:=(Y (3,some 13) (.tail _ (.head _)) rfl).2.2;have g3:FR W (Ej #[Ez v1,Ex v2 v3 v4,Ez v5,Ex v6 v7 v8]) (s 0+s 2):=g3;go_step;refine(cm _ _ _ g1 g3).mono ?_;rintro e W2 ⟨rfl,H⟩;exact E.out _ W2 (av.ae H) ⟨X1 j0 H,jk.aJ H,I.ae H,J.ae H⟩ trivial rfl
 rintro _ rfl;refine aj.aB (b:=⟨#[_,_,_,_,_,_,_,_,_,_,_,_,_,_,_,_,_,_,_,_,_,_,_,_,_,_,_,_,_,_,_,_,_,_,_,_,_,_,_,_,_,_,_,_,_,_,_,_,_,_,_,_,_,_,_,_],_⟩) rfl ?_
 repeat refine aj.aD _ ?_
 refine aj.aF (fun D v w9 hd M Y=> ?_);obtain⟨B,jk,I,J⟩:=M;have g1:FR w9 (Ej #[Ez u1,Ex u2 u3 u4,Ez u5,Ex u6 u7 u8]) (r 0+r 2):=(Y (1,some 11) (.head _) rfl).2.2;have g3:FR w9 (Ej #[Ez v1,Ex v2 v3 v4,Ez v5,Ex v6 v7 v8]) (s 0+s 2):=(Y (3,some 13) (.tail _ (.head _)) rfl).2.2;clear hd Y;refine hQ _ _ ?_;clear hQ T Q' X;clear sa sb cm g1 g3 jk
 repeat' (first | go_values | go_skip | go_guarded | go_step | go_upon)
 go_wp2_with fail
 go_loopw [5,7] (fun cc kk wr=>∃i:Nat,i<=4/\kk = Ey Ew i/\cc = Ey Ew (e i)/\ai wr w.heap.size 83 CA/\ai wr (w.heap.size+1) 83 CB/\Below w.heap.size w wr) (fun _ kk _=>4-(intOf kk).toNat)
 case atStart=>exact⟨0,by omega,rfl,by rw[HC.out],zw,zw,zh⟩
 case round=>
  obtain⟨i,hi,rfl,rfl,za,zb,zB⟩:=hrel;clear I J B;have I:=za;have J:=zb;have B:=zB;clear za zb zB
  rcases Ep i 4 with i4 | i4
  .
   have a9:decide ((i:Int)<4)=true:=E_ D5;have Z:=h1 i i4;have H:=hst i;obtain⟨c,hc⟩:∃z,e i=z:=⟨_,rfl⟩;rw[hc]at Z H|-
   by_cases c0:c=0
   .
    subst c0;obtain⟨a1,a2,a3,a4,a5,a6,a7,a8,cN,bi,cg,cx,fa⟩:=br.out.2.2.2 i i4;obtain⟨b1,b2,b3,b4,b5,b6,b7,b8,bl,bh,cn,cy,fb⟩:=co.out.2.2.2 i i4;obtain⟨d,hd⟩:∃z,z8 (r i) (s i)=z:=⟨_,rfl⟩;rw[hd]at Z;have ci:∀w',zf w w'->Ed Ec 87 #[Ej #[Ez a1,Ex a2 a3 a4,Ez a5,Ex a6 a7 a8],Ej #[Ez b1,Ex b2 b3 b4,Ez b5,Ex b6 b7 b8]] w' fun x w2=>x = Eh (Ev #[Ey Ew d,Ey Ew 0])/\zf w' w2:=fun w' H=>by rw[<- hd]; exact K6 w' (fa.af (av.ae H)) (fb.af (av.ae H)) (sr i i4) (ss i i4) D5
    have HN:Hid (e (i+1)=d):=by rw[show jR 0 d=d from rfl]at Z; exact Z
    clear Z H hd fa fb hc;go_wp2_with fail
    refine aj.aI (fun D v W=>Below w.heap.size w W/\ai W w.heap.size 83 CA/\ai W (w.heap.size+1) 83 CB) (aj.inl [8]) (aj.gv [(8,fun z_=>z_ = Ev #[Ey Ew d,Ey Ew 0])]) aj.aR (fun _=>aj.Any) (fun _ _=>False) (aj.pl []) (aj.pl [])
     D6 D6 D6 (aj.dI _) (fun _=>⟨zh,zw,zw⟩) (fun _ _ _ _ _ h=>h) (fun _ _ _ _ _ _ _ _ _ _ _ _ _=>aj.none_) (fun _ _ _ _ h=>h.elim) (fun X Q' T hQ=> ?_)
    repeat refine aj.aD _ ?_
    apply aj.RP rfl rfl rfl 29 rfl rfl
    .
     intro D v W hc M Y K' E;obtain⟨j0,I,J⟩:=M;have c0:Er W ⟨w.heap.size,4+i*4,none⟩=_:=I.c _ cN;have c1:Er W ⟨w.heap.size,4+i*4+1,none⟩=_:=I.c _ bi;have c2:Er W ⟨w.heap.size,4+i*4+2,none⟩=_:=I.c _ cg;have c3:Er W ⟨w.heap.size,4+i*4+3,none⟩=_:=I.c _ cx;go_step;exact E.out
    . rfl
    repeat refine aj.aD _ ?_
    apply aj.RP rfl rfl rfl 33 rfl rfl
    .
     intro D v W hc M Y K' E;obtain⟨j0,I,J⟩:=M;have c0:Er W ⟨w.heap.size+1,4+i*4,none⟩=_:=J.c _ bl;have c1:Er W ⟨w.heap.size+1,4+i*4+1,none⟩=_:=J.c _ bh;have c2:Er W ⟨w.heap.size+1,4+i*4+2,none⟩=_:=J.c _ cn;have c3:Er W ⟨w.heap.size+1,4+i*4+3,none⟩=_:=J.c _ cy;go_step;exact E.out
    . rfl
    refine aj.aC rfl (ZB rfl) rfl (fun D v W hc M Y K' E=> ?_) ?_
    .
     obtain⟨j0,I,J⟩:=M;go_step;refine(ci _ j0).mono ?_;rintro e W2 ⟨rfl,H⟩;exact E.out _ W2 aj.any ⟨X1 j0 H,I.ae H,J.ae H⟩ trivial rfl
    rintro _ rfl;refine aj.aB (b:=⟨#[_,_,_,_,_,_,_,_,_,_,_,_,_,_,_,_,_,_,_,_,_,_,_,_,_,_,_,_,_,_,_,_,_,_,_,_,_,_,_,_,_,_,_,_,_,_,_,_,_,_,_,_,_,_,_,_],_⟩) rfl ?_
    repeat refine aj.aD _ ?_
    refine aj.aF (fun D v w9 hd M Y=> ?_);obtain⟨B,I,J⟩:=M;clear hd Y;refine hQ _ _ ?_;clear hQ T Q' X
    repeat' (first | go_values | go_skip | go_guarded | go_step | go_upon)
    go_roundw
    case rel=>exact⟨i+1,by omega,by go_num,by rw[HN.out],zw,zw,zh⟩
    case measure=>simp[intOf]; omega
   .
    have ah:(c==0)=false:=by simpa using c0
    have bg:Hid (e 4=c):=H c0 4 D5 D5;clear Z H hc hi;go_wp2_with fail
    go_loopw [5,8] (fun cc kk wr=>∃i:Nat,i<=4/\kk = Ey Ew i/\cc = Ey Ew (e (4+i))/\ai wr w.heap.size 83 CA/\ai wr (w.heap.size+1) 83 CB/\Below w.heap.size w wr) (fun _ kk _=>4-(intOf kk).toNat)
    case atStart=>exact⟨0,by omega,rfl,by rw[show 4+0=4 from rfl,bg.out],zw,zw,zh⟩
    case round=>
     obtain⟨i,hi,rfl,rfl,za,zb,zB⟩:=hrel;clear I J B;have I:=za;have J:=zb;have B:=zB;clear za zb zB
     rcases Ep i 4 with i4 | i4
     .
      have a9:decide ((i:Int)<4)=true:=E_ D5;have Z:=h2 i i4;have H:=hst (4+i);obtain⟨c,hc⟩:∃z,e (4+i)=z:=⟨_,rfl⟩;rw[hc]at Z H|-
      by_cases c0:c=0
      .
       subst c0;have ha:=b9 i i4;have hb:=aX i i4;have ba:=be i i4;have bb:=aY i i4;obtain⟨x,hx⟩:∃z,k i=z:=⟨_,rfl⟩;obtain⟨y,hy⟩:∃z,l i=z:=⟨_,rfl⟩;rw[hx]at ha ba Z;rw[hy]at hb bb Z;have HN:Hid (e (4+i+1)=x-y):=by rw[show jR 0 (x-y)=x-y from rfl]at Z; exact Z
       clear Z H hx hy hc;go_wp2_with fail
       refine aj.aI (fun D v W=>Below w.heap.size w W/\ai W w.heap.size 83 CA/\ai W (w.heap.size+1) 83 CB) (aj.inl []) (aj.gv []) aj.aR (fun _=>aj.Any) (fun _ _=>False) (aj.pl []) (aj.pl [])
        D6 D6 D6 (aj.dI _) (fun _=>⟨zh,zw,zw⟩) (fun _ _ _ _ _ h=>h) (fun _ _ _ _ _ _ _ _ _ _ _ _ _=>aj.none_) (fun _ _ _ _ h=>h.elim) (fun X Q' T hQ=> ?_)
       repeat refine aj.aD _ ?_
       apply aj.RP rfl rfl rfl 48 rfl rfl
       .
        intro D v W hc M Y K' E;obtain⟨j0,I,J⟩:=M;have c0:Er W ⟨w.heap.size,i,none⟩=some (Ey Ew x):=I.c _ ha;go_step;exact E.out
       . rfl
       repeat refine aj.aD _ ?_
       apply aj.RP rfl rfl rfl 52 rfl rfl
       .
        intro D v W hc M Y K' E;obtain⟨j0,I,J⟩:=M;have c0:Er W ⟨w.heap.size+1,i,none⟩=some (Ey Ew y):=J.c _ hb;go_step;exact E.out
       . rfl
       repeat refine aj.aD _ ?_
       refine aj.aF (fun D v w9 hd M Y=> ?_);obtain⟨B,I,J⟩:=M;clear hd Y;refine hQ _ _ ?_;clear hQ T Q' X
       repeat' (first | go_values | go_skip | go_guarded | go_step | go_upon)
       go_roundw
       case rel=>exact⟨i+1,by omega,by go_num,by rw[show 4+(i+1)=4+i+1 from by omega,HN.out],zw,zw,zh⟩
       case measure=>simp[intOf]; omega
      .
       have ah:(c==0)=false:=by simpa using c0
       have HE:Hid (e 8=c):=H c0 8 D5 D5;clear Z H hc
       go_wp2
       go_returns
       exact⟨Y_ (by rw[HE.out]),zh⟩
     .
      obtain rfl:i=4:=D5
      rw[show ((4:Nat):Int)=4 from rfl]
      go_wp2
      go_returns
      exact⟨rfl,zh⟩
  .
   obtain rfl:i=4:=D5
   rw[show ((4:Nat):Int)=4 from rfl];go_wp2_with fail
   go_loopw [5,8] (fun cc kk wr=>∃i:Nat,i<=4/\kk = Ey Ew i/\cc = Ey Ew (e (4+i))/\ai wr w.heap.size 83 CA/\ai wr (w.heap.size+1) 83 CB/\Below w.heap.size w wr) (fun _ kk _=>4-(intOf kk).toNat)
   case atStart=>exact⟨0,by omega,rfl,rfl,zw,zw,zh⟩
   case round=>
    obtain⟨i,hi,rfl,rfl,za,zb,zB⟩:=hrel;clear I J B;have I:=za;have J:=zb;have B:=zB;clear za zb zB
    rcases Ep i 4 with i4 | i4
    .
     have a9:decide ((i:Int)<4)=true:=E_ D5;have Z:=h2 i i4;have H:=hst (4+i);obtain⟨c,hc⟩:∃z,e (4+i)=z:=⟨_,rfl⟩;rw[hc]at Z H|-
     by_cases c0:c=0
     .
      subst c0;have ha:=b9 i i4;have hb:=aX i i4;have ba:=be i i4;have bb:=aY i i4;obtain⟨x,hx⟩:∃z,k i=z:=⟨_,rfl⟩;obtain⟨y,hy⟩:∃z,l i=z:=⟨_,rfl⟩;rw[hx]at ha ba Z;rw[hy]at hb bb Z;have HN:Hid (e (4+i+1)=x-y):=by rw[show jR 0 (x-y)=x-y from rfl]at Z; exact Z
      clear Z H hx hy hc;go_wp2_with fail
      refine aj.aI (fun D v W=>Below w.heap.size w W/\ai W w.heap.size 83 CA/\ai W (w.heap.size+1) 83 CB) (aj.inl []) (aj.gv []) aj.aR (fun _=>aj.Any) (fun _ _=>False) (aj.pl []) (aj.pl [])
       D6 D6 D6 (aj.dI _) (fun _=>⟨zh,zw,zw⟩) (fun _ _ _ _ _ h=>h) (fun _ _ _ _ _ _ _ _ _ _ _ _ _=>aj.none_) (fun _ _ _ _ h=>h.elim) (fun X Q' T hQ=> ?_)
      repeat refine aj.aD _ ?_
      apply aj.RP rfl rfl rfl 48 rfl rfl
      .
       intro D v W hc M Y K' E;obtain⟨j0,I,J⟩:=M;have c0:Er W ⟨w.heap.size,i,none⟩=some (Ey Ew x):=I.c _ ha;go_step;exact E.out
      . rfl
      repeat refine aj.aD _ ?_
      apply aj.RP rfl rfl rfl 52 rfl rfl
      .
       intro D v W hc M Y K' E;obtain⟨j0,I,J⟩:=M;have c0:Er W ⟨w.heap.size+1,i,none⟩=some (Ey Ew y):=J.c _ hb;go_step;exact E.out
      . rfl
      repeat refine aj.aD _ ?_
      refine aj.aF (fun D v w9 hd M Y=> ?_);obtain⟨B,I,J⟩:=M;clear hd Y;refine hQ _ _ ?_;clear hQ T Q' X
      repeat' (first | go_values | go_skip | go_guarded | go_step | go_upon)
      go_roundw
      case rel=>exact⟨i+1,by omega,by go_num,by rw[show 4+(i+1)=4+i+1 from by omega,HN.out],zw,zw,zh⟩
      case measure=>simp[intOf]; omega
     .
      have ah:(c==0)=false:=by simpa using c0
      have HE:Hid (e 8=c):=H c0 8 D5 D5;clear Z H hc
      go_wp2
      go_returns
      exact⟨Y_ (by rw[HE.out]),zh⟩
    .
     obtain rfl:i=4:=D5
     rw[show ((4:Nat):Int)=4 from rfl]
     go_wp2
     go_returns
     exact⟨rfl,zh⟩
open Go.RowKit
variable {r s:Rat} {v:Ef}
def kA (a:aV) (i:Nat):Int:=match i with | 0=>a.k0 | 1=>a.k1 | 2=>a.k2 | _=>a.k3
def cA (a:aV) (i:Nat):Int:=match i with | 0=>a.a1 | 1=>a.a2 | 2=>a.b1 | _=>a.b2
def rA (a:aV) (i:Nat):Rat:=(cA a i:Rat) / (a.n:Rat)
def Cb (x:Ef):Prop:=∃u v,ym u/\ym v/\x = Ev #[u,v]
def ev (r s:Rat) (x:Ef) (W:Ee):Prop:=∃u v,x = Ev #[u,v]/\FR W u r/\FR W v s
theorem ev.af (x:Ef) (W E:Ee) (k:av W E) (h:ev r s x W):ev r s x E:=by obtain⟨u,v,e,H,I⟩:=h; exact⟨u,v,e,H.af k,I.af k⟩
theorem ev.get {u:Ef} {W:Ee} (h:ev r s (Ev #[u,v]) W):FR W u r/\FR W v s:=by
 obtain⟨I,J,e,E,H⟩:=h;simp only[Value.tuple.injEq,Array.mk.injEq,List.cons.injEq,and_true]at e;obtain⟨rfl,rfl⟩:=e;exact⟨E,H⟩
theorem Cc {ao:Option Addr} {cap len:Nat} (a b c d I o0:Nat) (xa ya xb yb xc yc xd yd:Int) (r1 r2 r3 r4:Rat) (w:Ee) (bl:len<=cap) (e0:ao=some ⟨I,o0,none⟩) (H:I<w.heap.size) (ha:a<len) (hb:b<len) (hc:c<len) (hd:d<len)
  (b9:w.cell? ⟨I,o0+a*2,none⟩=some (Ey Ew xa)) (aX:w.cell? ⟨I,o0+a*2+1,none⟩=some (Ey Ew ya)) (aY:w.cell? ⟨I,o0+b*2,none⟩=some (Ey Ew xb)) (ah:w.cell? ⟨I,o0+b*2+1,none⟩=some (Ey Ew yb))
  (bg:w.cell? ⟨I,o0+c*2,none⟩=some (Ey Ew xc)) (be:w.cell? ⟨I,o0+c*2+1,none⟩=some (Ey Ew yc)) (bi:w.cell? ⟨I,o0+d*2,none⟩=some (Ey Ew xd)) (bh:w.cell? ⟨I,o0+d*2+1,none⟩=some (Ey Ew yd))
  (q1:∀w',Ed Ec 148 #[Ej #[Ey Ew xa,Ey Ew ya],Ej #[Ey Ew xb,Ey Ew yb],Ej #[Ey Ew xc,Ey Ew yc]] w' fun e J=>∃u v,e = Eh (Ev #[u,v])/\FR J u r1/\FR J v r2/\zf w' J)
  (q2:∀w',Ed Ec 148 #[Ej #[Ey Ew xa,Ey Ew ya],Ej #[Ey Ew xb,Ey Ew yb],Ej #[Ey Ew xd,Ey Ew yd]] w' fun e J=>∃u v,e = Eh (Ev #[u,v])/\FR J u r3/\FR J v r4/\zf w' J) :
  Ed Ec 115 #[Ex ao len cap,Ej #[Ey Ew a,Ey Ew b,Ey Ew c,Ey Ew d]] w fun e w'=>∃u1 u2 u3 u4 u5 u6 u7 u8 T v2 v3 v4 Y Z v7 v8 s1 s2 s3 s4 s5 s6 s7 s8 t1 t2 t3 t4 t5 t6 t7 t8,e = Eh (Ej #[Ey Ew a,Ey Ew b,Ey Ew c,Ey Ew d,Ez u1,Ex u2 u3 u4,Ez u5,Ex u6 u7 u8,Ez T,Ex v2 v3 v4,Ez Y,Ex Z v7 v8,Ez s1,Ex s2 s3 s4,Ez s5,Ex s6 s7 s8,Ez t1,Ex t2 t3 t4,Ez t5,Ex t6 t7 t8])/\(FR w' (Ej #[Ez u1,Ex u2 u3 u4,Ez u5,Ex u6 u7 u8]) r1/\FR w' (Ej #[Ez T,Ex v2 v3 v4,Ez Y,Ex Z v7 v8]) r2/\FR w' (Ej #[Ez s1,Ex s2 s3 s4,Ez s5,Ex s6 s7 s8]) r3/\FR w' (Ej #[Ez t1,Ex t2 t3 t4,Ez t5,Ex t6 t7 t8]) r4)/\zf w w':=by
 subst e0
 go_enter Tryz.func115,Tryz.ntmps115
 go_wp2_with (first | (refine yp rfl 83 #[(0,.tmp 6)] rfl #[Ey Ew a,Ey Ew b,Ey Ew c,Ey Ew d,Ez false,Ex none 0 0,Ez false,Ex none 0 0,Ez false,Ex none 0 0,Ez false,Ex none 0 0,Ez false,Ex none 0 0,Ez false,Ex none 0 0,Ez false,Ex none 0 0,Ez false,Ex none 0 0] D6 ?_) | (refine zF rfl 83 (.tmp 5) (.tmp 7) rfl (w.heap.size+1+1) #[Ey Ew a,Ey Ew b,Ey Ew c,Ey Ew d,Ez false,Ex none 0 0,Ez false,Ex none 0 0,Ez false,Ex none 0 0,Ez false,Ex none 0 0,Ez false,Ex none 0 0,Ez false,Ex none 0 0,Ez false,Ex none 0 0,Ez false,Ex none 0 0] rfl rfl 83 #[Ey Ew 0,Ey Ew 0,Ey Ew 0,Ey Ew 0,Ez false,Ex none 0 0,Ez false,Ex none 0 0,Ez false,Ex none 0 0,Ez false,Ex none 0 0,Ez false,Ex none 0 0,Ez false,Ex none 0 0,Ez false,Ex none 0 0,Ez false,Ex none 0 0] zw D6 rfl (by simp[Value.oneCell']) (fun w1 rr=> ?_)))
 have B:Below w.heap.size w w1:=rr.below zh D5;have oa:ai w1 w.heap.size 80 #[Ey Ew a,Ey Ew b,Ey Ew c,Ey Ew d]:=rr.bG zw D5;have or:ai w1 (w.heap.size+1) 83 ZT:=rr.bG zw D5;have X:ai w1 (w.heap.size+1+1) 83 #[Ey Ew a,Ey Ew b,Ey Ew c,Ey Ew d,Ez false,Ex none 0 0,Ez false,Ex none 0 0,Ez false,Ex none 0 0,Ez false,Ex none 0 0,Ez false,Ex none 0 0,Ez false,Ex none 0 0,Ez false,Ex none 0 0,Ez false,Ex none 0 0]:=rr.bz;clear rr;refine aj.cC w w1 [.o w.heap.size 80 #[Ey Ew a,Ey Ew b,Ey Ew c,Ey Ew d],.o (w.heap.size+1) 83 #[Ey Ew 0,Ey Ew 0,Ey Ew 0,Ey Ew 0,Ez false,Ex none 0 0,Ez false,Ex none 0 0,Ez false,Ex none 0 0,Ez false,Ex none 0 0,Ez false,Ex none 0 0,Ez false,Ex none 0 0,Ez false,Ex none 0 0,Ez false,Ex none 0 0],.m (w.heap.size+1+1) 83 #[Ey Ew a,Ey Ew b,Ey Ew c,Ey Ew d,Ez false,Ex none 0 0,Ez false,Ex none 0 0,Ez false,Ex none 0 0,Ez false,Ex none 0 0,Ez false,Ex none 0 0,Ez false,Ex none 0 0,Ez false,Ex none 0 0,Ez false,Ex none 0 0] 21 [15] (aj.fw 4 5 6 7 (aj.ct 0)) 24 [15] (aj.fw 8 9 10 11 (aj.ct 1))] [15,21,24] [(15,Cb)] [(15,ev (r1) (r2))] [(21,[(15,some 24)]),(24,[(15,some 24)]),(25,[(15,some 24)])] [(15,[21,24]),(21,[24])] (by simp only[aP]; exact⟨zh,zj,zw,zw,⟨zw,rfl⟩,trivial⟩) (fun N0 a9 M Q' E hQ=> ?_) (hv:=by intro p hp; rw[List.mem_singleton.1 hp]; exact⟨_,_,_,⟨false,none,0,0,false,none,0,0,rfl⟩,⟨false,none,0,0,false,none,0,0,rfl⟩,rfl⟩) (hg:=by intro p hp; rw[List.mem_singleton.1 hp]; exact ev.af);clear a9 B oa or X
 iterate 2 refine aj.RQ E _ ?_
 refine aj.bH E 11 (fun _ _ _ _ h=>ai.b4 h.e.1) ?_;refine aj.RQ E 12 ?_;refine aj.bH E 13 (fun _ _ _ _ h=>E7 ((h.b.cell (p:=⟨I,o0+a*2,none⟩) H).trans b9) ((h.b.cell (p:=⟨I,o0+a*2+1,none⟩) H).trans aX)) ?_
 iterate 2 refine aj.RQ E _ ?_
 refine aj.bH E 16 (fun _ _ _ _ h=>ai.b4 h.e.1) ?_;refine aj.RQ E 17 ?_;refine aj.bH E 18 (fun _ _ _ _ h=>E7 ((h.b.cell (p:=⟨I,o0+b*2,none⟩) H).trans aY) ((h.b.cell (p:=⟨I,o0+b*2+1,none⟩) H).trans ah)) ?_
 iterate 2 refine aj.RQ E _ ?_
 refine aj.bH E 21 (fun _ _ _ _ h=>ai.b4 h.e.1) ?_;refine aj.RQ E 22 ?_;refine aj.bH E 23 (fun _ _ _ _ h=>E7 ((h.b.cell (p:=⟨I,o0+c*2,none⟩) H).trans bg) ((h.b.cell (p:=⟨I,o0+c*2+1,none⟩) H).trans be)) ?_;refine aj.sC (m:=fun u=>u) (F:=fun W u=>ev (r1) (r2) u W) E (fun D v W _ _=>(q1 W).mono (fun e J ⟨u,v,he,h1,h2,hs⟩=>⟨_,he,⟨u,v,rfl,h1,h2⟩,hs⟩)) ?_ (hv:=fun W u h=>by obtain⟨x,y,rfl,h1,h2⟩:=h; exact⟨x,y,h1.ak,h2.ak,rfl⟩);rintro _ ⟨_,_,⟨u1,u2,u3,u4,u5,u6,u7,u8,rfl⟩,⟨T,v2,v3,v4,Y,Z,v7,v8,rfl⟩,rfl⟩;refine aj.aB (b:=⟨#[_,_,_,_,_,_,_,_,_,_,_,_,_,_,_,_,_,_,_,_,_,_,_,_,_,_,_,_,_,_,_,_,_,_,_,_,_,_,_,_,_,_,_,_,_,_,_,_,_,_,_,_,_,_,_],_⟩) rfl ?_
 iterate 5 refine aj.RQ E _ ?_
 refine aj.sM E ?_
 iterate 2 refine aj.RQ E _ ?_
 refine aj.fM E ?_;refine aj.sE (fun _ v J B jk hl _ _ hf=> ?_);simp only[xx,xA]at hl;obtain⟨oa,or,X,-⟩:=hl;replace X:ai J (w.heap.size+1+1) 83 #[Ey Ew a,Ey Ew b,Ey Ew c,Ey Ew d,Ez u1,Ex u2 u3 u4,Ez u5,Ex u6 u7 u8,Ez T,Ex v2 v3 v4,Ez Y,Ex Z v7 v8,Ez false,Ex none 0 0,Ez false,Ex none 0 0,Ez false,Ex none 0 0,Ez false,Ex none 0 0]:=X;obtain⟨Fu,Fv⟩:=ev.get (r:=r1) (s:=r2) (u:= Ej #[Ez u1,Ex u2 u3 u4,Ez u5,Ex u6 u7 u8]) (v:= Ej #[Ez T,Ex v2 v3 v4,Ez Y,Ex Z v7 v8]) (hf (15,some 24) (.head _) rfl).2.2;clear hf;refine hQ _ _ ?_;clear hQ E Q' M;clear q1 jk
 repeat' (first | go_values | go_skip | go_guarded | go_step | go_upon)
 refine aj.cC w J [.o w.heap.size 80 #[Ey Ew a,Ey Ew b,Ey Ew c,Ey Ew d],.o (w.heap.size+1) 83 #[Ey Ew 0,Ey Ew 0,Ey Ew 0,Ey Ew 0,Ez false,Ex none 0 0,Ez false,Ex none 0 0,Ez false,Ex none 0 0,Ez false,Ex none 0 0,Ez false,Ex none 0 0,Ez false,Ex none 0 0,Ez false,Ex none 0 0,Ez false,Ex none 0 0],.m (w.heap.size+1+1) 83 #[Ey Ew a,Ey Ew b,Ey Ew c,Ey Ew d,Ez u1,Ex u2 u3 u4,Ez u5,Ex u6 u7 u8,Ez T,Ex v2 v3 v4,Ez Y,Ex Z v7 v8,Ez false,Ex none 0 0,Ez false,Ex none 0 0,Ez false,Ex none 0 0,Ez false,Ex none 0 0] 21 [15] (aj.fw 12 13 14 15 (aj.ct 0)) 24 [15] (aj.fw 16 17 18 19 (aj.ct 1))] [15,21,24] [(15,Cb)] [(15,ev (r3) (r4))] [(21,[(15,some 47)]),(24,[(15,some 47)]),(25,[(15,some 47)])] [(15,[21,24]),(21,[24])] (by simp only[aP]; exact⟨zh,zj,zw,zw,⟨zw,rfl⟩,trivial⟩) (fun N0 a9 M Q' E hQ=> ?_) (hv:=by intro p hp; rw[List.mem_singleton.1 hp]; exact⟨_,_,_,⟨false,none,0,0,false,none,0,0,rfl⟩,⟨false,none,0,0,false,none,0,0,rfl⟩,rfl⟩) (hg:=by intro p hp; rw[List.mem_singleton.1 hp]; exact ev.af);clear a9 B oa or X
 iterate 2 refine aj.RQ E _ ?_
 refine aj.bH E 34 (fun _ _ _ _ h=>ai.b4 h.e.1) ?_;refine aj.RQ E 35 ?_;refine aj.bH E 36 (fun _ _ _ _ h=>E7 ((h.b.cell (p:=⟨I,o0+a*2,none⟩) H).trans b9) ((h.b.cell (p:=⟨I,o0+a*2+1,none⟩) H).trans aX)) ?_
 iterate 2 refine aj.RQ E _ ?_
 refine aj.bH E 39 (fun _ _ _ _ h=>ai.b4 h.e.1) ?_;refine aj.RQ E 40 ?_;refine aj.bH E 41 (fun _ _ _ _ h=>E7 ((h.b.cell (p:=⟨I,o0+b*2,none⟩) H).trans aY) ((h.b.cell (p:=⟨I,o0+b*2+1,none⟩) H).trans ah)) ?_
 iterate 2 refine aj.RQ E _ ?_
 refine aj.bH E 44 (fun _ _ _ _ h=>ai.b4 h.e.1) ?_;refine aj.RQ E 45 ?_;refine aj.bH E 46 (fun _ _ _ _ h=>E7 ((h.b.cell (p:=⟨I,o0+d*2,none⟩) H).trans bi) ((h.b.cell (p:=⟨I,o0+d*2+1,none⟩) H).trans bh)) ?_;refine aj.sC (m:=fun u=>u) (F:=fun W u=>ev (r3) (r4) u W) E (fun D v W _ _=>(q2 W).mono (fun e J ⟨u,v,he,h1,h2,hs⟩=>⟨_,he,⟨u,v,rfl,h1,h2⟩,hs⟩)) ?_ (hv:=fun W u h=>by obtain⟨x,y,rfl,h1,h2⟩:=h; exact⟨x,y,h1.ak,h2.ak,rfl⟩);rintro _ ⟨_,_,⟨s1,s2,s3,s4,s5,s6,s7,s8,rfl⟩,⟨t1,t2,t3,t4,t5,t6,t7,t8,rfl⟩,rfl⟩;refine aj.aB (b:=⟨#[_,_,_,_,_,_,_,_,_,_,_,_,_,_,_,_,_,_,_,_,_,_,_,_,_,_,_,_,_,_,_,_,_,_,_,_,_,_,_,_,_,_,_,_,_,_,_,_,_,_,_,_,_,_,_],_⟩) rfl ?_
 iterate 5 refine aj.RQ E _ ?_
 refine aj.sM E ?_
 iterate 2 refine aj.RQ E _ ?_
 refine aj.fM E ?_;refine aj.sE (fun _ v w3 B jk hl _ _ hf=> ?_);simp only[xx,xA]at hl;obtain⟨oa,or,X,-⟩:=hl;replace X:ai w3 (w.heap.size+1+1) 83 #[Ey Ew a,Ey Ew b,Ey Ew c,Ey Ew d,Ez u1,Ex u2 u3 u4,Ez u5,Ex u6 u7 u8,Ez T,Ex v2 v3 v4,Ez Y,Ex Z v7 v8,Ez s1,Ex s2 s3 s4,Ez s5,Ex s6 s7 s8,Ez t1,Ex t2 t3 t4,Ez t5,Ex t6 t7 t8]:=X;obtain⟨Fs,Ft⟩:=ev.get (r:=r3) (s:=r4) (u:= Ej #[Ez s1,Ex s2 s3 s4,Ez s5,Ex s6 s7 s8]) (v:= Ej #[Ez t1,Ex t2 t3 t4,Ez t5,Ex t6 t7 t8]) (hf (15,some 47) (.head _) rfl).2.2;clear hf;refine hQ _ _ ?_;clear hQ E Q' M;replace Fu:=Fu.af jk;replace Fv:=Fv.af jk;clear q2 jk
 repeat' (first | go_values | go_skip | go_guarded | (refine zO rfl 83 (.tmp 5) rfl (w.heap.size+1+1) rfl 83 #[Ey Ew a,Ey Ew b,Ey Ew c,Ey Ew d,Ez u1,Ex u2 u3 u4,Ez u5,Ex u6 u7 u8,Ez T,Ex v2 v3 v4,Ez Y,Ex Z v7 v8,Ez s1,Ex s2 s3 s4,Ez s5,Ex s6 s7 s8,Ez t1,Ex t2 t3 t4,Ez t5,Ex t6 t7 t8] _ X Tryz.underlying83 rfl D6 ?_) | (refine zF rfl 83 (.tmp 4) (.tmp 54) rfl (w.heap.size+1) #[Ey Ew a,Ey Ew b,Ey Ew c,Ey Ew d,Ez u1,Ex u2 u3 u4,Ez u5,Ex u6 u7 u8,Ez T,Ex v2 v3 v4,Ez Y,Ex Z v7 v8,Ez s1,Ex s2 s3 s4,Ez s5,Ex s6 s7 s8,Ez t1,Ex t2 t3 t4,Ez t5,Ex t6 t7 t8] rfl rfl 83 #[Ey Ew 0,Ey Ew 0,Ey Ew 0,Ey Ew 0,Ez false,Ex none 0 0,Ez false,Ex none 0 0,Ez false,Ex none 0 0,Ez false,Ex none 0 0,Ez false,Ex none 0 0,Ez false,Ex none 0 0,Ez false,Ex none 0 0,Ez false,Ex none 0 0] or D6 rfl (by simp[Value.oneCell']) (fun w4 r4=> ?_)) | go_step | go_upon)
 refine En (jj rfl _ _ (w.heap.size+1) rfl r4.bz Tryz.underlying83 rfl D6) rfl ?_;have kp:=r4.af rfl;exact⟨_,_,_,_,_,_,_,_,_,_,_,_,_,_,_,_,_,_,_,_,_,_,_,_,_,_,_,_,_,_,_,_,rfl,⟨Fu.af kp,Fv.af kp,Fs.af kp,Ft.af kp⟩,r4.below B D5⟩
theorem QF.gk {w:Ee} {J a1 a2 a3:Int} {u1 u5:Bool} {u2 u6:Option Addr} {u3 u4 u7 u8:Nat} {E Y:Bool} {v2 Z:Option Addr} {v3 v4 v7 v8:Nat} {s1 s5:Bool} {s2 s6:Option Addr} {s3 s4 s7 s8:Nat} {t1 H:Bool} {I T:Option Addr} {X t4 M t8:Nat} {k:Nat->Int} {r:Nat->Rat} (hk:k 0=J/\k 1=a1/\k 2=a2/\k 3=a3) (h0:FR w (Ej #[Ez u1,Ex u2 u3 u4,Ez u5,Ex u6 u7 u8]) (r 0)) (h1:FR w (Ej #[Ez E,Ex v2 v3 v4,Ez Y,Ex Z v7 v8]) (r 1)) (h2:FR w (Ej #[Ez s1,Ex s2 s3 s4,Ez s5,Ex s6 s7 s8]) (r 2)) (h3:FR w (Ej #[Ez t1,Ex I X t4,Ez H,Ex T M t8]) (r 3)) :
  QF w #[Ey Ew J,Ey Ew a1,Ey Ew a2,Ey Ew a3,Ez u1,Ex u2 u3 u4,Ez u5,Ex u6 u7 u8,Ez E,Ex v2 v3 v4,Ez Y,Ex Z v7 v8,Ez s1,Ex s2 s3 s4,Ez s5,Ex s6 s7 s8,Ez t1,Ex I X t4,Ez H,Ex T M t8] k r:=by
 obtain⟨k0,k1,k2,k3⟩:=hk;refine⟨rfl,by simp[Value.oneCell'],fun i hi=> ?_,fun i hi=> ?_⟩
 .
  rcases(show i=0\/i=1\/i=2\/i=3 by omega)with rfl | rfl | rfl | rfl
  . rw[k0]; rfl
  . rw[k1]; rfl
  . rw[k2]; rfl
  . rw[k3]; rfl
 .
  rcases(show i=0\/i=1\/i=2\/i=3 by omega)with rfl | rfl | rfl | rfl
  . exact⟨_,_,_,_,_,_,_,_,rfl,rfl,rfl,rfl,h0⟩
  . exact⟨_,_,_,_,_,_,_,_,rfl,rfl,rfl,rfl,h1⟩
  . exact⟨_,_,_,_,_,_,_,_,rfl,rfl,rfl,rfl,h2⟩
  . exact⟨_,_,_,_,_,_,_,_,rfl,rfl,rfl,rfl,h3⟩
theorem Hm {l:PL} {K:Nat->Nat} (x:P4) (w:Ee) (h:bP w v l) (E:∀i,K i<l.length) (H:∀i,kK (pt l (K i)).1 (pt l (K i)).2) (Y:(yQ l K x).n≠0) :
  Ed Ec 115 #[v,Je K x] w fun e w'=>∃cs,e = Eh (Ej cs)/\QF w' cs (kA (yQ l K x)) (rA (yQ l K x))/\zf w w':=by
 obtain⟨ao,cap,rfl⟩:=h.ak;have hc:=h.cells;obtain⟨J,o0,X,M,T,I⟩:=h.at (E x.1)
 have sm:∀a,a<l.length->w.cell? ⟨J,o0+a*2,none⟩=some (Ey Ew (pt l a).1)/\w.cell? ⟨J,o0+a*2+1,none⟩=some (Ey Ew (pt l a).2):=fun a ha=>by
  obtain⟨b,o,e,-,h1,h2⟩:=h.at ha;rw[X]at e
  injection e with e
  injection e with e1 e2
  subst e1 e2;exact⟨h1,h2⟩
 have s1:=sm _ (E x.2.1);have s2:=sm _ (E x.2.2.1);have s3:=sm _ (E x.2.2.2)
 refine Calls.mono (Cc (K x.1) (K x.2.1) (K x.2.2.1) (K x.2.2.2) J o0 _ _ _ _ _ _ _ _ (rA (yQ l K x) 0) (rA (yQ l K x) 1) (rA (yQ l K x) 2) (rA (yQ l K x) 3) w hc.2.1 X M (E _) (E _) (E _) (E _) T I s1.1 s1.2 s2.1 s2.2 s3.1 s3.2
  (fun w'=>GG _ _ _ _ _ _ w' (H x.1) (H x.2.1) (H x.2.2.1) Y) (fun w'=>GG _ _ _ _ _ _ w' (H x.1) (H x.2.1) (H x.2.2.2) Y)) ?_
 rintro e w' ⟨u1,u2,u3,u4,u5,u6,u7,u8,v1,v2,v3,v4,v5,v6,v7,v8,s1,s2,s3,s4,s5,s6,s7,s8,t1,t2,t3,t4,t5,t6,t7,t8,rfl,⟨f0,f1,f2,Z⟩,hs⟩;exact⟨_,rfl,QF.gk ⟨rfl,rfl,rfl,rfl⟩ f0 f1 f2 Z,hs⟩
open Go.RowKit
variable {a c:aV} {N x y:Int}
theorem Vc (E:0<N):(x:Rat) / (N:Rat)<=(y:Rat) / (N:Rat)↔x<=y:=by
 have h0:(0:Rat)<(N:Rat):=Rat.intCast_pos.2 E;have H:(N:Rat)≠0:=fun e=>by rw[e]at h0; exact absurd h0 D7
 have e:∀z:Rat,z / (N:Rat)*(N:Rat)=z:=fun z=>Rat.div_mul_cancel H
 constructor
 .
  intro h;have:=Rat.mul_le_mul_of_nonneg_right h (Rat.le_of_lt h0);rw[e,e]at this;exact Rat.intCast_le_intCast.1 this
 .
  intro h;refine Rat.le_of_mul_le_mul_right ?_ h0;rw[e,e];exact Rat.intCast_le_intCast.2 h
theorem Jh (E:0<N):z8 ((x:Rat) / (N:Rat)) ((y:Rat) / (N:Rat))=zL x y:=by
 have a:=Vc (x:=x) (y:=y) E;have b:=Vc (x:=y) (y:=x) E
 rcases vJ ((x:Rat) / (N:Rat)) ((y:Rat) / (N:Rat))with⟨h,h2⟩ | ⟨h,h2⟩ | ⟨h,h2⟩
 .
  have e:x=y:=Int.le_antisymm (a.1 (h2▸(Rat.not_lt.1 (fun g=>absurd g (Rat.not_lt.2 (Rat.le_iff_lt_or_eq.2 (.inr rfl))))))) (b.1 (h2▸(Rat.not_lt.1 (fun g=>absurd g (Rat.not_lt.2 (Rat.le_iff_lt_or_eq.2 (.inr rfl)))))));rw[h,e]; unfold zL; rw[E8 rfl]
 .
  have e:¬y<=x:=fun g=>absurd (b.2 g) (Rat.not_le.2 h2);rw[h]; unfold zL; rw[E9 D5,E8 D5]
 .
  have e:¬x<=y:=fun g=>absurd (a.2 g) (Rat.not_le.2 h2);rw[h]; unfold zL; rw[E9 D5,E9 D5]
theorem Ji (H:0<N):(x:Rat) / (N:Rat)+(y:Rat) / (N:Rat)=((x+y:Int):Rat) / (N:Rat):=by
 have h0:(0:Rat)<(N:Rat):=Rat.intCast_pos.2 H;have E:(N:Rat)≠0:=fun e=>by rw[e]at h0; exact absurd h0 D7
 refine(qF E ?_).symm;rw[Rat.add_mul,Rat.div_mul_cancel E,Rat.div_mul_cancel E,Rat.intCast_add]
def cj (x y:Int):Prop:=(x<0↔y<0)/\(x=0↔y=0)
theorem cj.eR {c d c' E:Int} (h:cj c c') (k:cj d E):cj (jR c d) (jR c' E):=by
 unfold cj jR at *
 by_cases g:c=0
 . rw[E8 g,E8 (h.2.1 g)]; exact k
 . rw[E9 g,E9 (fun e=>g (h.2.2 e))]; exact h
theorem cj.sub (x y:Int):cj (x-y) (zL x y):=by
 unfold cj zL
 split
 . omega
 . split<;>omega
theorem cj.refl (x:Int):cj x x:=⟨Iff.rfl,Iff.rfl⟩
def V8 (a c:aV):Nat->Int
 | 0=>z8 (rA a 0+rA a 2) (rA c 0+rA c 2)
 | n+1=>jR (V8 a c n) (if n<4 then z8 (rA a n) (rA c n)else kA a (n-4)-kA c (n-4))
theorem U_ (E:0<c.n) (h:a.n=c.n):cj (V8 a c 8) (jy a c):=by
 have q:∀i,z8 (rA a i) (rA c i)=zL (cA a i) (cA c i):=fun i=>by unfold rA; rw[h]; exact Jh E
 have H:V8 a c 0=zL (a.a1+a.b1) (c.a1+c.b1):=by
  show z8 (rA a 0+rA a 2) (rA c 0+rA c 2)=_
  unfold rA;rw[h,Ji E,Ji E]; exact Jh E
 rw[K_];have st:∀n,V8 a c (n+1)=jR (V8 a c n) (if n<4 then z8 (rA a n) (rA c n)else kA a (n-4)-kA c (n-4)):=fun _=>rfl;rw[st 7,st 6,st 5,st 4,st 3,st 2,st 1,st 0,H];simp only[q];exact(((((((((cj.refl _).eR (cj.refl _)).eR (cj.refl _)).eR (cj.refl _)).eR (cj.refl _)).eR (cj.sub _ _)).eR (cj.sub _ _)).eR (cj.sub _ _)).eR (cj.sub _ _))
theorem Vd {m:Int} (h0 : -m<=x) (E:x<=m):zi x<=m:=by unfold zi; omega
theorem Ve (h:cX a) (E:0<a.n) (i:Nat):sz (rA a i) 2:=by
 have e:bp 2=18446744073709551616:=by decide
 unfold rA;refine xW D5 ?_ ?_
 .
  have : -35184372088832<=cA a i/\cA a i<=35184372088832:=by
   unfold cA; split
   . exact h.a1
   . exact h.a2
   . exact h.b1
   . exact h.b2
  rw[e]; exact Vd D5 D5
 .
  have:=h.n;rw[e]; exact Vd D5 D5
theorem Cd {CA J:Array Ef} (w:Ee) (T:QF w CA (kA a) (rA a)) (hb:QF w J (kA c) (rA c)) (na:cX a) (Y:cX c) (M:0<c.n) (h:a.n=c.n) (ka:∀i,i<4->0<=kA a i/\kA a i<=1000000) (X:∀i,i<4->0<=kA c i/\kA c i<=1000000) :
  Ed Ec 116 #[Ej CA,Ej J] w fun x w'=>x = Eh (Ez (decide (jy a c<0)))/\zf w w':=by
 have Z:0<a.n:=D5
 have H:=fun i=>Ve na Z i;have E:=fun i=>Ve Y M i
 have:=W_ (e:=V8 a c) w T hb (fun i _=>H i) (fun i _=>E i) (((H 0).add (H 2)).mono D5) (((E 0).add (E 2)).mono D5) ka X rfl
  (fun i I=>by show jR _ _=_; rw[E8 I]) (fun i I=>by show jR _ _=_; rw[E9 D5,show 4+i-4=i by omega])
 rwa[decide_eq_decide.2 (U_ M h).1]at this
def xj (l:PL) (K:Nat->Nat) (N:Int) (a b c:Nat):Option aV:=jG N ((xO a b c).map (yQ l K))
theorem X_ (l:PL) (K:Nat->Nat) (N:Int) {a b c:Nat} (H:a<4) (E:b<4) (hc:c<4) (hv:¬(a≠b/\a≠c/\b≠c)):xj l K N a b (c+1)=xj l K N a b c:=by
 unfold xj; rw[Yj a H b E c hc,E9 hv]
theorem Ga (l:PL) (K:Nat->Nat) (N:Int) {a b c d:Nat} (I:a<4) (H:b<4) (hc:c<4) (hv:a≠b/\a≠c/\b≠c) (hd:6-a-b-c=d) (E:(yQ l K (a,b,c,d)).n=N) :
  xj l K N a b (c+1)=(match xj l K N a b c with | none=>some (yQ l K (a,b,c,d)) | some x=>if jy (yQ l K (a,b,c,d)) x<0 then some (yQ l K (a,b,c,d))else some x):=by
 unfold xj; rw[Yj a I b H c hc,E8 hv,hd,List.map_append]
 show jG N (_ ++ [_])=_
 rw[j4,E8 E]
 cases jG N (List.map (yQ l K) (xO a b c))<;>rfl
theorem Ki (l:PL) (K:Nat->Nat) (N:Int) {a b:Nat} (H:a<4) (E:b<4) (I:dst l K a b≠N):∀c,c<=4->xj l K N a b c=xj l K N a b 0:=by
 intro c
 induction c with
 | zero=>intro _; rfl
 | succ c ih=>
  intro hc;rw[<- ih D5]
  by_cases hv:a≠b/\a≠c/\b≠c
  .
   unfold xj; rw[Yj a H b E c D5,E8 hv,List.map_append]
   show jG N (_ ++ [_])=_
   rw[j4,E9 (show ¬(yQ l K (a,b,c,6-a-b-c)).n=N from fun e=>I e)]
  . exact X_ l K N H E D5 hv
theorem Vf (l:PL) (K:Nat->Nat) (N:Int) {a b:Nat} (H:a<4) (E:b<4):xj l K N a b 4=xj l K N a (b+1) 0:=by unfold xj; rw[KV a H b E]
theorem Wa (l:PL) (K:Nat->Nat) (N:Int) {a b:Nat} (H:a<4) (E:b<4) (h:a=b):xj l K N a b 0=xj l K N a (b+1) 0:=by unfold xj; rw[UL a H b E h]
theorem Gb (l:PL) (K:Nat->Nat) (N:Int) {a:Nat} (E:a<4):xj l K N a 4 0=xj l K N (a+1) 0 0:=by unfold xj; rw[KW a E]
theorem Gc (l:PL) (K:Nat->Nat) (N:Int):xj l K N 0 0 0=none:=by unfold xj; rw[KX]; rfl
theorem V9 (l:PL) (K:Nat->Nat) (h:0<jB l K):xj l K (jB l K) 4 0 0=some (yA l K):=by unfold xj; rw[Xz]; exact J6 l K h
theorem Gd (l:PL) (K:Nat->Nat) (N:Int) {a b c:Nat} {x:aV} (h:xj l K N a b c=some x):x.n=N/\∃p,x=yQ l K p:=by
 unfold xj at h
 rcases YL N ((xO a b c).map (yQ l K))with⟨h1,-⟩ | ⟨y,h1,h2,h3,-⟩
 . rw[h1]at h; cases h
 .
  rw[h1]at h
  injection h with h
  subst h;obtain⟨p,-,e⟩:=List.mem_map.1 h2;exact⟨h3,p,e.symm⟩
open Go.RowKit
variable {cs:Array Ef} {g:Nat} {k:Nat->Int} {r:Nat->Rat} {o:Option aV} {ff:Ef} {w:Ee}
def cK (wr:Ee) (g:Nat) (ff:Ef):Option aV->Prop
 | none=>ff = Ez false/\ai wr g 83 ZT
 | some x=>ff = Ez true/\∃cs,ai wr g 83 cs/\QF wr cs (kA x) (rA x)
theorem cK.ae {w':Ee} (h:cK w g ff o) (s:zf w w'):cK w' g ff o:=by
 cases o with
 | none=>exact⟨h.1,h.2.ae s⟩
 | some x=>obtain⟨e,cs,E,H⟩:=h; exact⟨e,cs,E.ae s,H.ae s⟩
theorem cK.lt (h:cK w g ff o):g<w.heap.size:=by
 cases o with
 | none=>exact h.2.lt
 | some x=>obtain⟨e,cs,E,H⟩:=h; exact E.lt
def CN (x:Ef):Prop:=∃cs:Array Ef,x = Ej cs/\cs.size=20/\cs.all (·.oneCell')=true
def GQ (k:Nat->Int) (r:Nat->Rat) (x:Ef) (W:Ee):Prop:=∃cs,x = Ej cs/\QF W cs k r
theorem GQ.af (x:Ef) (W E:Ee) (H:av W E) (h:GQ k r x W):GQ k r x E:=by obtain⟨cs,e,h⟩:=h; exact⟨cs,e,h.af H⟩
theorem GQ.get {W:Ee} (h:GQ k r (Ej cs) W):QF W cs k r:=by obtain⟨cs',e,h⟩:=h; injection e with e; subst e; exact h
theorem kW {P:Program} {ops:Array Oper} {rest:List Oper} {o:Oper} {a:Act} {w:Ee} {Q:Exit->Act->Ee->Prop} (hw:Region.wanted o (yielded ops a.tmps)=true) (ty:TypeId) (x:Operand) (E:o.op = .load ty x) (g:Nat) (J:a.eval x = Ek (some ⟨g,0,none⟩)) (t:TypeId) (cs:Array Ef) (d:TypeDesc) (hg:ai w g t cs)
  (H:P.underlying ty=some d) (hd:(match d with | .struct _ | .array _ _=>true | _=>false)=true) (I:(P.info? ty).map (·.size)=some cs.size)
  (h:wpList P ops Q rest (a.put o.dst (Ej cs)) w):wpList P ops Q (o::rest) a w:=by
 unfold wpList;rw[E8 hw];exact .inl (wp_load_row ty x E g J t cs (0,0) d hg H hd I h)
theorem GI:CN (Ej #[Ey Ew 0,Ey Ew 0,Ey Ew 0,Ey Ew 0,Ez false,Ex none 0 0,Ez false,Ex none 0 0,Ez false,Ex none 0 0,Ez false,Ex none 0 0,Ez false,Ex none 0 0,Ez false,Ex none 0 0,Ez false,Ex none 0 0,Ez false,Ex none 0 0]):=⟨_,rfl,rfl,by simp[Value.oneCell']⟩
theorem Vg {x y:Array Ef} (h:Value.agg x = Ej y):x=y:=by injection h
theorem QF.eQ (h:QF w cs k r):zU cs=true:=by
 obtain⟨hs,-,J,T⟩:=h;unfold zU;rw[List.all_eq_true];intro x hx;obtain⟨j,H,e⟩:=List.getElem_of_mem hx;have I:j<20:=by simpa[hs]using H
 have E:cs[j]? = some x:=by rw[<- e]; simp at H|-
 have key:∀i,i<4->∀m,m<4->cs[4+i*4+m]? = some x->(match x with | Ey .u32 _=>false | _=>true)=true:=fun i M m hm h=>by
  obtain⟨a1,a2,a3,a4,a5,a6,a7,a8,Z,Y,c2,X,-⟩:=T i M
  rcases(show m=0\/m=1\/m=2\/m=3 by omega)with rfl | rfl | rfl | rfl
  . rw[Nat.add_zero,Z]at h; injection h with h; subst h; rfl
  . rw[Y]at h; injection h with h; subst h; rfl
  . rw[c2]at h; injection h with h; subst h; rfl
  . rw[X]at h; injection h with h; subst h; rfl
 rcases Ep j 4 with g | g
 . rw[J j g]at E; injection E with E; subst E; rfl
 .
  refine key ((j-4) / 4) D5 ((j-4)%4) D5 ?_;rw[show 4+(j-4) / 4*4+(j-4)%4=j by omega]; exact E
theorem Ce {v:Ef} {l:PL} (k0 k1 k2 k3:Nat) (K:Nat->Nat) (hK:XA k0 k1 k2 k3=K) (w:Ee) (h:bP w v l) (hl:l.length<=1000) (hk:∀i,K i<l.length) (hp:∀i,kK (pt l (K i)).1 (pt l (K i)).2) (hw:0<jB l K) :
  Ed Ec 75 #[v,Ej #[Ey Ew k0,Ey Ew k1,Ey Ew k2,Ey Ew k3]] w fun e w'=>∃cs,e = Eh (Ej cs)/\QF w' cs (kA (yA l K)) (rA (yA l K))/\zf w w':=by
 have bh:∀i,i<4->(#[Ey Ew k0,Ey Ew k1,Ey Ew k2,Ey Ew k3]:Array Ef)[i]? = some (Ey Ew (K i:Nat)):=fun i hi=>by rw[<- hK]; rcases(show i=0\/i=1\/i=2\/i=3 by omega)with rfl | rfl | rfl | rfl<;>rfl
 have wi:=fun w' (M:zf w w')=>Vb k0 k1 k2 k3 K hK w' (h.ae M) hk hp;have dk:=fun(x:P4) w' (M:zf w w') (hn:(yQ l K x).n≠0)=>Hm (K:=K) x w' (h.ae M) hk hp hn
 have ce:∀x,cX (yQ l K x)/\∀i,i<4->0<=kA (yQ l K x) i/\kA (yQ l K x) i<=1000000:=fun x=>by
  refine⟨Jf _ _ _ _ (hp _) (hp _) (hp _) (hp _),fun i hi=> ?_⟩;have b:∀j,(0:Int)<=(K j:Nat)/\((K j:Nat):Int)<=1000000:=fun j=>by have:=hk j; omega
  rcases(show i=0\/i=1\/i=2\/i=3 by omega)with rfl | rfl | rfl | rfl
  . exact b x.1
  . exact b x.2.1
  . exact b x.2.2.1
  . exact b x.2.2.2
 have cg:=V9 l K hw;obtain⟨N,hN⟩:∃N,jB l K=N:=⟨_,rfl⟩;rw[hN]at wi cg hw;obtain⟨ao,cap,rfl⟩:=h.ak;have be:∀a,a<l.length->∃b o,ao=some ⟨b,o,none⟩/\b<w.heap.size/\w.cell? ⟨b,o+a*2,none⟩=some (Ey Ew (pt l a).1)/\w.cell? ⟨b,o+a*2+1,none⟩=some (Ey Ew (pt l a).2):=fun a ha=>h.at ha;have b9:=h.cells;obtain⟨len,bt⟩:∃n,l.length=n:=⟨_,rfl⟩;rw[bt]at be hk b9 wi dk|-;replace b9:len<=cap:=b9.2.1;clear h hK bt hN hl;obtain⟨b0,o0,rfl,aY,-,-⟩:=be _ (hk 0)
 have em:∀a,a<len->w.cell? ⟨b0,o0+a*2,none⟩=some (Ey Ew (pt l a).1)/\w.cell? ⟨b0,o0+a*2+1,none⟩=some (Ey Ew (pt l a).2):=fun a ha=>by
  obtain⟨b,o,e,-,h1,h2⟩:=be a ha
  injection e with e
  injection e with e1 e2
  subst e1 e2;exact⟨h1,h2⟩
 clear be
 go_enter Tryz.func75,Tryz.ntmps75
 have fe:=bh 0 D5;go_wp2_with fail
 refine(wi _ zh).mono ?_;rintro e w1 ⟨rfl,bl⟩;have B:Below w.heap.size w w1:=zT bl;have J:ai w1 w.heap.size 80 #[Ey Ew k0,Ey Ew k1,Ey Ew k2,Ey Ew k3]:=ai.au bl;have or:ai w1 (w.heap.size+1) 83 ZT:=ai.au bl;have zz:=B.size;have z0:=or.lt;clear wi bl fe;dsimp only;go_wp2_with fail
 obtain⟨g,hg⟩:∃g,w1.heap.size=g:=⟨_,rfl⟩;have dP:ai (w1.alloc (.cells ZT 83)) g 83 ZT:=ai.bO hg;rw[hg];have gn:w.heap.size+1<g:=D5
 clear hg z0
 go_loopw [7,8] (fun ff zz wr=>∃a:Nat,a<=4/\zz = Ey Ew a/\ai wr w.heap.size 80 #[Ey Ew k0,Ey Ew k1,Ey Ew k2,Ey Ew k3]/\ai wr (w.heap.size+1) 83 ZT/\Below w.heap.size w wr/\cK wr g ff (xj l K N a 0 0)) (fun _ zz _=>4-(intOf zz).toNat)
 case atStart=>exact⟨0,by omega,rfl,zw,zw,zh,by rw[Gc]; exact⟨rfl,dP⟩⟩
 case round=>
  obtain⟨a,ha,rfl,za,zr,zB,hF⟩:=hrel;clear J or B dP
  rcases Ep a 4 with a4 | a4
  .
   have gd:decide ((a:Int)<4)=true:=E_ D5;go_wp2_with fail
   go_loopw [7,9] (fun ff zz wr=>∃b:Nat,b<=4/\zz = Ey Ew b/\ai wr w.heap.size 80 #[Ey Ew k0,Ey Ew k1,Ey Ew k2,Ey Ew k3]/\ai wr (w.heap.size+1) 83 ZT/\Below w.heap.size w wr/\cK wr g ff (xj l K N a b 0)) (fun _ zz _=>4-(intOf zz).toNat)
   case atStart=>exact⟨0,by omega,rfl,za,zr,zB,hF⟩
   case round=>
    clear za zr zB hF;obtain⟨b,hb,rfl,J,or,B,hF⟩:=hrel
    rcases Ep b 4 with b4 | b4
    .
     have gt:decide ((b:Int)<4)=true:=E_ D5
     by_cases e1:a=b
     .
      have HU:=E6 (Wa l K N a4 b4 e1);have q1:((a:Int)==(b:Int))=true:=by simp[e1]
      clear e1;go_wp2_with fail
      refine aj.aI (fun D v W=>zf wr W) (aj.inl []) (aj.gv []) aj.aR (fun _=>aj.Any) (fun _ _=>False) (aj.pl []) (aj.pl [])
       D6 D6 D6 (aj.dI _) (fun _=>(Below.refl _ _).drew) (fun _ _ _ _ _ h=>h) (fun _ _ _ _ _ _ _ _ _ _ _ _ _=>aj.none_) (fun _ _ _ _ h=>h.elim) (fun a9 Q' E hQ=> ?_)
      repeat (first | refine aj.bM E _ ?_ | (refine aj.sk E ?_; refine aj.ei rfl ?_))
      refine aj.aF (fun D v w9 hd s9 T=> ?_);clear hd T;replace B:=zt B (Eo _) s9;replace J:=J.ae s9;replace or:=or.ae s9;replace hF:=hF.ae s9;clear s9;refine hQ _ _ ?_;clear hQ E Q' a9
      repeat' (first | go_values | go_skip | go_guarded | go_step | go_upon)
      go_wp2
      go_roundw
      case rel=>exact⟨b+1,by omega,by go_num,zw,zw,zh,by rw[<- HU.out]; exact hF⟩
      case measure=>simp[intOf]; omega
     have q1:((a:Int)==(b:Int))=false:=by simp; omega
     have ap:∀w',Ed Ec 114 #[Ej #[Ey Ew (pt l (K a)).1,Ey Ew (pt l (K a)).2],Ej #[Ey Ew (pt l (K b)).1,Ey Ew (pt l (K b)).2]] w' fun e w2=>e = Eh (Ey Ew (dst l K a b))/\zf w' w2:=fun w'=>by
      have:=Kg (pt l (K a)).1 (pt l (K a)).2 (pt l (K b)).1 (pt l (K b)).2 w' (hp a) (hp b)
      rwa[show XB ((pt l (K b)).1,(pt l (K b)).2) ((pt l (K a)).1,(pt l (K a)).2)=dst l K a b from Zo _ _]at this
     have hA:=bh a a4;have hB:=bh b b4;have d9:=hk a;have dx:=hk b;obtain⟨xa,ya⟩:=em _ d9;obtain⟨xb,yb⟩:=em _ dx;obtain⟨x1,dz⟩:∃z,(pt l (K a)).1=z:=⟨_,rfl⟩;obtain⟨y1,f8⟩:∃z,(pt l (K a)).2=z:=⟨_,rfl⟩;obtain⟨x2,ey⟩:∃z,(pt l (K b)).1=z:=⟨_,rfl⟩;obtain⟨y2,f7⟩:∃z,(pt l (K b)).2=z:=⟨_,rfl⟩;rw[dz]at xa ap;rw[f8]at ya ap;rw[ey]at xb ap;rw[f7]at yb ap;clear dz f8 ey f7;obtain⟨ia,cN⟩:∃z,K a=z:=⟨_,rfl⟩;obtain⟨ib,cn⟩:∃z,K b=z:=⟨_,rfl⟩;rw[cN]at xa ya hA d9;rw[cn]at xb yb hB dx;obtain⟨dd,bi⟩:∃z,dst l K a b=z:=⟨_,rfl⟩;rw[bi]at ap
     by_cases e0:dd=N
     .
      subst e0;go_wp2_with fail
      refine aj.aI (fun D v W=>zf wr W) (aj.inl [16]) (aj.gv [(16,fun z_=>z_ = Ey Ew dd)]) aj.aR (fun _=>aj.Any) (fun _ _=>False) (aj.pl []) (aj.pl [])
       D6 D6 D6 (aj.bj _ (by intro p hp; simp only[List.mem_cons,List.not_mem_nil,or_false]at hp; rcases hp with rfl; exact⟨_,rfl⟩)) (fun _=>(Below.refl _ _).drew) (fun _ _ _ _ _ h=>h) (fun _ _ _ _ _ _ _ _ _ _ _ _ _=>aj.none_) (fun _ _ _ _ h=>h.elim) (fun a9 Q' E hQ=> ?_)
      repeat refine aj.aD _ ?_
      refine aj.bM E 27 ?_;refine aj.bM E 28 ?_;refine aj.bM E 29 ?_;apply aj.RP rfl rfl (by rw[E]; rfl) 30 rfl rfl
      .
       intro D v W hc I T K' H;have c0:Er W ⟨w.heap.size,a,none⟩=some (Ey Ew ia):=(J.ae I).c _ hA;go_step;exact H.out
      . rfl
      refine aj.bM E 31 ?_;apply aj.RP rfl rfl (by rw[E]; rfl) 32 rfl rfl
      .
       intro D v W hc I T K' H;have c0:Er W ⟨b0,o0+ia*2,none⟩=_:=((zt B (Eo _) I).cell (p:=⟨b0,o0+ia*2,none⟩) aY).trans xa;have c1:Er W ⟨b0,o0+ia*2+1,none⟩=_:=((zt B (Eo _) I).cell (p:=⟨b0,o0+ia*2+1,none⟩) aY).trans ya;go_step;exact H.out
      . rfl
      refine aj.bM E 33 ?_;refine aj.bM E 34 ?_;refine aj.bM E 35 ?_;apply aj.RP rfl rfl (by rw[E]; rfl) 36 rfl rfl
      .
       intro D v W hc I T K' H;have c0:Er W ⟨w.heap.size,b,none⟩=some (Ey Ew ib):=(J.ae I).c _ hB;go_step;exact H.out
      . rfl
      refine aj.bM E 37 ?_;apply aj.RP rfl rfl (by rw[E]; rfl) 38 rfl rfl
      .
       intro D v W hc I T K' H;have c0:Er W ⟨b0,o0+ib*2,none⟩=_:=((zt B (Eo _) I).cell (p:=⟨b0,o0+ib*2,none⟩) aY).trans xb;have c1:Er W ⟨b0,o0+ib*2+1,none⟩=_:=((zt B (Eo _) I).cell (p:=⟨b0,o0+ib*2+1,none⟩) aY).trans yb;go_step;exact H.out
      . rfl
      refine aj.aC rfl (ZB rfl) (by rw[E]; rfl) (fun D v W hc I T K' H=> ?_) ?_
      .
       go_step;refine(ap _).mono ?_;rintro e W2 ⟨rfl,M⟩;exact H.out _ W2 aj.any (zt I (Eo _) M) aj.none_ rfl
      rintro _ rfl;refine aj.ei rfl ?_;refine aj.bM E 40 ?_;refine aj.bM E 41 ?_;refine aj.aD 42 ?_;refine aj.aF (fun D v w9 hd s9 T=> ?_);clear hd T;replace B:=zt B (Eo _) s9;replace J:=J.ae s9;replace or:=or.ae s9;replace hF:=hF.ae s9;clear s9;refine hQ _ _ ?_;clear hQ E Q' a9;clear ap xa ya xb yb
      repeat' (first | go_values | go_skip | go_guarded | go_step | go_upon)
      go_wp2_with fail
      go_loopw [7,10] (fun ff zz wr=>∃c:Nat,c<=4/\zz = Ey Ew c/\ai wr w.heap.size 80 #[Ey Ew k0,Ey Ew k1,Ey Ew k2,Ey Ew k3]/\ai wr (w.heap.size+1) 83 ZT/\Below w.heap.size w wr/\cK wr g ff (xj l K dd a b c)) (fun _ zz _=>4-(intOf zz).toNat)
      case atStart=>exact⟨0,by omega,rfl,zw,zw,zh,hF⟩
      case round=>
       clear J or B hF;obtain⟨c,hc,rfl,J,or,B,hF⟩:=hrel
       rcases Ep c 4 with c4 | c4
       .
        have g8:decide ((c:Int)<4)=true:=E_ D5
        by_cases e2:a=c
        .
         have HU:=E6 (X_ l K dd a4 b4 c4 (fun h=>h.2.1 e2));have q2:((c:Int)==(a:Int))=true:=by simp[e2]
         clear e2
         go_wp2
         go_roundw
         case rel=>exact⟨c+1,by omega,by go_num,zw,zw,zh,by rw[HU.out]; exact hF⟩
         case measure=>simp[intOf]; omega
        have q2:((c:Int)==(a:Int))=false:=by simp; omega
        by_cases e3:b=c
        .
         have HU:=E6 (X_ l K dd a4 b4 c4 (fun h=>h.2.2 e3));have q3:((c:Int)==(b:Int))=true:=by simp[e3]
         clear e3
         go_wp2
         go_roundw
         case rel=>exact⟨c+1,by omega,by go_num,zw,zw,zh,by rw[HU.out]; exact hF⟩
         case measure=>simp[intOf]; omega
        have q3:((c:Int)==(b:Int))=false:=by simp; omega
        obtain⟨d,hd⟩:∃d,6-a-b-c=d:=⟨_,rfl⟩;have g9:(6:Int)-a-b-c=(d:Int):=D5
        have d4:d<4:=D5
        have br:(yQ l K (a,b,c,d)).n=dd:=bi;have ah:∀w',zf w w'->Ed Ec 115 #[Ex (some ⟨b0,o0,none⟩) len cap,Je K (a,b,c,d)] w' fun e w2=>∃cs,e = Eh (Ej cs)/\QF w2 cs (kA (yQ l K (a,b,c,d))) (rA (yQ l K (a,b,c,d)))/\zf w' w2:=fun w' M=>dk (a,b,c,d) w' M (by rw[br]; omega);have cx:=ce (a,b,c,d);have hC:=bh c c4;have hD:=bh d d4;unfold Je at ah;dsimp only at ah;rw[cN,cn]at ah;have cy:=Ga l K dd a4 b4 c4 ⟨e1,e2,e3⟩ hd br;obtain⟨ic,f9⟩:∃z,K c=z:=⟨_,rfl⟩;obtain⟨eW,dc⟩:∃z,K d=z:=⟨_,rfl⟩;rw[f9]at hC ah;rw[dc]at hD ah;obtain⟨X,hX⟩:∃z,yQ l K (a,b,c,d)=z:=⟨_,rfl⟩;rw[hX]at br ah cx cy;have dl:=J.lt;have er:=or.lt;have dy:=B.size;have qa:=ah;clear ah hd bi hX f9 dc;have HX:=cy;clear cy
        cases ho:xj l K dd a b c with
        | none=>
         rw[ho]at hF HX;obtain⟨rfl,Y⟩:=hF;dsimp only at HX;replace HX:=E6 HX;obtain⟨CS,cU⟩:∃c,(#[Ey Ew 0,Ey Ew 0,Ey Ew 0,Ey Ew 0,Ez false,Ex none 0 0,Ez false,Ex none 0 0,Ez false,Ex none 0 0,Ez false,Ex none 0 0,Ez false,Ex none 0 0,Ez false,Ex none 0 0,Ez false,Ex none 0 0,Ez false,Ex none 0 0]:Array Ef)=c:=⟨_,rfl⟩;have eM:ai wr g 83 CS:=by rw[<- cU]; exact Y
         have fd:=E6 cU;clear Y cU;have Y:=eM;clear eM;have co:=Y.lt;go_wp2_with fail
         refine aj.aI (fun D v W=>Below w.heap.size w W/\av wr W/\wr.heap.size<=W.heap.size/\ai W w.heap.size 80 #[Ey Ew k0,Ey Ew k1,Ey Ew k2,Ey Ew k3]/\ai W (w.heap.size+1) 83 ZT/\ai W g 83 CS/\(D 20=true->∃p:Nat,v 20 = Ek (some ⟨p,0,none⟩)/\wr.heap.size<=p/\p<W.heap.size/\(D 21=false->ai W p 83 ZT)/\(D 21=true->D 19=true/\∃cs,v 19 = Ej cs/\ai W p 83 cs))) (aj.inl [19,20,21]) (aj.gv [(19,CN),(20,xI)]) (gw [(19,GQ (kA X) (rA X))]) (fun _=>av) (fun _ _=>False) (aj.pl [(21,[(19,some 74),(20,some 11)]),(22,[(19,some 74),(20,some 11)])]) (aj.pl [(19,[21]),(20,[21])])
          D6 D6 D6 (aj.bj _ (by intro p hp; simp only[List.mem_cons,List.not_mem_nil,or_false]at hp; rcases hp with rfl | rfl<;>first | exact⟨_,GI⟩ | exact⟨_,0,rfl⟩))
          (fun _=>⟨zh,zj,Eo _,zw,zw,zw,(fun h=>by cases h)⟩)
          (fun D v v' W hv I=>by obtain⟨j0,jk,jn,J,or,Y,ja⟩:=I; exact⟨j0,jk,jn,J,or,Y,fun hd=>by obtain⟨p,e1,e2,e3,e4,e5⟩:=ja hd; exact⟨p,(hv 20 hd)▸e1,e2,e3,e4,fun h=>by obtain⟨q1,cs,q2,q3⟩:=e5 h; exact⟨q1,cs,(hv 19 q1)▸q2,q3⟩⟩⟩)
          (fun _ _ _ _ _ _ _ _ _ _ _ hk hg=>qT _ (by intro p hp; simp only[List.mem_cons,List.not_mem_nil,or_false]at hp; rcases hp with rfl; exact GQ.af) hk hg) (fun _ _ _ _ h=>h.elim) (fun a9 Q' E hQ=> ?_)
         repeat refine aj.aD _ ?_
         apply aj.RP rfl rfl rfl 58 rfl rfl
         .
          intro D v W hc I T K' H;obtain⟨j0,jk,jn,J,or,Y,ja⟩:=I;have c0:Er W ⟨w.heap.size,a,none⟩=some (Ey Ew ia):=J.c _ hA;go_step;exact H.out
         . rfl
         repeat refine aj.aD _ ?_
         apply aj.RP rfl rfl rfl 61 rfl rfl
         .
          intro D v W hc I T K' H;obtain⟨j0,jk,jn,J,or,Y,ja⟩:=I;have c0:Er W ⟨w.heap.size,b,none⟩=some (Ey Ew ib):=J.c _ hB;go_step;exact H.out
         . rfl
         repeat refine aj.aD _ ?_
         apply aj.RP rfl rfl rfl 64 rfl rfl
         .
          intro D v W hc I T K' H;obtain⟨j0,jk,jn,J,or,Y,ja⟩:=I;have c0:Er W ⟨w.heap.size,c,none⟩=some (Ey Ew ic):=J.c _ hC;go_step;exact H.out
         . rfl
         repeat refine aj.aD _ ?_
         apply aj.RP rfl rfl rfl 72 rfl rfl
         .
          intro D v W hc I T K' H;obtain⟨j0,jk,jn,J,or,Y,ja⟩:=I;have c0:Er W ⟨w.heap.size,d,none⟩=some (Ey Ew eW):=J.c _ hD;go_step;exact H.out
         . rfl
         refine aj.aD 73 ?_;refine aj.aC rfl (ZB rfl) rfl (fun D v W hc I T K' H=> ?_) ?_
         .
          obtain⟨j0,jk,jn,J,or,Y,ja⟩:=I;have hst:D 21=false:=hc.2 21 D7;go_step;refine(qa _ j0).mono ?_;rintro e W2 ⟨cs,rfl,hq,M⟩;exact H.out _ W2 (av.ae M) ⟨X1 j0 M,jk.aJ M,KQ jn M,J.ae M,or.ae M,Y.ae M,fun hd=>by obtain⟨p,e1,e2,e3,e4,e5⟩:=ja hd; exact⟨p,e1,e2,Nat.lt_of_lt_of_le e3 M.size,fun h=>(e4 h).ae M,fun h=>Bool.noConfusion (hst.symm.trans h)⟩⟩ ⟨_,rfl,hq⟩ ⟨_,rfl,hq.1,hq.2.1⟩
         rintro _ ⟨cs,rfl,Z,aX⟩;refine aj.ei rfl ?_;refine aj.aC rfl (ZB rfl) rfl (fun D v W hc I T K' H=> ?_) ?_
         .
          obtain⟨j0,jk,jn,J,or,Y,ja⟩:=I;have hst:D 21=false:=hc.2 21 D7;go_step;have M:∀o:Obj,zf W (W.alloc o):=fun o=>(Below.refl _ _).alloc (Eo _) o;exact H.out _ _ (av.ae (M _)) ⟨X1 j0 (M _),jk.aJ (M _),KQ jn (M _),J.ae (M _),or.ae (M _),Y.ae (M _),fun _=>⟨W.heap.size,rfl,jn,by rw[World.size_alloc]; omega,fun _=>ai.new _ _ _,fun h=>Bool.noConfusion (hst.symm.trans h)⟩⟩ trivial ⟨_,rfl⟩
         rintro _ ⟨p,rfl⟩;refine aj.ei rfl ?_;refine aj.dL (fun D v W hc I T K' H=> ?_) (fun _ _=>aj.aB (b:=⟨#[_,_,_,_,_,_,_,_,_,_,_,_,_,_,_,_,_,_,_,_,_,_,_,_,_,_,_,_,_,_,_,_,_,_,_,_,_,_,_,_,_,_,_,_,_,_,_,_,_,_,_,_,_,_,_,_,_,_,_,_,_,_,_,_,_,_,_,_,_,_,_,_,_,_,_,_,_,_,_,_,_,_,_,_],_⟩) rfl ?_)
         .
          obtain⟨j0,jk,jn,J,or,Y,ja⟩:=I;have f:=T (19,some 74) (.head _) rfl;have f2:=T (20,some 11) (.tail _ (.head _)) rfl;obtain⟨p',e1,e2,e3,e4,-⟩:=ja f2.1;obtain rfl:p=p':=aj.bI ((show v 20 = Ek (some ⟨p,0,none⟩) from f2.2.1).symm.trans e1);have hb:=e4 hc.1;have r:=aZ.eL (cs:=cs) hb;have z1:=J.lt;have n1:∀q,q<wr.heap.size->q≠p:=fun q hq=>by omega
          refine wp_store_row 83 (.tmp 11) (.tmp 74) rfl p cs rfl rfl 83 #[Ey Ew 0,Ey Ew 0,Ey Ew 0,Ey Ew 0,Ez false,Ex none 0 0,Ez false,Ex none 0 0,Ez false,Ex none 0 0,Ez false,Ex none 0 0,Ez false,Ex none 0 0,Ez false,Ex none 0 0,Ez false,Ex none 0 0,Ez false,Ex none 0 0] hb (by rw[Z]; kernel_rfl) Z.symm aX ?_;exact H.out undef _ (r.af rfl) ⟨r.below j0 (Nat.le_trans dy e2),jk.trans (r.af rfl),Nat.le_trans jn (Nat.le_of_eq r.only.1.symm),r.bG J (n1 _ dl),r.bG or (n1 _ er),r.bG Y (n1 _ co),fun _=>⟨p,f2.2.1,e2,Nat.lt_of_lt_of_le e3 (Nat.le_of_eq r.only.1.symm),(fun h=>Bool.noConfusion h),fun _=>⟨f.1,cs,f.2.1,r.bz⟩⟩⟩ trivial trivial
         refine aj.aF (fun D v w9 hd I T=> ?_);obtain⟨B,jk,jn,J,or,Y,ja⟩:=I;have f:=T (19,some 74) (.head _) rfl;have f2:=T (20,some 11) (.tail _ (.head _)) rfl;obtain⟨p',e1,e2,e3,-,e5⟩:=ja f2.1;obtain rfl:p=p':=aj.bI ((show v 20 = Ek (some ⟨p,0,none⟩) from f2.2.1).symm.trans e1);obtain⟨-,cs',e6,op⟩:=e5 (hd 21 D7);obtain rfl:cs=cs':=Vg ((show v 19 = Ej cs from f.2.1).symm.trans e6);have hq:QF w9 cs (kA X) (rA X):=GQ.get f.2.2;have kp:=jk;have np:∀q,q<wr.heap.size->q≠p:=fun q hq=>by omega
         clear f f2 ja e1 e2 e5 e6 hd T jk;refine hQ _ _ ?_;clear hQ E Q' a9
         go_wp2_with (first | (refine zO rfl 83 (.tmp 11) rfl (p) rfl 83 cs _ op Tryz.underlying83 rfl (by rw[Z]; kernel_rfl) ?_) | (refine zF rfl 83 (.tmp 6) (.tmp 82) rfl g cs rfl rfl 83 CS Y (by rw[Z]; kernel_rfl) (by rw[<- fd.out,Z]; rfl) aX (fun w8 r8=> ?_)))
         go_roundw
         case rel=>exact⟨c+1,by omega,by go_num,r8.bG J D5,r8.bG or D5,r8.below B D5,by rw[HX.out]; exact⟨rfl,cs,r8.bz,hq.af (r8.af (by rw[<- fd.out]; rfl))⟩⟩
         case measure=>simp[intOf]; omega
        | some x=>
         rw[ho]at hF HX;obtain⟨rfl,CS,Y,bg⟩:=hF;dsimp only at HX;replace HX:=E6 HX;have co:=Y.lt;obtain⟨fl,px,ft⟩:=Gd l K dd ho;have ci:=ce px;rw[<- ft]at ci;have ed:=bg.1;have ek:zU CS=true:=QF.eQ bg;go_wp2_with fail
         refine aj.aI (fun D v W=>Below w.heap.size w W/\av wr W/\wr.heap.size<=W.heap.size/\ai W w.heap.size 80 #[Ey Ew k0,Ey Ew k1,Ey Ew k2,Ey Ew k3]/\ai W (w.heap.size+1) 83 ZT/\ai W g 83 CS/\(D 20=true->∃p:Nat,v 20 = Ek (some ⟨p,0,none⟩)/\wr.heap.size<=p/\p<W.heap.size/\(D 21=false->ai W p 83 ZT)/\(D 21=true->D 19=true/\∃cs,v 19 = Ej cs/\ai W p 83 cs))) (aj.inl [19,20,21]) (aj.gv [(19,CN),(20,xI)]) (gw [(19,GQ (kA X) (rA X))]) (fun _=>av) (fun _ _=>False) (aj.pl [(21,[(19,some 74),(20,some 11)]),(22,[(19,some 74),(20,some 11)])]) (aj.pl [(19,[21]),(20,[21])])
          D6 D6 D6 (aj.bj _ (by intro p hp; simp only[List.mem_cons,List.not_mem_nil,or_false]at hp; rcases hp with rfl | rfl<;>first | exact⟨_,GI⟩ | exact⟨_,0,rfl⟩))
          (fun _=>⟨zh,zj,Eo _,zw,zw,zw,(fun h=>by cases h)⟩)
          (fun D v v' W hv I=>by obtain⟨j0,jk,jn,J,or,Y,ja⟩:=I; exact⟨j0,jk,jn,J,or,Y,fun hd=>by obtain⟨p,e1,e2,e3,e4,e5⟩:=ja hd; exact⟨p,(hv 20 hd)▸e1,e2,e3,e4,fun h=>by obtain⟨q1,cs,q2,q3⟩:=e5 h; exact⟨q1,cs,(hv 19 q1)▸q2,q3⟩⟩⟩)
          (fun _ _ _ _ _ _ _ _ _ _ _ hk hg=>qT _ (by intro p hp; simp only[List.mem_cons,List.not_mem_nil,or_false]at hp; rcases hp with rfl; exact GQ.af) hk hg) (fun _ _ _ _ h=>h.elim) (fun a9 Q' E hQ=> ?_)
         repeat refine aj.aD _ ?_
         apply aj.RP rfl rfl rfl 58 rfl rfl
         .
          intro D v W hc I T K' H;obtain⟨j0,jk,jn,J,or,Y,ja⟩:=I;have c0:Er W ⟨w.heap.size,a,none⟩=some (Ey Ew ia):=J.c _ hA;go_step;exact H.out
         . rfl
         repeat refine aj.aD _ ?_
         apply aj.RP rfl rfl rfl 61 rfl rfl
         .
          intro D v W hc I T K' H;obtain⟨j0,jk,jn,J,or,Y,ja⟩:=I;have c0:Er W ⟨w.heap.size,b,none⟩=some (Ey Ew ib):=J.c _ hB;go_step;exact H.out
         . rfl
         repeat refine aj.aD _ ?_
         apply aj.RP rfl rfl rfl 64 rfl rfl
         .
          intro D v W hc I T K' H;obtain⟨j0,jk,jn,J,or,Y,ja⟩:=I;have c0:Er W ⟨w.heap.size,c,none⟩=some (Ey Ew ic):=J.c _ hC;go_step;exact H.out
         . rfl
         repeat refine aj.aD _ ?_
         apply aj.RP rfl rfl rfl 72 rfl rfl
         .
          intro D v W hc I T K' H;obtain⟨j0,jk,jn,J,or,Y,ja⟩:=I;have c0:Er W ⟨w.heap.size,d,none⟩=some (Ey Ew eW):=J.c _ hD;go_step;exact H.out
         . rfl
         refine aj.aD 73 ?_;refine aj.aC rfl (ZB rfl) rfl (fun D v W hc I T K' H=> ?_) ?_
         .
          obtain⟨j0,jk,jn,J,or,Y,ja⟩:=I;have hst:D 21=false:=hc.2 21 D7;go_step;refine(qa _ j0).mono ?_;rintro e W2 ⟨cs,rfl,hq,M⟩;exact H.out _ W2 (av.ae M) ⟨X1 j0 M,jk.aJ M,KQ jn M,J.ae M,or.ae M,Y.ae M,fun hd=>by obtain⟨p,e1,e2,e3,e4,e5⟩:=ja hd; exact⟨p,e1,e2,Nat.lt_of_lt_of_le e3 M.size,fun h=>(e4 h).ae M,fun h=>Bool.noConfusion (hst.symm.trans h)⟩⟩ ⟨_,rfl,hq⟩ ⟨_,rfl,hq.1,hq.2.1⟩
         rintro _ ⟨cs,rfl,Z,aX⟩;refine aj.ei rfl ?_;refine aj.aC rfl (ZB rfl) rfl (fun D v W hc I T K' H=> ?_) ?_
         .
          obtain⟨j0,jk,jn,J,or,Y,ja⟩:=I;have hst:D 21=false:=hc.2 21 D7;go_step;have M:∀o:Obj,zf W (W.alloc o):=fun o=>(Below.refl _ _).alloc (Eo _) o;exact H.out _ _ (av.ae (M _)) ⟨X1 j0 (M _),jk.aJ (M _),KQ jn (M _),J.ae (M _),or.ae (M _),Y.ae (M _),fun _=>⟨W.heap.size,rfl,jn,by rw[World.size_alloc]; omega,fun _=>ai.new _ _ _,fun h=>Bool.noConfusion (hst.symm.trans h)⟩⟩ trivial ⟨_,rfl⟩
         rintro _ ⟨p,rfl⟩;refine aj.ei rfl ?_;refine aj.dL (fun D v W hc I T K' H=> ?_) (fun _ _=>aj.aB (b:=⟨#[_,_,_,_,_,_,_,_,_,_,_,_,_,_,_,_,_,_,_,_,_,_,_,_,_,_,_,_,_,_,_,_,_,_,_,_,_,_,_,_,_,_,_,_,_,_,_,_,_,_,_,_,_,_,_,_,_,_,_,_,_,_,_,_,_,_,_,_,_,_,_,_,_,_,_,_,_,_,_,_,_,_,_,_],_⟩) rfl ?_)
         .
          obtain⟨j0,jk,jn,J,or,Y,ja⟩:=I;have f:=T (19,some 74) (.head _) rfl;have f2:=T (20,some 11) (.tail _ (.head _)) rfl;obtain⟨p',e1,e2,e3,e4,-⟩:=ja f2.1;obtain rfl:p=p':=aj.bI ((show v 20 = Ek (some ⟨p,0,none⟩) from f2.2.1).symm.trans e1);have hb:=e4 hc.1;have r:=aZ.eL (cs:=cs) hb;have z1:=J.lt;have n1:∀q,q<wr.heap.size->q≠p:=fun q hq=>by omega
          refine wp_store_row 83 (.tmp 11) (.tmp 74) rfl p cs rfl rfl 83 #[Ey Ew 0,Ey Ew 0,Ey Ew 0,Ey Ew 0,Ez false,Ex none 0 0,Ez false,Ex none 0 0,Ez false,Ex none 0 0,Ez false,Ex none 0 0,Ez false,Ex none 0 0,Ez false,Ex none 0 0,Ez false,Ex none 0 0,Ez false,Ex none 0 0] hb (by rw[Z]; kernel_rfl) Z.symm aX ?_;exact H.out undef _ (r.af rfl) ⟨r.below j0 (Nat.le_trans dy e2),jk.trans (r.af rfl),Nat.le_trans jn (Nat.le_of_eq r.only.1.symm),r.bG J (n1 _ dl),r.bG or (n1 _ er),r.bG Y (n1 _ co),fun _=>⟨p,f2.2.1,e2,Nat.lt_of_lt_of_le e3 (Nat.le_of_eq r.only.1.symm),(fun h=>Bool.noConfusion h),fun _=>⟨f.1,cs,f.2.1,r.bz⟩⟩⟩ trivial trivial
         refine aj.aF (fun D v w9 hd I T=> ?_);obtain⟨B,jk,jn,J,or,Y,ja⟩:=I;have f:=T (19,some 74) (.head _) rfl;have f2:=T (20,some 11) (.tail _ (.head _)) rfl;obtain⟨p',e1,e2,e3,-,e5⟩:=ja f2.1;obtain rfl:p=p':=aj.bI ((show v 20 = Ek (some ⟨p,0,none⟩) from f2.2.1).symm.trans e1);obtain⟨-,cs',e6,op⟩:=e5 (hd 21 D7);obtain rfl:cs=cs':=Vg ((show v 19 = Ej cs from f.2.1).symm.trans e6);have hq:QF w9 cs (kA X) (rA X):=GQ.get f.2.2;have kp:=jk;have np:∀q,q<wr.heap.size->q≠p:=fun q hq=>by omega
         clear f f2 ja e1 e2 e5 e6 hd T jk;refine hQ _ _ ?_;clear hQ E Q' a9;have bf:=Cd w9 hq (bg.af kp) cx.1 ci.1 D5 (by rw[br,fl]) cx.2 ci.2
         go_upto_region 16 with fail
         refine wp_region_lit ?_
         repeat' (first | (refine kW rfl 83 (.tmp 11) rfl (p) rfl 83 cs _ op Tryz.underlying83 rfl (by rw[Z]; kernel_rfl) ?_) | (refine kW rfl 83 (.tmp 6) rfl (g) rfl 83 CS _ Y Tryz.underlying83 rfl (by rw[ed]; kernel_rfl) ?_) | go_values | go_skip | go_guarded | go_step | go_upon)
         refine bf.mono ?_;rintro e w7 ⟨rfl,s7⟩;replace B:=zt B (Eo _) s7;replace J:=J.ae s7;replace or:=or.ae s7;replace Y:=Y.ae s7;replace op:=op.ae s7;replace hq:=hq.ae s7;replace bg:=(bg.af kp).ae s7;clear bf s7 kp
         cases hb:decide (jy X x<0)
         .
          dsimp only
          go_wp2
          go_roundw
          case rel=>exact⟨c+1,by omega,by go_num,zw,zw,zh,by rw[HX.out,E9 (of_decide_eq_false hb)]; exact⟨rfl,CS,Y,bg⟩⟩
          case measure=>simp[intOf]; omega
         .
          dsimp only
          go_wp2_with (first | (refine zO rfl 83 (.tmp 11) rfl (p) rfl 83 cs _ op Tryz.underlying83 rfl (by rw[Z]; kernel_rfl) ?_) | (refine zF rfl 83 (.tmp 6) (.tmp 82) rfl g cs rfl rfl 83 CS Y (by rw[Z]; kernel_rfl) (by rw[ed,Z]) aX (fun w8 r8=> ?_)))
          go_roundw
          case rel=>exact⟨c+1,by omega,by go_num,r8.bG J D5,r8.bG or D5,r8.below B D5,by rw[HX.out,E8 (of_decide_eq_true hb)]; exact⟨rfl,cs,r8.bz,hq.af (r8.af ek)⟩⟩
          case measure=>simp[intOf]; omega
       .
        obtain rfl:c=4:=D5
        have HU:=E6 (Vf l K dd a4 b4)
        go_wp2
        go_roundw
        case rel=>exact⟨b+1,by omega,by go_num,zw,zw,zh,by rw[<- HU.out]; exact hF⟩
        case measure=>simp[intOf]; omega
     .
      have HU:=E6 ((Ki l K N a4 b4 (by rw[bi]; exact e0) 4 D5).symm.trans (Vf l K N a4 b4));have qd:(dd != N)=true:=by simpa using e0
      clear bi cN cn;go_wp2_with fail
      refine aj.aI (fun D v W=>zf wr W) (aj.inl [16]) (aj.gv [(16,fun z_=>z_ = Ey Ew dd)]) aj.aR (fun _=>aj.Any) (fun _ _=>False) (aj.pl []) (aj.pl [])
       D6 D6 D6 (aj.bj _ (by intro p hp; simp only[List.mem_cons,List.not_mem_nil,or_false]at hp; rcases hp with rfl; exact⟨_,rfl⟩)) (fun _=>(Below.refl _ _).drew) (fun _ _ _ _ _ h=>h) (fun _ _ _ _ _ _ _ _ _ _ _ _ _=>aj.none_) (fun _ _ _ _ h=>h.elim) (fun a9 Q' E hQ=> ?_)
      repeat refine aj.aD _ ?_
      refine aj.bM E 27 ?_;refine aj.bM E 28 ?_;refine aj.bM E 29 ?_;apply aj.RP rfl rfl (by rw[E]; rfl) 30 rfl rfl
      .
       intro D v W hc I T K' H;have c0:Er W ⟨w.heap.size,a,none⟩=some (Ey Ew ia):=(J.ae I).c _ hA;go_step;exact H.out
      . rfl
      refine aj.bM E 31 ?_;apply aj.RP rfl rfl (by rw[E]; rfl) 32 rfl rfl
      .
       intro D v W hc I T K' H;have c0:Er W ⟨b0,o0+ia*2,none⟩=_:=((zt B (Eo _) I).cell (p:=⟨b0,o0+ia*2,none⟩) aY).trans xa;have c1:Er W ⟨b0,o0+ia*2+1,none⟩=_:=((zt B (Eo _) I).cell (p:=⟨b0,o0+ia*2+1,none⟩) aY).trans ya;go_step;exact H.out
      . rfl
      refine aj.bM E 33 ?_;refine aj.bM E 34 ?_;refine aj.bM E 35 ?_;apply aj.RP rfl rfl (by rw[E]; rfl) 36 rfl rfl
      .
       intro D v W hc I T K' H;have c0:Er W ⟨w.heap.size,b,none⟩=some (Ey Ew ib):=(J.ae I).c _ hB;go_step;exact H.out
      . rfl
      refine aj.bM E 37 ?_;apply aj.RP rfl rfl (by rw[E]; rfl) 38 rfl rfl
      .
       intro D v W hc I T K' H;have c0:Er W ⟨b0,o0+ib*2,none⟩=_:=((zt B (Eo _) I).cell (p:=⟨b0,o0+ib*2,none⟩) aY).trans xb;have c1:Er W ⟨b0,o0+ib*2+1,none⟩=_:=((zt B (Eo _) I).cell (p:=⟨b0,o0+ib*2+1,none⟩) aY).trans yb;go_step;exact H.out
      . rfl
      refine aj.aC rfl (ZB rfl) (by rw[E]; rfl) (fun D v W hc I T K' H=> ?_) ?_
      .
       go_step;refine(ap _).mono ?_;rintro e W2 ⟨rfl,M⟩;exact H.out _ W2 aj.any (zt I (Eo _) M) aj.none_ rfl
      rintro _ rfl;refine aj.ei rfl ?_;refine aj.bM E 40 ?_;refine aj.bM E 41 ?_;refine aj.aD 42 ?_;refine aj.aF (fun D v w9 hd s9 T=> ?_);clear hd T;replace B:=zt B (Eo _) s9;replace J:=J.ae s9;replace or:=or.ae s9;replace hF:=hF.ae s9;clear s9;refine hQ _ _ ?_;clear hQ E Q' a9
      repeat' (first | go_values | go_skip | go_guarded | go_step | go_upon)
      go_wp2
      go_roundw
      case rel=>exact⟨b+1,by omega,by go_num,zw,zw,zh,by rw[<- HU.out]; exact hF⟩
      case measure=>simp[intOf]; omega
    .
     obtain rfl:b=4:=D5
     have HU:=E6 (Gb l K N a4)
     go_wp2
     go_roundw
     case rel=>exact⟨a+1,by omega,by go_num,zw,zw,zh,by rw[<- HU.out]; exact hF⟩
     case measure=>simp[intOf]; omega
  .
   obtain rfl:a=4:=D5
   rw[cg]at hF;obtain⟨rfl,cs,Y,hq⟩:=hF;have Z:=hq.1;have aX:=hq.2.1;have hi:(Tryz.prog.info? 83).map (·.size)=some cs.size:=by rw[Z]; kernel_rfl
   go_wp2_with (first | (refine zO rfl 83 (.tmp 6) rfl (g) rfl 83 cs _ Y Tryz.underlying83 rfl hi ?_) | (refine zF rfl 83 (.tmp 4) (.tmp 83) rfl (w.heap.size+1) cs rfl rfl 83 ZT zr hi Z.symm aX (fun w8 r8=> ?_)))
   refine En (jj rfl _ _ (w.heap.size+1) rfl r8.bz Tryz.underlying83 rfl hi) rfl ?_;exact⟨cs,rfl,hq.af (r8.af rfl),r8.below zB D5⟩
open Go.RowKit
theorem QF.qn {w:Ee} {cs:Array Ef} {a:aV} (I:0<a.n) (h:QF w cs (kA a) (rA a)):QN w (Ej cs) a:=by
 obtain⟨J,-,E,H⟩:=h;obtain⟨l⟩:=cs;replace J:l.length=20:=by simpa using J
 match l,J with
 | [x0,x1,x2,x3,x4,x5,x6,x7,x8,x9,x10,x11,x12,x13,x14,x15,x16,x17,x18,x19],_=>
  obtain⟨a1,a2,a3,a4,a5,a6,a7,a8,p0,p1,p2,p3,X⟩:=H 0 D5;obtain⟨b1,b2,b3,b4,b5,b6,b7,b8,p4,p5,p6,p7,Y⟩:=H 1 D5;obtain⟨c1,c2,c3,c4,c5,c6,c7,c8,p8,p9,p10,p11,T⟩:=H 2 D5;obtain⟨d1,d2,Z,d4,d5,d6,d7,d8,p12,p13,p14,p15,M⟩:=H 3 D5;have k0:=E 0 D5;have k1:=E 1 D5;have k2:=E 2 D5;have k3:=E 3 D5;replace k0:some x0=some _:=k0
  injection k0 with k0
  replace k1:some x1=some _:=k1
  injection k1 with k1
  replace k2:some x2=some _:=k2
  injection k2 with k2
  replace k3:some x3=some _:=k3
  injection k3 with k3
  replace p0:some x4=some _:=p0
  injection p0 with p0
  replace p1:some x5=some _:=p1
  injection p1 with p1
  replace p2:some x6=some _:=p2
  injection p2 with p2
  replace p3:some x7=some _:=p3
  injection p3 with p3
  replace p4:some x8=some _:=p4
  injection p4 with p4
  replace p5:some x9=some _:=p5
  injection p5 with p5
  replace p6:some x10=some _:=p6
  injection p6 with p6
  replace p7:some x11=some _:=p7
  injection p7 with p7
  replace p8:some x12=some _:=p8
  injection p8 with p8
  replace p9:some x13=some _:=p9
  injection p9 with p9
  replace p10:some x14=some _:=p10
  injection p10 with p10
  replace p11:some x15=some _:=p11
  injection p11 with p11
  replace p12:some x16=some _:=p12
  injection p12 with p12
  replace p13:some x17=some _:=p13
  injection p13 with p13
  replace p14:some x18=some _:=p14
  injection p14 with p14
  replace p15:some x19=some _:=p15
  injection p15 with p15
  subst k0 k1 k2 k3 p0 p1 p2 p3 p4 p5 p6 p7 p8 p9 p10 p11 p12 p13 p14 p15;exact⟨_,_,_,_,_,_,_,_,_,_,_,_,_,_,_,_,rfl,X.dT I,Y.dT I,T.dT I,M.dT I⟩
end Go.Proofs.YtffmbepfbienaaaGreat
