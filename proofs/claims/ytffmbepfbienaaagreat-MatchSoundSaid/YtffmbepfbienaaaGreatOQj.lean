import Derived.Test.YtffmbepfbienaaaGreatORow
set_option linter.unusedVariables false
set_option linter.unusedSimpArgs false
set_option maxHeartbeats 6400000
set_option maxRecDepth 1000000
open Go.Value renaming slice->Ex,bool->Ez,int->Ey,agg->Ej,pointer->Ek,tuple->Ev
open Go.IntKind renaming i64->Ew
open Go.Ending renaming returned->Eh
open Go.Proofs.Tryz renaming prog->Ed
open Go renaming Calls->Ee,World->Ef,Value->Ei,bodyPost_ret->Eo
open Nat renaming le_refl->Ep,lt_or_ge->Er
open Go.World renaming cell?->Es
namespace Go.Proofs.YtffmbepfbienaaaGreat
open Go.RowKit
variable {a:aU} {l:PL} {v:Ei} {w w':Ef}
def cP (x n:Int):Int:=if n=0 then 0 else((x:Rat) / (n:Rat)).num
def cQ (x n:Int):Int:=if n=0 then 0 else(((x:Rat) / (n:Rat)).den:Int)
def QN (w:Ef) (v:Ei) (a:aU):Prop:=
 ∃c0 c1 c2 c3 c4 Z c6 Y c8 X J H T M E I,v = Ej #[Ey Ew a.k0,Ey Ew a.k1,Ey Ew a.k2,Ey Ew a.k3,c0,c1,c2,c3,c4,Z,c6,Y,c8,X,J,H,T,M,E,I]/\
  (az w (Ej #[c0,c1]) (cP a.a1 a.n)/\az w (Ej #[c2,c3]) (cQ a.a1 a.n))/\(az w (Ej #[c4,Z]) (cP a.a2 a.n)/\az w (Ej #[c6,Y]) (cQ a.a2 a.n))/\
  (az w (Ej #[c8,X]) (cP a.b1 a.n)/\az w (Ej #[J,H]) (cQ a.b1 a.n))/\(az w (Ej #[T,M]) (cP a.b2 a.n)/\az w (Ej #[E,I]) (cQ a.b2 a.n))
theorem QN.af (h:QN w v a) (k:av w w'):QN w' v a:=by
 obtain⟨c0,c1,Z,c3,c4,c5,c6,Y,c8,X,T,J,I,H,E,M,e,⟨h0,h1⟩,⟨h2,h3⟩,⟨h4,h5⟩,⟨h6,h7⟩⟩:=h;exact⟨c0,c1,Z,c3,c4,c5,c6,Y,c8,X,T,J,I,H,E,M,e,⟨h0.af k,h1.af k⟩,⟨h2.af k,h3.af k⟩,⟨h4.af k,h5.af k⟩,⟨h6.af k,h7.af k⟩⟩
theorem QN.ae (h:QN w v a) (k:zf w w'):QN w' v a:=h.af (av.ae k)
theorem az.dh (w:Ef):az w (Ej #[Ez false,Ex none 0 0]) 0:=⟨_,rfl,by
 have e:zp (zi 0) = []:=(zY (zD _)).2 (by unfold zi; omega)
 rw[e]; exact aA.nil w⟩
theorem QN.zero (w:Ef):QN w (Ej Zz) zH:=
 ⟨_,_,_,_,_,_,_,_,_,_,_,_,_,_,_,_,rfl,⟨az.dh w,az.dh w⟩,⟨az.dh w,az.dh w⟩,⟨az.dh w,az.dh w⟩,⟨az.dh w,az.dh w⟩⟩
theorem FR.dL {a b c d:Ei} {x n:Int} (Y:0<n) (h:FR w (Ej #[a,b,c,d]) ((x:Rat) / (n:Rat))):az w (Ej #[a,b]) (cP x n)/\az w (Ej #[c,d]) (cQ x n):=by
 obtain⟨a2,J,I,M,X,T,e,H,E,-⟩:=h.bU;unfold cP cQ;rw[E_ D6,E_ D6];simp only[Value.agg.injEq,Array.mk.injEq,List.cons.injEq,and_true]at e;obtain⟨rfl,rfl,rfl,rfl⟩:=e;exact⟨H,E⟩
theorem QD.qn (E:0<a.n) (h:QD w v a.k0 a.k1 a.k2 a.k3 ((a.a1:Rat) / (a.n:Rat)) ((a.a2:Rat) / (a.n:Rat)) ((a.b1:Rat) / (a.n:Rat)) ((a.b2:Rat) / (a.n:Rat))):QN w v a:=by
 obtain⟨c0,c1,c2,c3,c4,c5,c6,Z,c8,Y,X,M,J,I,H,T,e,h0,h1,h2,h3⟩:=h;exact⟨c0,c1,c2,c3,c4,c5,c6,Z,c8,Y,X,M,J,I,H,T,e,h0.dL E,h1.dL E,h2.dL E,h3.dL E⟩
def Dc (n:Nat) (k:Nat->Int) (i:Nat):Prop:=(0<=k i/\k i<n)/\∀m,m<i->k m≠k i
def Cp (n:Nat) (k:Nat->Int):Prop:=∀i,i<4->Dc n k i
def KK (k:Nat->Int):Nat->Nat:=Xq (k 0).toNat (k 1).toNat (k 2).toNat (k 3).toNat
open Classical in
noncomputable def codeS (l:PL) (k:Nat->Int):Int×aU:=
 if zP l≠0 then(zP l,zH)else if ¬Cp l.length k then(2,zH)else if jp l (KK k)=0 then(18,zH)else(0,yt l (KK k))
def eJ (w:Ef) (l:PL) (k:Nat->Int) (e:Ending) (w':Ef):Prop:=∃u,e = Eh (Ev #[u,Ey Ew (codeS l k).1])/\QN w' u (codeS l k).2/\zf w w'
theorem eJ.none {k:Nat->Int} {c:Int} (h:codeS l k=(c,zH)) (st:zf w w'):eJ w l k (Eh (Ev #[Ej Zz,Ey Ew c])) w':=
 ⟨_,by rw[h],by rw[h]; exact QN.zero w',st⟩
structure cW (a:aU):Prop where
 a1 : -35184372088832<=a.a1/\a.a1<=35184372088832
 a2 : -35184372088832<=a.a2/\a.a2<=35184372088832
 b1 : -35184372088832<=a.b1/\a.b1<=35184372088832
 b2 : -35184372088832<=a.b2/\a.b2<=35184372088832
 n:0<=a.n/\a.n<=35184372088832
theorem QY {p q r s:Int×Int} (k0 k1 k2 k3:Nat) (h0:ku p.1 p.2) (E:ku q.1 q.2) (I:ku r.1 r.2) (H:ku s.1 s.2):cW (UR k0 k1 k2 k3 p q r s):=by
 have a:=jB (xI I h0) (xI E h0);have b:=jB (xI H h0) (xI E h0);have c:=jB (xI E h0) (xI E h0);have d:=jm (q.1-p.1) (q.2-p.2);refine⟨?_,?_,?_,?_,?_⟩<;>(unfold UR ; try unfold kJ; try unfold kZ; try unfold Xr)<;>dsimp only
 . omega
 . omega
 . omega
 . omega
 . unfold j5 at *; omega
theorem YK {K:Nat->Nat} (E:∀i,ku (pt l (K i)).1 (pt l (K i)).2) (h:0<jp l K):cW (yt l K):=by
 obtain⟨H,-,-⟩:=qO l K h;obtain⟨p,-,e⟩:=List.mem_map.1 H;rw[<- e];exact QY _ _ _ _ (E _) (E _) (E _) (E _)
theorem QD.cells {k0 k1 k2 k3:Int} {Y r1 r2 r3:Rat} (h:QD w v k0 k1 k2 k3 Y r1 r2 r3):∃cs,v = Ej cs/\cs.size=20/\cs.all (·.oneCell')=true:=by
 obtain⟨c0,c1,c2,c3,c4,c5,c6,c7,c8,c9,ah,Z,X,T,M,a9,e,h0,h1,h2,h3⟩:=h;obtain⟨_,_,_,_,_,_,_,_,I⟩:=h0.ak;obtain⟨_,_,_,_,_,_,_,_,H⟩:=h1.ak;obtain⟨_,_,_,_,_,_,_,_,J⟩:=h2.ak;obtain⟨_,_,_,_,_,_,_,_,E⟩:=h3.ak;simp only[Value.agg.injEq,Array.mk.injEq,List.cons.injEq,and_true]at I H J E;obtain⟨rfl,rfl,rfl,rfl⟩:=I;obtain⟨rfl,rfl,rfl,rfl⟩:=H;obtain⟨rfl,rfl,rfl,rfl⟩:=J;obtain⟨rfl,rfl,rfl,rfl⟩:=E;exact⟨_,e,rfl,by simp[Value.oneCell']⟩
theorem H2 (a:aU) (w:Ef) (h:cW a) (H:0<a.n):Ee Ed 108 #[Ej (qS a)] w fun e w'=>∃cs,e = Eh (Ev #[Ej cs,Ey Ew 0])/\QN w' (Ej cs) a/\(cs.size=20/\cs.all (·.oneCell')=true)/\zf w w':=by
 refine Calls.mono (Co a.k0 a.k1 a.k2 a.k3 a.a1 a.a2 a.b1 a.b2 a.n w ⟨by have:=h.a1; omega,by have:=h.a1; omega⟩ ⟨by have:=h.a2; omega,by have:=h.a2; omega⟩ ⟨by have:=h.b1; omega,by have:=h.b1; omega⟩ ⟨by have:=h.b2; omega,by have:=h.b2; omega⟩ ⟨H,by have:=h.n; omega⟩) ?_;rintro e w' ⟨v,rfl,E,I⟩;obtain⟨cs,rfl,M,J⟩:=E.cells;exact⟨cs,rfl,E.qn H,⟨M,J⟩,I⟩
theorem Zc (h:zP l=0) (k:Nat) (E:k<l.length):ku (pt l k).1 (pt l k).2:=by
 unfold zP at h
 split at h
 . cases h
 .
  split at h
  .
   rename_i hq
   have H:pt l k∈l:=by
    unfold pt;simp only[List.getD,List.getElem?_eq_getElem E,Option.getD_some];exact List.getElem_mem E
   obtain⟨q1,q2,q3,q4⟩:=hq _ H;exact⟨q1,q2,q3,q4⟩
  . cases h
open Go.RowKit
theorem H3 (x y:Int) (w:Ef) (X : -9223372036854775808<=x) (M:x<=9223372036854775807) (J : -9223372036854775808<=y) (I:y<=9223372036854775807) (E:y≠0) :
  Ee Ed 69 #[Ey Ew x,Ey Ew y] w fun e w'=>∃v,e = Eh (Ev #[v,Ey Ew 0])/\FR w' v ((x:Rat) / (y:Rat))/\zf w w':=by
 refine(DF x y w X M J I E).mono ?_;rintro e w' ⟨v,rfl,T,H⟩;exact⟨v,rfl,FR.el E T,H⟩
theorem J4 (Y T X Z:Int) (w:Ef) (p0:ku Y T) (p1:ku X Z):Ee Ed 114 #[Ej #[Ey Ew Y,Ey Ew T],Ej #[Ey Ew X,Ey Ew Z]] w fun e w'=>e = Eh (Ey Ew (Xr (X,Z) (Y,T)))/\zf w w':=by
 have s:=xI p0 p1;have q:=jB s s;obtain⟨J,I⟩:∃z,Y-X=z:=⟨_,rfl⟩;obtain⟨M,H⟩:∃z,T-Z=z:=⟨_,rfl⟩;have E:Hid (Xr (X,Z) (Y,T)=J*J+M*M):=by show Xr _ _=_; unfold Xr j5; dsimp only; rw[I,H]
 rw[I,H]at q;unfold ku at p0 p1;obtain⟨m1,h1⟩:∃z,J*J=z:=⟨_,rfl⟩;obtain⟨m2,h2⟩:∃z,M*M=z:=⟨_,rfl⟩;rw[h1,h2]at q E;have w1:wrap64 (Y-X)=J:=by rw[<- I]; unfold wrap64; omega
 have w2:wrap64 (T-Z)=M:=by rw[<- H]; unfold wrap64; omega
 have w3:wrap64 (J*J)=m1:=by rw[h1]; unfold wrap64; omega
 have w4:wrap64 (M*M)=m2:=by rw[h2]; unfold wrap64; omega
 have w5:wrap64 (m1+m2)=m1+m2:=by unfold wrap64; omega
 obtain⟨m,hm⟩:∃z,m1+m2=z:=⟨_,rfl⟩;rw[hm]at w5 E;have w6:wrap64 (m1+m2)=m:=by rw[hm]; exact w5
 clear w5 hm h1 h2 q s p0 p1 I H
 go_enter Tryz.func114,Tryz.ntmps114
 go_wp2
 go_returns
 first | exact⟨yE E.out.symm,zh⟩ | exact⟨yE (w6.trans E.out.symm),zh⟩
theorem GW (E H I J x2 y2:Int) (w:Ef) (p0:ku E H) (p1:ku I J) (p2:ku x2 y2) (hn:Xr (E,H) (I,J)≠0):Ee Ed 148 #[Ej #[Ey Ew E,Ey Ew H],Ej #[Ey Ew I,Ey Ew J],Ej #[Ey Ew x2,Ey Ew y2]] w fun e w'=>
  ∃u v,e = Eh (Ev #[u,v])/\FR w' u ((kJ (I-E) (J-H) (x2-E) (y2-H):Int) / (Xr (E,H) (I,J):Int):Rat)/\FR w' v ((kZ (I-E) (J-H) (x2-E) (y2-H):Int) / (Xr (E,H) (I,J):Int):Rat)/\zf w w':=by
 have s1:=xI p1 p0;have s2:=xI p2 p0;have q1:=jB s2 s1;have q2:=jB s1 s1;have n0:=Yx (E,H) (I,J);have ap:=fun w'=>J4 E H I J w' p0 p1;rw[vX]at ap;have n1:Xr (E,H) (I,J)<=35184372088832:=by unfold Xr j5; dsimp only; omega
 have a1 : -35184372088832<=kJ (I-E) (J-H) (x2-E) (y2-H)/\kJ (I-E) (J-H) (x2-E) (y2-H)<=35184372088832:=by unfold kJ; omega
 have a2 : -35184372088832<=kZ (I-E) (J-H) (x2-E) (y2-H)/\kZ (I-E) (J-H) (x2-E) (y2-H)<=35184372088832:=by unfold kZ; omega
 obtain⟨A,hA⟩:∃z,kJ (I-E) (J-H) (x2-E) (y2-H)=z:=⟨_,rfl⟩;obtain⟨B,hB⟩:∃z,kZ (I-E) (J-H) (x2-E) (y2-H)=z:=⟨_,rfl⟩;obtain⟨n,dl⟩:∃z,Xr (E,H) (I,J)=z:=⟨_,rfl⟩;rw[dl]at ap n0 n1 hn|-;rw[hA]at a1|-;rw[hB]at a2|-;unfold ku at p0 p1 p2;have em:=fun w'=>H3 A n w' D6 D6 D6 D6 hn;have dt:=fun w'=>H3 B n w' D6 D6 D6 D6 hn;obtain⟨ux,cZ⟩:∃z,I-E=z:=⟨_,rfl⟩;obtain⟨uy,d9⟩:∃z,J-H=z:=⟨_,rfl⟩;obtain⟨vx,cN⟩:∃z,x2-E=z:=⟨_,rfl⟩;obtain⟨vy,dc⟩:∃z,y2-H=z:=⟨_,rfl⟩;have w1:wrap64 (I-E)=ux:=by rw[<- cZ]; unfold wrap64; omega
 have w2:wrap64 (J-H)=uy:=by rw[<- d9]; unfold wrap64; omega
 have w3:wrap64 (x2-E)=vx:=by rw[<- cN]; unfold wrap64; omega
 have w4:wrap64 (y2-H)=vy:=by rw[<- dc]; unfold wrap64; omega
 rw[cZ,d9,cN,dc]at q1 hA hB;unfold kJ at hA;unfold kZ at hB;obtain⟨m1,h1⟩:∃z,vx*ux=z:=⟨_,rfl⟩;obtain⟨m2,h2⟩:∃z,vy*uy=z:=⟨_,rfl⟩;obtain⟨m3,h3⟩:∃z,vy*ux=z:=⟨_,rfl⟩;obtain⟨m4,h4⟩:∃z,vx*uy=z:=⟨_,rfl⟩;rw[h1,h2]at hA q1;rw[h3,h4]at hB q1;have w5:wrap64 (vx*ux)=m1:=by rw[h1]; unfold wrap64; omega
 have w6:wrap64 (vy*uy)=m2:=by rw[h2]; unfold wrap64; omega
 have w7:wrap64 (vy*ux)=m3:=by rw[h3]; unfold wrap64; omega
 have w8:wrap64 (vx*uy)=m4:=by rw[h4]; unfold wrap64; omega
 have w9:wrap64 (m1+m2)=A:=by rw[hA]; unfold wrap64; omega
 have gi:wrap64 (m3-m4)=B:=by rw[hB]; unfold wrap64; omega
 clear a1 a2 n0 n1 q1 q2 s1 s2 p0 p1 p2 hn cZ d9 cN dc h1 h2 h3 h4 hA hB dl
 go_enter Tryz.func148,Tryz.ntmps148
 go_upto_region 1 with fail
 refine aj.c_ w w [.o w.heap.size 23 #[Ey Ew E,Ey Ew H],.o (w.heap.size+1) 23 #[Ey Ew I,Ey Ew J],.o (w.heap.size+1+1) 23 #[Ey Ew x2,Ey Ew y2],.o (w.heap.size+1+1+1) 28 #[Ez false,Ex none 0 0,Ez false,Ex none 0 0],.o (w.heap.size+1+1+1+1) 28 #[Ez false,Ex none 0 0,Ez false,Ex none 0 0]] [] [] [] [(24,[])] [] (by simp only[aV]; exact⟨zh,zw,zC,zC,zC,zC,zC,trivial⟩) (fun N0 dk br Q' M hQ=> ?_);clear dk;refine aj.aG 17 ?_;refine aj.aS 18 (fun _ _ _ h=>h.e.2.1.r1) ?_;refine aj.aG 19 ?_;refine aj.aS 20 (fun _ _ _ h=>h.e.1.r1) ?_
 repeat refine aj.aG _ ?_
 refine aj.aS 23 (fun _ _ _ h=>h.e.2.1.r1) ?_;refine aj.aG 24 ?_;refine aj.aS 25 (fun _ _ _ h=>h.e.1.r1) ?_
 repeat refine aj.aG _ ?_
 refine aj.aS 28 (fun _ _ _ h=>h.e.2.2.1.r1) ?_;refine aj.aG 29 ?_;refine aj.aS 30 (fun _ _ _ h=>h.e.1.r1) ?_
 repeat refine aj.aG _ ?_
 refine aj.aS 33 (fun _ _ _ h=>h.e.2.2.1.r1) ?_;refine aj.aG 34 ?_;refine aj.aS 35 (fun _ _ _ h=>h.e.1.r1) ?_
 repeat refine aj.aG _ ?_
 refine aj.sE (fun _ v' w1 B jk hl _ _ hf=> ?_);simp only[xZ,qk]at hl;obtain⟨oa,ob,oc,oq,or,-⟩:=hl;clear hf jk;refine hQ _ _ ?_;clear hQ M Q' br;obtain⟨fe,eM⟩:=oa.r1;have la:=oa.lt;obtain⟨dx,dy⟩:=ob.r1;have lb:=ob.lt;have lc:=oc.lt;have lq:=oq.lt;have lr:=or.lt;go_wp2_with fail
 refine(ap _).mono ?_;rintro e w2 ⟨rfl,st⟩;have sk:=bA w1 st;replace B:=bS B sk;replace oa:=oa.ae sk;replace ob:=ob.ae sk;replace oc:=oc.ae sk;replace oq:=oq.ae sk;replace or:=or.ae sk;clear st sk fe eM la dx dy lb lc lq lr;go_wp2_with fail
 refine(em _).mono ?_;rintro e w3 ⟨g9,rfl,Y,st⟩;have sk:=bA w2 st;replace B:=bS B sk;replace oa:=oa.ae sk;replace ob:=ob.ae sk;replace oc:=oc.ae sk;replace oq:=oq.ae sk;replace or:=or.ae sk;clear st sk;obtain⟨be,ah,b9,bh,a9,Z,bf,bg,rfl⟩:=Y.ak;have T:=E7 Y;clear Y;have fl:w.heap.size+1+1+1+1<w3.heap.size:=or.lt;have gj:=B.size;go_wp2_with fail
 refine(dt _).mono ?_;rintro e w4 ⟨ft,rfl,X,st⟩;have sk:=bA w3 st;replace B:=bS B sk;have of:ai w4 w3.heap.size 28 #[Ez be,Ex ah b9 bh,Ez a9,Ex Z bf bg]:=ai.au st;replace oa:=oa.ae sk;replace ob:=ob.ae sk;replace oc:=oc.ae sk;replace oq:=oq.ae sk;replace or:=or.ae sk;replace T:=E7 (T.out.ae sk);clear st sk;obtain⟨f9,f8,eS,dP⟩:=of.r3;have lf:=of.lt;obtain⟨cx,bt,cn,bl,cg,cy,ci,bi,rfl⟩:=X.ak;have ce:=E7 X;clear X;have g8:w3.heap.size<w4.heap.size:=of.lt;have gd:=B.size;go_wp2_with fail
 go_upto_region 5 with fail
 refine aj.c_ w w4 [.o w.heap.size 23 #[Ey Ew E,Ey Ew H],.o (w.heap.size+1) 23 #[Ey Ew I,Ey Ew J],.o (w.heap.size+1+1) 23 #[Ey Ew x2,Ey Ew y2],.s (w.heap.size+1+1+1) 28 #[Ez false,Ex none 0 0,Ez false,Ex none 0 0] 2 [] (aj.vx #[Ez be,Ex ah b9 bh,Ez a9,Ex Z bf bg]),.s (w.heap.size+1+1+1+1) 28 #[Ez false,Ex none 0 0,Ez false,Ex none 0 0] 3 [] (aj.vx #[Ez cx,Ex bt cn bl,Ez cg,Ex cy ci bi]),.o w3.heap.size 28 #[Ez be,Ex ah b9 bh,Ez a9,Ex Z bf bg],.o w4.heap.size 28 #[Ez cx,Ex bt cn bl,Ez cg,Ex cy ci bi]] [2,3] [] [] [(4,[])] [] (by simp only[aV]; exact⟨zh,zw,zC,zC,zC,zC,zC,zC,zC,trivial⟩) (fun N0 dk br Q' M hQ=> ?_);clear f9 f8 eS dP lf;clear dk;refine aj.aS 64 (fun _ _ _ h=>h.e.2.2.2.2.2.1.r3) ?_;refine aj.aS 65 (fun _ _ _ h=>h.e.2.2.2.2.2.2.1.r3) ?_;refine aj.sS M ?_;refine aj.sS M ?_;refine aj.sE (fun _ v' w5 B jk hl _ _ hf=> ?_);simp only[xZ,qk]at hl;obtain⟨oa,ob,oc,oq,or,of,og,-⟩:=hl;have oq:ai w5 (w.heap.size+1+1+1) 28 #[Ez be,Ex ah b9 bh,Ez a9,Ex Z bf bg]:=oq;have or:ai w5 (w.heap.size+1+1+1+1) 28 #[Ez cx,Ex bt cn bl,Ez cg,Ex cy ci bi]:=or;replace T:=E7 (T.out.af jk);replace ce:=E7 (ce.out.af jk);clear hf jk;refine hQ _ _ ?_;clear hQ M Q' br;have la:=oa.lt;have lb:=ob.lt;have lc:=oc.lt;obtain⟨eW,ek,ec,ey⟩:=oq.r3;have lq:=oq.lt;obtain⟨er,fd,f7,ed⟩:=or.r3;have lr:=or.lt;go_wp2_with fail
 refine Eo (by simp[results,Tryz.results148,go_sem,la,lb,lc,eW,ek,ec,ey,lq,er,fd,f7,ed,lr]; rfl) rfl ?_;exact⟨_,_,rfl,T.out.af zw,ce.out.af zw,zh⟩
open Go.RowKit
variable {l:PL}
theorem Wa {P:Program} (E:Array TypeId) (t:TypeId) (x y:Int) (w:Ef):(Builtin.max_ E t #[Ey Ew x,Ey Ew y]).run P w = .ok (Ey Ew (max x y)) w:=by
 rw[<- v9]
 by_cases h1:x<y<;>simp[Builtin.max_,Builtin.max2,go_sem,h1]
def V6 (l:PL) (K:Nat->Nat) (i:Nat) (b:Int):Nat->Int
 | 0=>b
 | k+1=>max (V6 l K i b k) (dst l K i k)
def J6 (l:PL) (K:Nat->Nat):Nat->Int
 | 0=>0
 | i+1=>V6 l K i (J6 l K i) i
theorem Wb (l:PL) (K:Nat->Nat):J6 l K 4=jp l K:=rfl
theorem bT.at {w:Ef} {ao:Option Addr} {len cap:Nat} (h:bT w (Ex ao len cap) l) {a:Nat} (E:a<l.length):∃b o,ao=some ⟨b,o,none⟩/\b<w.heap.size/\w.cell? ⟨b,o+a*2,none⟩=some (Ey Ew (pt l a).1)/\w.cell? ⟨b,o+a*2+1,none⟩=some (Ey Ew (pt l a).2):=by
 obtain⟨e,-,I⟩:=h.cells;obtain⟨b,o,J,H,hc⟩:=I D6;exact⟨b,o,J,H,(hc a E).1,(hc a E).2⟩
theorem K8 {v:Ei} (k0 k1 k2 k3:Nat) (K:Nat->Nat) (hK:Xq k0 k1 k2 k3=K) (w:Ef) (h:bT w v l) (hk:∀i,K i<l.length) (hp:∀i,ku (pt l (K i)).1 (pt l (K i)).2) :
  Ee Ed 74 #[v,Ej #[Ey Ew k0,Ey Ew k1,Ey Ew k2,Ey Ew k3]] w fun e w'=>e = Eh (Ey Ew (jp l K))/\zf w w':=by
 have b9:∀i,i<4->(#[Ey Ew k0,Ey Ew k1,Ey Ew k2,Ey Ew k3]:Array Ei)[i]? = some (Ey Ew (K i:Nat)):=fun i hi=>by rw[<- hK]; rcases(show i=0\/i=1\/i=2\/i=3 by omega)with rfl | rfl | rfl | rfl<;>rfl
 obtain⟨ao,cap,rfl⟩:=h.ak;have H:∀a,a<l.length->∃b o,ao=some ⟨b,o,none⟩/\b<w.heap.size/\w.cell? ⟨b,o+a*2,none⟩=some (Ey Ew (pt l a).1)/\w.cell? ⟨b,o+a*2+1,none⟩=some (Ey Ew (pt l a).2):=fun a ha=>h.at ha;obtain⟨len,Z⟩:∃n,l.length=n:=⟨_,rfl⟩;have bf:len<=cap:=by have:=h.cells; omega
 rw[Z]at H hk|-;clear h hK Z;rw[<- Wb];obtain⟨T,o0,rfl,Y,-,-⟩:=H _ (hk 0)
 replace H:∀a,a<len->w.cell? ⟨T,o0+a*2,none⟩=some (Ey Ew (pt l a).1)/\w.cell? ⟨T,o0+a*2+1,none⟩=some (Ey Ew (pt l a).2):=fun a ha=>by
  obtain⟨b,o,e,-,h1,h2⟩:=H a ha
  injection e with e
  injection e with e1 e2
  subst e1 e2;exact⟨h1,h2⟩
 go_enter Tryz.func74,Tryz.ntmps74
 go_wp2_with fail
 go_loopw [5,6] (fun nn kk wr=>∃i:Nat,i<=4/\kk = Ey Ew i/\nn = Ey Ew (J6 l K i)/\ai wr w.heap.size 80 #[Ey Ew k0,Ey Ew k1,Ey Ew k2,Ey Ew k3]/\Below w.heap.size w wr) (fun _ kk _=>4-(intOf kk).toNat)
 case atStart=>exact⟨0,by omega,rfl,rfl,zC,zh⟩
 case round=>
  obtain⟨i,hi,rfl,rfl,I,B⟩:=hrel
  rcases Er i 4 with i4 | i4
  .
   have bi:decide ((i:Int)<4)=true:=E' D6;go_wp2_with fail
   go_loopw [5,7] (fun nn kk wr=>∃k:Nat,k<=i/\kk = Ey Ew k/\nn = Ey Ew (V6 l K i (J6 l K i) k)/\ai wr w.heap.size 80 #[Ey Ew k0,Ey Ew k1,Ey Ew k2,Ey Ew k3]/\Below w.heap.size w wr) (fun _ kk _=>i-(intOf kk).toNat)
   case atStart=>exact⟨0,by omega,rfl,rfl,zC,zh⟩
   case round=>
    obtain⟨k,bh,rfl,rfl,za,zB⟩:=hrel;clear I B;have I:=za;have B:=zB;clear za zB
    rcases Er k i with ki | ki
    .
     have bg:decide ((k:Int)<(i:Int))=true:=E' D6;have ap:=fun w'=>J4 (pt l (K i)).1 (pt l (K i)).2 (pt l (K k)).1 (pt l (K k)).2 w' (hp i) (hp k);have a9:Xr ((pt l (K k)).1,(pt l (K k)).2) ((pt l (K i)).1,(pt l (K i)).2)=dst l K i k:=vX _ _;rw[a9]at ap;have HN:Hid (V6 l K i (J6 l K i) (k+1)=max (V6 l K i (J6 l K i) k) (dst l K i k)):=rfl;obtain⟨d,hd⟩:∃z,dst l K i k=z:=⟨_,rfl⟩;obtain⟨n,hn⟩:∃z,V6 l K i (J6 l K i) k=z:=⟨_,rfl⟩;rw[hd]at ap HN;rw[hn]at HN|-;obtain⟨M,hM⟩:∃z,max n d=z:=⟨_,rfl⟩;rw[hM]at HN;have bl:∀w':Ef,(Builtin.max_ #[2,2] 2 #[Ey Ew n,Ey Ew d]).run Ed w' = .ok (Ey Ew M) w':=fun w'=>by rw[<- hM]; exact Wa _ _ _ _ w'
     have hA:=b9 i i4;have hB:=b9 k D6;have ha:=hk i;have hb:=hk k;obtain⟨xa,ya⟩:=H _ ha;obtain⟨xb,yb⟩:=H _ hb;generalize (pt l (K i)).1=x1 at *;generalize (pt l (K i)).2=y1 at *;generalize (pt l (K k)).1=x2 at *;generalize (pt l (K k)).2=y2 at *;generalize K i=a at *;generalize K k=c at *;clear hd hn hM a9;go_wp2_with fail
     refine aj.aJ (fun D v W=>Below w.heap.size w W/\ai W w.heap.size 80 #[Ey Ew k0,Ey Ew k1,Ey Ew k2,Ey Ew k3]) (aj.inl [13]) (aj.gv [(13,fun z_=>z_ = Ey Ew d)]) aj.aQ (fun _=>aj.Any) (fun _ _=>False) (aj.pl []) (aj.pl [])
      D7 D7 D7 (aj.dB _) (fun _=>⟨zh,zC⟩) (fun _ _ _ _ _ h=>h) (fun _ _ _ _ _ _ _ _ _ _ _ _ _=>aj.none_) (fun _ _ _ _ h=>h.elim) (fun ah Q' be hQ=> ?_)
     repeat refine aj.aG _ ?_
     apply aj.RP rfl rfl rfl 21 rfl rfl
     .
      intro D v W hc J hf K' E;obtain⟨X,I⟩:=J;have c0:Es W ⟨w.heap.size,i,none⟩=some (Ey Ew a):=I.c _ hA;go_step;exact E.out
     . rfl
     refine aj.aG 22 ?_;apply aj.RP rfl rfl rfl 23 rfl rfl
     .
      intro D v W hc J hf K' E;obtain⟨X,I⟩:=J;have c0:Es W ⟨T,o0+a*2,none⟩=_:=(X.cell (p:=⟨T,o0+a*2,none⟩) Y).trans xa;have c1:Es W ⟨T,o0+a*2+1,none⟩=_:=(X.cell (p:=⟨T,o0+a*2+1,none⟩) Y).trans ya;go_step;exact E.out
     . rfl
     repeat refine aj.aG _ ?_
     apply aj.RP rfl rfl rfl 27 rfl rfl
     .
      intro D v W hc J hf K' E;obtain⟨X,I⟩:=J;have c0:Es W ⟨w.heap.size,k,none⟩=some (Ey Ew c):=I.c _ hB;go_step;exact E.out
     . rfl
     refine aj.aG 28 ?_;apply aj.RP rfl rfl rfl 29 rfl rfl
     .
      intro D v W hc J hf K' E;obtain⟨X,I⟩:=J;have c0:Es W ⟨T,o0+c*2,none⟩=_:=(X.cell (p:=⟨T,o0+c*2,none⟩) Y).trans xb;have c1:Es W ⟨T,o0+c*2+1,none⟩=_:=(X.cell (p:=⟨T,o0+c*2+1,none⟩) Y).trans yb;go_step;exact E.out
     . rfl
     refine aj.aC rfl (ve rfl) rfl (fun D v W hc J hf K' E=> ?_) ?_
     .
      obtain⟨X,I⟩:=J;go_step;refine(ap _).mono ?_;rintro e W2 ⟨rfl,hs⟩;exact E.out _ W2 aj.any ⟨YX X hs,I.ae hs⟩ trivial rfl
     rintro _ rfl;refine aj.aB (b:=⟨#[_,_,_,_,_,_,_,_,_,_,_,_,_,_,_,_,_,_,_,_,_,_,_,_,_,_,_,_,_,_,_,_,_],_⟩) rfl ?_
     repeat refine aj.aG _ ?_
     refine aj.aE (fun D v w9 hd J hf=> ?_);obtain⟨B,I⟩:=J;clear hd hf;refine hQ _ _ ?_;clear hQ be Q' ah
     repeat' (first | go_values | go_skip | go_guarded | go_step | go_upon)
     go_roundw
     case rel=>exact⟨k+1,by omega,by go_num,by rw[HN.out],zC,zh⟩
     case measure=>simp[intOf]; omega
    .
     obtain rfl:k=i:=D6
     go_wp2
     go_roundw
     case rel=>exact⟨k+1,by omega,by go_num,rfl,zC,zh⟩
     case measure=>simp[intOf]; omega
  .
   obtain rfl:i=4:=D6
   go_wp2
   go_returns
   exact⟨rfl,zh⟩
open Go.RowKit
variable {CA cs:Array Ei} {e k:Nat->Int} {r:Nat->Rat} {w w':Ef}
def QF (w:Ef) (cs:Array Ei) (k:Nat->Int) (r:Nat->Rat):Prop:=cs.size=20/\cs.all (·.oneCell')=true/\(∀i,i<4->cs[i]? = some (Ey Ew (k i)))/\
 ∀i,i<4->∃a1 a2 I H E J T M,cs[4+i*4]? = some (Ez a1)/\cs[4+i*4+1]? = some (Ex a2 I H)/\cs[4+i*4+2]? = some (Ez E)/\cs[4+i*4+3]? = some (Ex J T M)/\FR w (Ej #[Ez a1,Ex a2 I H,Ez E,Ex J T M]) (r i)
theorem QF.af (h:QF w cs k r) (T:av w w'):QF w' cs k r:=by
 obtain⟨h1,Y,h3,h4⟩:=h;refine⟨h1,Y,h3,fun i Z=> ?_⟩;obtain⟨a1,a2,X,J,E,a6,a7,a8,H,c1,M,I,f⟩:=h4 i Z;exact⟨a1,a2,X,J,E,a6,a7,a8,H,c1,M,I,f.af T⟩
theorem QF.ae (h:QF w cs k r) (s:zf w w'):QF w' cs k r:=h.af (av.ae s)
theorem GX (w:Ef) (h:QF w CA k r) (s0:sz (r 0) 2) (s2:sz (r 2) 2) :
  Ee Ed 149 #[Ej CA] w fun e w'=>∃v,e = Eh v/\FR w' v (r 0+r 2)/\zf w w':=by
 obtain⟨-,-,-,hf⟩:=h;obtain⟨a1,a2,a3,a4,a5,a6,a7,a8,c4,Z,c6,T,fa⟩:=hf 0 D6;obtain⟨b1,b2,b3,b4,b5,b6,b7,b8,I,H,E,J,fb⟩:=hf 2 D6;replace c4:CA[4]? = _:=c4;replace Z:CA[5]? = _:=Z;replace c6:CA[6]? = _:=c6;replace T:CA[7]? = _:=T;replace I:CA[12]? = _:=I;replace H:CA[13]? = _:=H;replace E:CA[14]? = _:=E;replace J:CA[15]? = _:=J;have ad:=fun w' (M:zf w w')=>BU w' (fa.af (av.ae M)) (fb.af (av.ae M)) s0 s2 D6;clear hf fa fb s0 s2
 go_enter Tryz.func149,Tryz.ntmps149
 go_wp2_with fail
 refine(ad _ zh).mono ?_;rintro e w1 ⟨v,rfl,hv,M⟩;obtain⟨p1,p2,p3,p4,p5,p6,p7,p8,rfl⟩:=hv.ak;have B:=bA w M;have or:ai w1 (w.heap.size+1) 28 jN:=ai.au M;have zz:=B.size;clear M ad c4 Z c6 T I H E J;have lr:=or.lt;have fr:=or.fr;obtain⟨Y,a9,ah,X⟩:=or.r3;dsimp only;go_wp2_with fail
 refine Eo (by simp[results,Tryz.results149,go_sem,lr,fr,Y,a9,ah,X]; rfl) rfl ?_;exact⟨_,rfl,hv.af zw,zh⟩
theorem Wc {d:Nat->Int} (h:∀n,n<8->e (n+1)=jI (e n) (d n)) (n:Nat) (E:e n≠0) (m:Nat) (H:n<=m) (I:m<=8):e m=e n:=by
 induction m with
 | zero=>
      obtain rfl:n=0:=D6
      rfl
 | succ m ih=>
  rcases Er m n with g | g
  .
   obtain rfl:n=m+1:=D6
   rfl
  . rw[h m D6,ih g D6]; unfold jI; rw[E_ E]
theorem Gs {CB:Array Ei} {l:Nat->Int} {s:Nat->Rat} (w:Ef) (ha:QF w CA k r) (hb:QF w CB l s) (sr:∀i,i<4->sz (r i) 2) (ss:∀i,i<4->sz (s i) 2) (bt:sz (r 0+r 2) 9) (bh:sz (s 0+s 2) 9)
  (a9:∀i,i<4->0<=k i/\k i<=1000000) (bg:∀i,i<4->0<=l i/\l i<=1000000)
  (h0:e 0=z9 (r 0+r 2) (s 0+s 2)) (h1:∀i,i<4->e (i+1)=jI (e i) (z9 (r i) (s i))) (h2:∀i,i<4->e (4+i+1)=jI (e (4+i)) (k i-l i)) :
  Ee Ed 116 #[Ej CA,Ej CB] w fun x w'=>x = Eh (Ez (decide (e 8<0)))/\zf w w':=by
 have hst:∀n,e n≠0->∀m,n<=m->m<=8->e m=e n:=Wc (d:=fun n=>if n<4 then z9 (r n) (s n)else k (n-4)-l (n-4)) (fun n Z=>by
  by_cases g:n<4
  . rw[E9 g]; exact h1 n g
  .
   rw[E_ g];have:=h2 (n-4) D6
   rwa[show 4+(n-4)=n by omega]at this)
 have sa:=fun w' (H:zf w w')=>GX w' (ha.ae H) (sr 0 D6) (sr 2 D6);have sb:=fun w' (H:zf w w')=>GX w' (hb.ae H) (ss 0 D6) (ss 2 D6);obtain⟨c,hc⟩:∃z,e 0=z:=⟨_,rfl⟩;have cm:∀w' u v,FR w' u (r 0+r 2)->FR w' v (s 0+s 2)->Ee Ed 87 #[u,v] w' fun x w2=>x = Eh (Ev #[Ey Ew c,Ey Ew 0])/\zf w' w2:=fun w' u v f g=>by rw[<- hc,h0]; exact UV w' f g bt bh D6
 have cN:=ha.1;have cg:=hb.1;have ah:=ha.2.2.1;have bf:=hb.2.2.1;have cn:=E7 ha;have cZ:=E7 hb;clear ha hb h0;have HC:=E7 hc;clear hc;have ia:(Tryz.prog.info? 83).map (·.size)=some CA.size:=by rw[cN]; kernel_rfl
 have ib:(Tryz.prog.info? 83).map (·.size)=some CB.size:=by rw[cg]; kernel_rfl
 go_enter Tryz.func116,Tryz.ntmps116
 go_wp2_with fail
 refine aj.aJ (fun D v W=>Below w.heap.size w W/\av w W/\ai W w.heap.size 83 CA/\ai W (w.heap.size+1) 83 CB) (aj.inl [1,3,4]) (aj.gv [(1,xh),(3,xh),(4,fun z_=>z_ = Ev #[Ey Ew c,Ey Ew 0])]) (gw [(1,bV (r 0+r 2)),(3,bV (s 0+s 2))]) (fun _=>av) (fun _ _=>False) (aj.pl [(4,[(1,some 11),(3,some 13)]),(10,[(1,some 11),(3,some 13)])]) (aj.pl [])
  D7 D7 D7 (aj.dB _) (fun _=>⟨zh,zw,zC,zC⟩) (fun _ _ _ _ _ h=>h) (fun _ _ _ _ _ _ _ _ _ _ _ hk hg=>qN _ (by intro p hp; simp only[List.mem_cons,List.not_mem_nil,or_false]at hp; rcases hp with rfl | rfl<;>first | exact bV.af | exact cT.af | exact dD.af | exact cD.af) hk hg) (fun _ _ _ _ h=>h.elim) (fun T Q' Y hQ=> ?_)
 apply aj.RP rfl rfl rfl 10 rfl rfl
 .
  intro D v W hc M X K' E;obtain⟨j0,jk,I,J⟩:=M;exact wp_load_row 83 (.tmp 2) rfl w.heap.size rfl 83 CA (0,0) _ I Tryz.underlying83 rfl ia E.out
 . rfl
 refine aj.aC rfl (ve rfl) rfl (fun D v W hc M X K' E=> ?_) ?_
 .
  obtain⟨j0,jk,I,J⟩:=M;go_step;refine(sa _ j0).mono ?_;rintro e W2 ⟨v,rfl,hv,H⟩;exact E.out _ W2 (av.ae H) ⟨YX j0 H,jk.aI H,I.ae H,J.ae H⟩ hv hv.ak
 rintro _ ⟨u1,u2,u3,u4,u5,u6,u7,u8,rfl⟩;refine aj.aB (b:=⟨#[_,_,_,_,_,_,_,_,_,_,_,_,_,_,_,_,_,_,_,_,_,_,_,_,_,_,_,_,_,_,_,_,_,_,_,_,_,_,_,_,_,_,_,_,_,_,_,_,_,_,_,_,_,_,_,_],_⟩) rfl ?_;apply aj.RP rfl rfl rfl 12 rfl rfl
 .
  intro D v W hc M X K' E;obtain⟨j0,jk,I,J⟩:=M;exact wp_load_row 83 (.tmp 3) rfl (w.heap.size+1) rfl 83 CB (0,0) _ J Tryz.underlying83 rfl ib E.out
 . rfl
 refine aj.aC rfl (ve rfl) rfl (fun D v W hc M X K' E=> ?_) ?_
 .
  obtain⟨j0,jk,I,J⟩:=M;go_step;refine(sb _ j0).mono ?_;rintro e W2 ⟨v,rfl,hv,H⟩;exact E.out _ W2 (av.ae H) ⟨YX j0 H,jk.aI H,I.ae H,J.ae H⟩ hv hv.ak
 rintro _ ⟨v1,v2,v3,v4,v5,v6,v7,v8,rfl⟩;refine aj.aB (b:=⟨#[_,_,_,_,_,_,_,_,_,_,_,_,_,_,_,_,_,_,_,_,_,_,_,_,_,_,_,_,_,_,_,_,_,_,_,_,_,_,_,_,_,_,_,_,_,_,_,_,_,_,_,_,_,_,_,_],_⟩) rfl ?_;refine aj.aC rfl (ve rfl) rfl (fun D v W hc M X K' E=> ?_) ?_
 .
  obtain⟨j0,jk,I,J⟩:=M;have g1:=(X (1,some 11) (.head _) rfl).2.2;have g1:FR W (Ej #[Ez u1,Ex u2 u3 u4,Ez u5,Ex u6 u7 u8]) (r 0+r 2):=g1;have g3:=(X (3,some 13) (.tail _ (.head _)) rfl).2.2;have g3:FR W (Ej #[Ez v1,Ex v2 v3 v4,Ez v5,Ex v6 v7 v8]) (s 0+s 2):=g3;go_step;refine(cm _ _ _ g1 g3).mono ?_;rintro e W2 ⟨rfl,H⟩;exact E.out _ W2 (av.ae H) ⟨YX j0 H,jk.aI H,I.ae H,J.ae H⟩ trivial rfl
 rintro _ rfl;refine aj.aB (b:=⟨#[_,_,_,_,_,_,_,_,_,_,_,_,_,_,_,_,_,_,_,_,_,_,_,_,_,_,_,_,_,_,_,_,_,_,_,_,_,_,_,_,_,_,_,_,_,_,_,_,_,_,_,_,_,_,_,_],_⟩) rfl ?_
 repeat refine aj.aG _ ?_
 refine aj.aE (fun D v w9 hd M X=> ?_);obtain⟨B,jk,I,J⟩:=M;have g1:FR w9 (Ej #[Ez u1,Ex u2 u3 u4,Ez u5,Ex u6 u7 u8]) (r 0+r 2):=(X (1,some 11) (.head _) rfl).2.2;have g3:FR w9 (Ej #[Ez v1,Ex v2 v3 v4,Ez v5,Ex v6 v7 v8]) (s 0+s 2):=(X (3,some 13) (.tail _ (.head _)) rfl).2.2;clear hd X;refine hQ _ _ ?_;clear hQ Y Q' T;clear sa sb cm g1 g3 jk
 repeat' (first | go_values | go_skip | go_guarded | go_step | go_upon)
 go_wp2_with fail
 go_loopw [5,7] (fun cc kk wr=>∃i:Nat,i<=4/\kk = Ey Ew i/\cc = Ey Ew (e i)/\ai wr w.heap.size 83 CA/\ai wr (w.heap.size+1) 83 CB/\Below w.heap.size w wr) (fun _ kk _=>4-(intOf kk).toNat)
 case atStart=>exact⟨0,by omega,rfl,by rw[HC.out],zC,zC,zh⟩
 case round=>
  obtain⟨i,hi,rfl,rfl,za,zb,zB⟩:=hrel;clear I J B;have I:=za;have J:=zb;have B:=zB;clear za zb zB
  rcases Er i 4 with i4 | i4
  .
   have b9:decide ((i:Int)<4)=true:=E' D6;have Z:=h1 i i4;have H:=hst i;obtain⟨c,hc⟩:∃z,e i=z:=⟨_,rfl⟩;rw[hc]at Z H|-
   by_cases c0:c=0
   .
    subst c0;obtain⟨a1,a2,a3,a4,a5,a6,a7,a8,cx,dc,cy,ce,fa⟩:=cn.out.2.2.2 i i4;obtain⟨b1,b2,b3,b4,b5,b6,b7,b8,dk,bi,br,bl,fb⟩:=cZ.out.2.2.2 i i4;obtain⟨d,hd⟩:∃z,z9 (r i) (s i)=z:=⟨_,rfl⟩;rw[hd]at Z;have ci:∀w',zf w w'->Ee Ed 87 #[Ej #[Ez a1,Ex a2 a3 a4,Ez a5,Ex a6 a7 a8],Ej #[Ez b1,Ex b2 b3 b4,Ez b5,Ex b6 b7 b8]] w' fun x w2=>x = Eh (Ev #[Ey Ew d,Ey Ew 0])/\zf w' w2:=fun w' H=>by rw[<- hd]; exact UV w' (fa.af (av.ae H)) (fb.af (av.ae H)) (sr i i4) (ss i i4) D6
    have HN:Hid (e (i+1)=d):=by rw[show jI 0 d=d from rfl]at Z; exact Z
    clear Z H hd fa fb hc;go_wp2_with fail
    refine aj.aJ (fun D v W=>Below w.heap.size w W/\ai W w.heap.size 83 CA/\ai W (w.heap.size+1) 83 CB) (aj.inl [8]) (aj.gv [(8,fun z_=>z_ = Ev #[Ey Ew d,Ey Ew 0])]) aj.aQ (fun _=>aj.Any) (fun _ _=>False) (aj.pl []) (aj.pl [])
     D7 D7 D7 (aj.dB _) (fun _=>⟨zh,zC,zC⟩) (fun _ _ _ _ _ h=>h) (fun _ _ _ _ _ _ _ _ _ _ _ _ _=>aj.none_) (fun _ _ _ _ h=>h.elim) (fun T Q' Y hQ=> ?_)
    repeat refine aj.aG _ ?_
    apply aj.RP rfl rfl rfl 29 rfl rfl
    .
     intro D v W hc M X K' E;obtain⟨j0,I,J⟩:=M;have c0:Es W ⟨w.heap.size,4+i*4,none⟩=_:=I.c _ cx;have c1:Es W ⟨w.heap.size,4+i*4+1,none⟩=_:=I.c _ dc;have c2:Es W ⟨w.heap.size,4+i*4+2,none⟩=_:=I.c _ cy;have c3:Es W ⟨w.heap.size,4+i*4+3,none⟩=_:=I.c _ ce;go_step;exact E.out
    . rfl
    repeat refine aj.aG _ ?_
    apply aj.RP rfl rfl rfl 33 rfl rfl
    .
     intro D v W hc M X K' E;obtain⟨j0,I,J⟩:=M;have c0:Es W ⟨w.heap.size+1,4+i*4,none⟩=_:=J.c _ dk;have c1:Es W ⟨w.heap.size+1,4+i*4+1,none⟩=_:=J.c _ bi;have c2:Es W ⟨w.heap.size+1,4+i*4+2,none⟩=_:=J.c _ br;have c3:Es W ⟨w.heap.size+1,4+i*4+3,none⟩=_:=J.c _ bl;go_step;exact E.out
    . rfl
    refine aj.aC rfl (ve rfl) rfl (fun D v W hc M X K' E=> ?_) ?_
    .
     obtain⟨j0,I,J⟩:=M;go_step;refine(ci _ j0).mono ?_;rintro e W2 ⟨rfl,H⟩;exact E.out _ W2 aj.any ⟨YX j0 H,I.ae H,J.ae H⟩ trivial rfl
    rintro _ rfl;refine aj.aB (b:=⟨#[_,_,_,_,_,_,_,_,_,_,_,_,_,_,_,_,_,_,_,_,_,_,_,_,_,_,_,_,_,_,_,_,_,_,_,_,_,_,_,_,_,_,_,_,_,_,_,_,_,_,_,_,_,_,_,_],_⟩) rfl ?_
    repeat refine aj.aG _ ?_
    refine aj.aE (fun D v w9 hd M X=> ?_);obtain⟨B,I,J⟩:=M;clear hd X;refine hQ _ _ ?_;clear hQ Y Q' T
    repeat' (first | go_values | go_skip | go_guarded | go_step | go_upon)
    go_roundw
    case rel=>exact⟨i+1,by omega,by go_num,by rw[HN.out],zC,zC,zh⟩
    case measure=>simp[intOf]; omega
   .
    have be:(c==0)=false:=by simpa using c0
    have d9:Hid (e 4=c):=H c0 4 D6 D6;clear Z H hc hi;go_wp2_with fail
    go_loopw [5,8] (fun cc kk wr=>∃i:Nat,i<=4/\kk = Ey Ew i/\cc = Ey Ew (e (4+i))/\ai wr w.heap.size 83 CA/\ai wr (w.heap.size+1) 83 CB/\Below w.heap.size w wr) (fun _ kk _=>4-(intOf kk).toNat)
    case atStart=>exact⟨0,by omega,rfl,by rw[show 4+0=4 from rfl,d9.out],zC,zC,zh⟩
    case round=>
     obtain⟨i,hi,rfl,rfl,za,zb,zB⟩:=hrel;clear I J B;have I:=za;have J:=zb;have B:=zB;clear za zb zB
     rcases Er i 4 with i4 | i4
     .
      have b9:decide ((i:Int)<4)=true:=E' D6;have Z:=h2 i i4;have H:=hst (4+i);obtain⟨c,hc⟩:∃z,e (4+i)=z:=⟨_,rfl⟩;rw[hc]at Z H|-
      by_cases c0:c=0
      .
       subst c0;have ha:=ah i i4;have hb:=bf i i4;have ba:=a9 i i4;have bb:=bg i i4;obtain⟨x,hx⟩:∃z,k i=z:=⟨_,rfl⟩;obtain⟨y,hy⟩:∃z,l i=z:=⟨_,rfl⟩;rw[hx]at ha ba Z;rw[hy]at hb bb Z;have HN:Hid (e (4+i+1)=x-y):=by rw[show jI 0 (x-y)=x-y from rfl]at Z; exact Z
       clear Z H hx hy hc;go_wp2_with fail
       refine aj.aJ (fun D v W=>Below w.heap.size w W/\ai W w.heap.size 83 CA/\ai W (w.heap.size+1) 83 CB) (aj.inl []) (aj.gv []) aj.aQ (fun _=>aj.Any) (fun _ _=>False) (aj.pl []) (aj.pl [])
        D7 D7 D7 (aj.dB _) (fun _=>⟨zh,zC,zC⟩) (fun _ _ _ _ _ h=>h) (fun _ _ _ _ _ _ _ _ _ _ _ _ _=>aj.none_) (fun _ _ _ _ h=>h.elim) (fun T Q' Y hQ=> ?_)
       repeat refine aj.aG _ ?_
       apply aj.RP rfl rfl rfl 48 rfl rfl
       .
        intro D v W hc M X K' E;obtain⟨j0,I,J⟩:=M;have c0:Es W ⟨w.heap.size,i,none⟩=some (Ey Ew x):=I.c _ ha;go_step;exact E.out
       . rfl
       repeat refine aj.aG _ ?_
       apply aj.RP rfl rfl rfl 52 rfl rfl
       .
        intro D v W hc M X K' E;obtain⟨j0,I,J⟩:=M;have c0:Es W ⟨w.heap.size+1,i,none⟩=some (Ey Ew y):=J.c _ hb;go_step;exact E.out
       . rfl
       repeat refine aj.aG _ ?_
       refine aj.aE (fun D v w9 hd M X=> ?_);obtain⟨B,I,J⟩:=M;clear hd X;refine hQ _ _ ?_;clear hQ Y Q' T
       repeat' (first | go_values | go_skip | go_guarded | go_step | go_upon)
       go_roundw
       case rel=>exact⟨i+1,by omega,by go_num,by rw[show 4+(i+1)=4+i+1 from by omega,HN.out],zC,zC,zh⟩
       case measure=>simp[intOf]; omega
      .
       have be:(c==0)=false:=by simpa using c0
       have HE:Hid (e 8=c):=H c0 8 D6 D6;clear Z H hc
       go_wp2
       go_returns
       exact⟨YW (by rw[HE.out]),zh⟩
     .
      obtain rfl:i=4:=D6
      rw[show ((4:Nat):Int)=4 from rfl]
      go_wp2
      go_returns
      exact⟨rfl,zh⟩
  .
   obtain rfl:i=4:=D6
   rw[show ((4:Nat):Int)=4 from rfl];go_wp2_with fail
   go_loopw [5,8] (fun cc kk wr=>∃i:Nat,i<=4/\kk = Ey Ew i/\cc = Ey Ew (e (4+i))/\ai wr w.heap.size 83 CA/\ai wr (w.heap.size+1) 83 CB/\Below w.heap.size w wr) (fun _ kk _=>4-(intOf kk).toNat)
   case atStart=>exact⟨0,by omega,rfl,rfl,zC,zC,zh⟩
   case round=>
    obtain⟨i,hi,rfl,rfl,za,zb,zB⟩:=hrel;clear I J B;have I:=za;have J:=zb;have B:=zB;clear za zb zB
    rcases Er i 4 with i4 | i4
    .
     have b9:decide ((i:Int)<4)=true:=E' D6;have Z:=h2 i i4;have H:=hst (4+i);obtain⟨c,hc⟩:∃z,e (4+i)=z:=⟨_,rfl⟩;rw[hc]at Z H|-
     by_cases c0:c=0
     .
      subst c0;have ha:=ah i i4;have hb:=bf i i4;have ba:=a9 i i4;have bb:=bg i i4;obtain⟨x,hx⟩:∃z,k i=z:=⟨_,rfl⟩;obtain⟨y,hy⟩:∃z,l i=z:=⟨_,rfl⟩;rw[hx]at ha ba Z;rw[hy]at hb bb Z;have HN:Hid (e (4+i+1)=x-y):=by rw[show jI 0 (x-y)=x-y from rfl]at Z; exact Z
      clear Z H hx hy hc;go_wp2_with fail
      refine aj.aJ (fun D v W=>Below w.heap.size w W/\ai W w.heap.size 83 CA/\ai W (w.heap.size+1) 83 CB) (aj.inl []) (aj.gv []) aj.aQ (fun _=>aj.Any) (fun _ _=>False) (aj.pl []) (aj.pl [])
       D7 D7 D7 (aj.dB _) (fun _=>⟨zh,zC,zC⟩) (fun _ _ _ _ _ h=>h) (fun _ _ _ _ _ _ _ _ _ _ _ _ _=>aj.none_) (fun _ _ _ _ h=>h.elim) (fun T Q' Y hQ=> ?_)
      repeat refine aj.aG _ ?_
      apply aj.RP rfl rfl rfl 48 rfl rfl
      .
       intro D v W hc M X K' E;obtain⟨j0,I,J⟩:=M;have c0:Es W ⟨w.heap.size,i,none⟩=some (Ey Ew x):=I.c _ ha;go_step;exact E.out
      . rfl
      repeat refine aj.aG _ ?_
      apply aj.RP rfl rfl rfl 52 rfl rfl
      .
       intro D v W hc M X K' E;obtain⟨j0,I,J⟩:=M;have c0:Es W ⟨w.heap.size+1,i,none⟩=some (Ey Ew y):=J.c _ hb;go_step;exact E.out
      . rfl
      repeat refine aj.aG _ ?_
      refine aj.aE (fun D v w9 hd M X=> ?_);obtain⟨B,I,J⟩:=M;clear hd X;refine hQ _ _ ?_;clear hQ Y Q' T
      repeat' (first | go_values | go_skip | go_guarded | go_step | go_upon)
      go_roundw
      case rel=>exact⟨i+1,by omega,by go_num,by rw[show 4+(i+1)=4+i+1 from by omega,HN.out],zC,zC,zh⟩
      case measure=>simp[intOf]; omega
     .
      have be:(c==0)=false:=by simpa using c0
      have HE:Hid (e 8=c):=H c0 8 D6 D6;clear Z H hc
      go_wp2
      go_returns
      exact⟨YW (by rw[HE.out]),zh⟩
    .
     obtain rfl:i=4:=D6
     rw[show ((4:Nat):Int)=4 from rfl]
     go_wp2
     go_returns
     exact⟨rfl,zh⟩
open Go.RowKit
variable {r s:Rat} {v:Ei}
def kA (a:aU) (i:Nat):Int:=match i with | 0=>a.k0 | 1=>a.k1 | 2=>a.k2 | _=>a.k3
def cA (a:aU) (i:Nat):Int:=match i with | 0=>a.a1 | 1=>a.a2 | 2=>a.b1 | _=>a.b2
def rA (a:aU) (i:Nat):Rat:=(cA a i:Rat) / (a.n:Rat)
def Cq (x:Ei):Prop:=∃u v,xh u/\xh v/\x = Ev #[u,v]
def d_ (r s:Rat) (x:Ei) (W:Ef):Prop:=∃u v,x = Ev #[u,v]/\FR W u r/\FR W v s
theorem d_.af (x:Ei) (W E:Ef) (k:av W E) (h:d_ r s x W):d_ r s x E:=by obtain⟨u,v,e,I,H⟩:=h; exact⟨u,v,e,I.af k,H.af k⟩
theorem d_.get {u:Ei} {W:Ef} (h:d_ r s (Ev #[u,v]) W):FR W u r/\FR W v s:=by
 obtain⟨I,J,e,H,E⟩:=h;simp only[Value.tuple.injEq,Array.mk.injEq,List.cons.injEq,and_true]at e;obtain⟨rfl,rfl⟩:=e;exact⟨H,E⟩
theorem Cr {ao:Option Addr} {cap len:Nat} (a b c d I o0:Nat) (xa ya xb yb xc yc xd yd:Int) (r1 r2 r3 r4:Rat) (w:Ef) (br:len<=cap) (e0:ao=some ⟨I,o0,none⟩) (H:I<w.heap.size) (ha:a<len) (hb:b<len) (hc:c<len) (hd:d<len)
  (ah:w.cell? ⟨I,o0+a*2,none⟩=some (Ey Ew xa)) (b9:w.cell? ⟨I,o0+a*2+1,none⟩=some (Ey Ew ya)) (be:w.cell? ⟨I,o0+b*2,none⟩=some (Ey Ew xb)) (bf:w.cell? ⟨I,o0+b*2+1,none⟩=some (Ey Ew yb))
  (bg:w.cell? ⟨I,o0+c*2,none⟩=some (Ey Ew xc)) (bi:w.cell? ⟨I,o0+c*2+1,none⟩=some (Ey Ew yc)) (bl:w.cell? ⟨I,o0+d*2,none⟩=some (Ey Ew xd)) (bh:w.cell? ⟨I,o0+d*2+1,none⟩=some (Ey Ew yd))
  (q1:∀w',Ee Ed 148 #[Ej #[Ey Ew xa,Ey Ew ya],Ej #[Ey Ew xb,Ey Ew yb],Ej #[Ey Ew xc,Ey Ew yc]] w' fun e J=>∃u v,e = Eh (Ev #[u,v])/\FR J u r1/\FR J v r2/\zf w' J)
  (q2:∀w',Ee Ed 148 #[Ej #[Ey Ew xa,Ey Ew ya],Ej #[Ey Ew xb,Ey Ew yb],Ej #[Ey Ew xd,Ey Ew yd]] w' fun e J=>∃u v,e = Eh (Ev #[u,v])/\FR J u r3/\FR J v r4/\zf w' J) :
  Ee Ed 115 #[Ex ao len cap,Ej #[Ey Ew a,Ey Ew b,Ey Ew c,Ey Ew d]] w fun e w'=>∃u1 u2 u3 u4 u5 u6 u7 u8 v1 T Z Y v5 v6 v7 X s1 s2 s3 s4 s5 s6 s7 s8 t1 t2 t3 t4 t5 t6 t7 t8,e = Eh (Ej #[Ey Ew a,Ey Ew b,Ey Ew c,Ey Ew d,Ez u1,Ex u2 u3 u4,Ez u5,Ex u6 u7 u8,Ez v1,Ex T Z Y,Ez v5,Ex v6 v7 X,Ez s1,Ex s2 s3 s4,Ez s5,Ex s6 s7 s8,Ez t1,Ex t2 t3 t4,Ez t5,Ex t6 t7 t8])/\(FR w' (Ej #[Ez u1,Ex u2 u3 u4,Ez u5,Ex u6 u7 u8]) r1/\FR w' (Ej #[Ez v1,Ex T Z Y,Ez v5,Ex v6 v7 X]) r2/\FR w' (Ej #[Ez s1,Ex s2 s3 s4,Ez s5,Ex s6 s7 s8]) r3/\FR w' (Ej #[Ez t1,Ex t2 t3 t4,Ez t5,Ex t6 t7 t8]) r4)/\zf w w':=by
 subst e0
 go_enter Tryz.func115,Tryz.ntmps115
 go_wp2_with (first | (refine yW rfl 83 #[(0,.tmp 6)] rfl #[Ey Ew a,Ey Ew b,Ey Ew c,Ey Ew d,Ez false,Ex none 0 0,Ez false,Ex none 0 0,Ez false,Ex none 0 0,Ez false,Ex none 0 0,Ez false,Ex none 0 0,Ez false,Ex none 0 0,Ez false,Ex none 0 0,Ez false,Ex none 0 0] D7 ?_) | (refine zL rfl 83 (.tmp 5) (.tmp 7) rfl (w.heap.size+1+1) #[Ey Ew a,Ey Ew b,Ey Ew c,Ey Ew d,Ez false,Ex none 0 0,Ez false,Ex none 0 0,Ez false,Ex none 0 0,Ez false,Ex none 0 0,Ez false,Ex none 0 0,Ez false,Ex none 0 0,Ez false,Ex none 0 0,Ez false,Ex none 0 0] rfl rfl 83 #[Ey Ew 0,Ey Ew 0,Ey Ew 0,Ey Ew 0,Ez false,Ex none 0 0,Ez false,Ex none 0 0,Ez false,Ex none 0 0,Ez false,Ex none 0 0,Ez false,Ex none 0 0,Ez false,Ex none 0 0,Ez false,Ex none 0 0,Ez false,Ex none 0 0] zC D7 rfl (by simp[Value.oneCell']) (fun w1 rr=> ?_)))
 have B:Below w.heap.size w w1:=rr.below zh D6;have oa:ai w1 w.heap.size 80 #[Ey Ew a,Ey Ew b,Ey Ew c,Ey Ew d]:=rr.bc zC D6;have or:ai w1 (w.heap.size+1) 83 Zz:=rr.bc zC D6;have oq:ai w1 (w.heap.size+1+1) 83 #[Ey Ew a,Ey Ew b,Ey Ew c,Ey Ew d,Ez false,Ex none 0 0,Ez false,Ex none 0 0,Ez false,Ex none 0 0,Ez false,Ex none 0 0,Ez false,Ex none 0 0,Ez false,Ex none 0 0,Ez false,Ex none 0 0,Ez false,Ex none 0 0]:=rr.bI;clear rr;refine aj.c_ w w1 [.o w.heap.size 80 #[Ey Ew a,Ey Ew b,Ey Ew c,Ey Ew d],.o (w.heap.size+1) 83 #[Ey Ew 0,Ey Ew 0,Ey Ew 0,Ey Ew 0,Ez false,Ex none 0 0,Ez false,Ex none 0 0,Ez false,Ex none 0 0,Ez false,Ex none 0 0,Ez false,Ex none 0 0,Ez false,Ex none 0 0,Ez false,Ex none 0 0,Ez false,Ex none 0 0],.m (w.heap.size+1+1) 83 #[Ey Ew a,Ey Ew b,Ey Ew c,Ey Ew d,Ez false,Ex none 0 0,Ez false,Ex none 0 0,Ez false,Ex none 0 0,Ez false,Ex none 0 0,Ez false,Ex none 0 0,Ez false,Ex none 0 0,Ez false,Ex none 0 0,Ez false,Ex none 0 0] 21 [15] (aj.fw 4 5 6 7 (aj.ct 0)) 24 [15] (aj.fw 8 9 10 11 (aj.ct 1))] [15,21,24] [(15,Cq)] [(15,d_ (r1) (r2))] [(21,[(15,some 24)]),(24,[(15,some 24)]),(25,[(15,some 24)])] [(15,[21,24]),(21,[24])] (by simp only[aV]; exact⟨zh,zw,zC,zC,⟨zC,rfl⟩,trivial⟩) (fun N0 a9 M Q' E hQ=> ?_) (hv:=by intro p hp; rw[List.mem_singleton.1 hp]; exact⟨_,_,_,⟨false,none,0,0,false,none,0,0,rfl⟩,⟨false,none,0,0,false,none,0,0,rfl⟩,rfl⟩) (hg:=by intro p hp; rw[List.mem_singleton.1 hp]; exact d_.af);clear a9 B oa or oq
 iterate 2 refine aj.RQ E _ ?_
 refine aj.b_ E 11 (fun _ _ _ _ h=>ai.b4 h.e.1) ?_;refine aj.RQ E 12 ?_;refine aj.b_ E 13 (fun _ _ _ _ h=>E8 ((h.b.cell (p:=⟨I,o0+a*2,none⟩) H).trans ah) ((h.b.cell (p:=⟨I,o0+a*2+1,none⟩) H).trans b9)) ?_
 iterate 2 refine aj.RQ E _ ?_
 refine aj.b_ E 16 (fun _ _ _ _ h=>ai.b4 h.e.1) ?_;refine aj.RQ E 17 ?_;refine aj.b_ E 18 (fun _ _ _ _ h=>E8 ((h.b.cell (p:=⟨I,o0+b*2,none⟩) H).trans be) ((h.b.cell (p:=⟨I,o0+b*2+1,none⟩) H).trans bf)) ?_
 iterate 2 refine aj.RQ E _ ?_
 refine aj.b_ E 21 (fun _ _ _ _ h=>ai.b4 h.e.1) ?_;refine aj.RQ E 22 ?_;refine aj.b_ E 23 (fun _ _ _ _ h=>E8 ((h.b.cell (p:=⟨I,o0+c*2,none⟩) H).trans bg) ((h.b.cell (p:=⟨I,o0+c*2+1,none⟩) H).trans bi)) ?_;refine aj.sC (m:=fun u=>u) (F:=fun W u=>d_ (r1) (r2) u W) E (fun D v W _ _=>(q1 W).mono (fun e J ⟨u,v,he,h1,h2,hs⟩=>⟨_,he,⟨u,v,rfl,h1,h2⟩,hs⟩)) ?_ (hv:=fun W u h=>by obtain⟨x,y,rfl,h1,h2⟩:=h; exact⟨x,y,h1.ak,h2.ak,rfl⟩);rintro _ ⟨_,_,⟨u1,u2,u3,u4,u5,u6,u7,u8,rfl⟩,⟨v1,T,Z,Y,v5,v6,v7,X,rfl⟩,rfl⟩;refine aj.aB (b:=⟨#[_,_,_,_,_,_,_,_,_,_,_,_,_,_,_,_,_,_,_,_,_,_,_,_,_,_,_,_,_,_,_,_,_,_,_,_,_,_,_,_,_,_,_,_,_,_,_,_,_,_,_,_,_,_,_],_⟩) rfl ?_
 iterate 5 refine aj.RQ E _ ?_
 refine aj.sM E ?_
 iterate 2 refine aj.RQ E _ ?_
 refine aj.fu E ?_;refine aj.sE (fun _ v J B jk hl _ _ hf=> ?_);simp only[xZ,qk]at hl;obtain⟨oa,or,oq,-⟩:=hl;replace oq:ai J (w.heap.size+1+1) 83 #[Ey Ew a,Ey Ew b,Ey Ew c,Ey Ew d,Ez u1,Ex u2 u3 u4,Ez u5,Ex u6 u7 u8,Ez v1,Ex T Z Y,Ez v5,Ex v6 v7 X,Ez false,Ex none 0 0,Ez false,Ex none 0 0,Ez false,Ex none 0 0,Ez false,Ex none 0 0]:=oq;obtain⟨Fu,Fv⟩:=d_.get (r:=r1) (s:=r2) (u:= Ej #[Ez u1,Ex u2 u3 u4,Ez u5,Ex u6 u7 u8]) (v:= Ej #[Ez v1,Ex T Z Y,Ez v5,Ex v6 v7 X]) (hf (15,some 24) (.head _) rfl).2.2;clear hf;refine hQ _ _ ?_;clear hQ E Q' M;clear q1 jk
 repeat' (first | go_values | go_skip | go_guarded | go_step | go_upon)
 refine aj.c_ w J [.o w.heap.size 80 #[Ey Ew a,Ey Ew b,Ey Ew c,Ey Ew d],.o (w.heap.size+1) 83 #[Ey Ew 0,Ey Ew 0,Ey Ew 0,Ey Ew 0,Ez false,Ex none 0 0,Ez false,Ex none 0 0,Ez false,Ex none 0 0,Ez false,Ex none 0 0,Ez false,Ex none 0 0,Ez false,Ex none 0 0,Ez false,Ex none 0 0,Ez false,Ex none 0 0],.m (w.heap.size+1+1) 83 #[Ey Ew a,Ey Ew b,Ey Ew c,Ey Ew d,Ez u1,Ex u2 u3 u4,Ez u5,Ex u6 u7 u8,Ez v1,Ex T Z Y,Ez v5,Ex v6 v7 X,Ez false,Ex none 0 0,Ez false,Ex none 0 0,Ez false,Ex none 0 0,Ez false,Ex none 0 0] 21 [15] (aj.fw 12 13 14 15 (aj.ct 0)) 24 [15] (aj.fw 16 17 18 19 (aj.ct 1))] [15,21,24] [(15,Cq)] [(15,d_ (r3) (r4))] [(21,[(15,some 47)]),(24,[(15,some 47)]),(25,[(15,some 47)])] [(15,[21,24]),(21,[24])] (by simp only[aV]; exact⟨zh,zw,zC,zC,⟨zC,rfl⟩,trivial⟩) (fun N0 a9 M Q' E hQ=> ?_) (hv:=by intro p hp; rw[List.mem_singleton.1 hp]; exact⟨_,_,_,⟨false,none,0,0,false,none,0,0,rfl⟩,⟨false,none,0,0,false,none,0,0,rfl⟩,rfl⟩) (hg:=by intro p hp; rw[List.mem_singleton.1 hp]; exact d_.af);clear a9 B oa or oq
 iterate 2 refine aj.RQ E _ ?_
 refine aj.b_ E 34 (fun _ _ _ _ h=>ai.b4 h.e.1) ?_;refine aj.RQ E 35 ?_;refine aj.b_ E 36 (fun _ _ _ _ h=>E8 ((h.b.cell (p:=⟨I,o0+a*2,none⟩) H).trans ah) ((h.b.cell (p:=⟨I,o0+a*2+1,none⟩) H).trans b9)) ?_
 iterate 2 refine aj.RQ E _ ?_
 refine aj.b_ E 39 (fun _ _ _ _ h=>ai.b4 h.e.1) ?_;refine aj.RQ E 40 ?_;refine aj.b_ E 41 (fun _ _ _ _ h=>E8 ((h.b.cell (p:=⟨I,o0+b*2,none⟩) H).trans be) ((h.b.cell (p:=⟨I,o0+b*2+1,none⟩) H).trans bf)) ?_
 iterate 2 refine aj.RQ E _ ?_
 refine aj.b_ E 44 (fun _ _ _ _ h=>ai.b4 h.e.1) ?_;refine aj.RQ E 45 ?_;refine aj.b_ E 46 (fun _ _ _ _ h=>E8 ((h.b.cell (p:=⟨I,o0+d*2,none⟩) H).trans bl) ((h.b.cell (p:=⟨I,o0+d*2+1,none⟩) H).trans bh)) ?_;refine aj.sC (m:=fun u=>u) (F:=fun W u=>d_ (r3) (r4) u W) E (fun D v W _ _=>(q2 W).mono (fun e J ⟨u,v,he,h1,h2,hs⟩=>⟨_,he,⟨u,v,rfl,h1,h2⟩,hs⟩)) ?_ (hv:=fun W u h=>by obtain⟨x,y,rfl,h1,h2⟩:=h; exact⟨x,y,h1.ak,h2.ak,rfl⟩);rintro _ ⟨_,_,⟨s1,s2,s3,s4,s5,s6,s7,s8,rfl⟩,⟨t1,t2,t3,t4,t5,t6,t7,t8,rfl⟩,rfl⟩;refine aj.aB (b:=⟨#[_,_,_,_,_,_,_,_,_,_,_,_,_,_,_,_,_,_,_,_,_,_,_,_,_,_,_,_,_,_,_,_,_,_,_,_,_,_,_,_,_,_,_,_,_,_,_,_,_,_,_,_,_,_,_],_⟩) rfl ?_
 iterate 5 refine aj.RQ E _ ?_
 refine aj.sM E ?_
 iterate 2 refine aj.RQ E _ ?_
 refine aj.fu E ?_;refine aj.sE (fun _ v w3 B jk hl _ _ hf=> ?_);simp only[xZ,qk]at hl;obtain⟨oa,or,oq,-⟩:=hl;replace oq:ai w3 (w.heap.size+1+1) 83 #[Ey Ew a,Ey Ew b,Ey Ew c,Ey Ew d,Ez u1,Ex u2 u3 u4,Ez u5,Ex u6 u7 u8,Ez v1,Ex T Z Y,Ez v5,Ex v6 v7 X,Ez s1,Ex s2 s3 s4,Ez s5,Ex s6 s7 s8,Ez t1,Ex t2 t3 t4,Ez t5,Ex t6 t7 t8]:=oq;obtain⟨Fs,Ft⟩:=d_.get (r:=r3) (s:=r4) (u:= Ej #[Ez s1,Ex s2 s3 s4,Ez s5,Ex s6 s7 s8]) (v:= Ej #[Ez t1,Ex t2 t3 t4,Ez t5,Ex t6 t7 t8]) (hf (15,some 47) (.head _) rfl).2.2;clear hf;refine hQ _ _ ?_;clear hQ E Q' M;replace Fu:=Fu.af jk;replace Fv:=Fv.af jk;clear q2 jk
 repeat' (first | go_values | go_skip | go_guarded | (refine yg rfl 83 (.tmp 5) rfl (w.heap.size+1+1) rfl 83 #[Ey Ew a,Ey Ew b,Ey Ew c,Ey Ew d,Ez u1,Ex u2 u3 u4,Ez u5,Ex u6 u7 u8,Ez v1,Ex T Z Y,Ez v5,Ex v6 v7 X,Ez s1,Ex s2 s3 s4,Ez s5,Ex s6 s7 s8,Ez t1,Ex t2 t3 t4,Ez t5,Ex t6 t7 t8] _ oq Tryz.underlying83 rfl D7 ?_) | (refine zL rfl 83 (.tmp 4) (.tmp 54) rfl (w.heap.size+1) #[Ey Ew a,Ey Ew b,Ey Ew c,Ey Ew d,Ez u1,Ex u2 u3 u4,Ez u5,Ex u6 u7 u8,Ez v1,Ex T Z Y,Ez v5,Ex v6 v7 X,Ez s1,Ex s2 s3 s4,Ez s5,Ex s6 s7 s8,Ez t1,Ex t2 t3 t4,Ez t5,Ex t6 t7 t8] rfl rfl 83 #[Ey Ew 0,Ey Ew 0,Ey Ew 0,Ey Ew 0,Ez false,Ex none 0 0,Ez false,Ex none 0 0,Ez false,Ex none 0 0,Ez false,Ex none 0 0,Ez false,Ex none 0 0,Ez false,Ex none 0 0,Ez false,Ex none 0 0,Ez false,Ex none 0 0] or D7 rfl (by simp[Value.oneCell']) (fun w4 r4=> ?_)) | go_step | go_upon)
 refine Eo (jW rfl _ _ (w.heap.size+1) rfl r4.bI Tryz.underlying83 rfl D7) rfl ?_;have kp:=r4.af rfl;exact⟨_,_,_,_,_,_,_,_,_,_,_,_,_,_,_,_,_,_,_,_,_,_,_,_,_,_,_,_,_,_,_,_,rfl,⟨Fu.af kp,Fv.af kp,Fs.af kp,Ft.af kp⟩,r4.below B D6⟩
theorem QF.gg {w:Ef} {a0 a1 a2 T:Int} {u1 u5:Bool} {u2 u6:Option Addr} {u3 u4 u7 u8:Nat} {Z v5:Bool} {I v6:Option Addr} {X v4 v7 J:Nat} {s1 s5:Bool} {s2 s6:Option Addr} {s3 s4 s7 s8:Nat} {t1 H:Bool} {t2 Y:Option Addr} {t3 M t7 E:Nat} {k:Nat->Int} {r:Nat->Rat} (hk:k 0=a0/\k 1=a1/\k 2=a2/\k 3=T) (h0:FR w (Ej #[Ez u1,Ex u2 u3 u4,Ez u5,Ex u6 u7 u8]) (r 0)) (h1:FR w (Ej #[Ez Z,Ex I X v4,Ez v5,Ex v6 v7 J]) (r 1)) (h2:FR w (Ej #[Ez s1,Ex s2 s3 s4,Ez s5,Ex s6 s7 s8]) (r 2)) (h3:FR w (Ej #[Ez t1,Ex t2 t3 M,Ez H,Ex Y t7 E]) (r 3)) :
  QF w #[Ey Ew a0,Ey Ew a1,Ey Ew a2,Ey Ew T,Ez u1,Ex u2 u3 u4,Ez u5,Ex u6 u7 u8,Ez Z,Ex I X v4,Ez v5,Ex v6 v7 J,Ez s1,Ex s2 s3 s4,Ez s5,Ex s6 s7 s8,Ez t1,Ex t2 t3 M,Ez H,Ex Y t7 E] k r:=by
 obtain⟨k0,k1,k2,k3⟩:=hk;refine⟨rfl,by simp[Value.oneCell'],fun i hi=> ?_,fun i hi=> ?_⟩
 .
  rcases(show i=0\/i=1\/i=2\/i=3 by omega)with rfl | rfl | rfl | rfl
  . rw[k0]; rfl
  . rw[k1]; rfl
  . rw[k2]; rfl
  . rw[k3]; rfl
 .
  rcases(show i=0\/i=1\/i=2\/i=3 by omega)with rfl | rfl | rfl | rfl
  . exact⟨_,_,_,_,_,_,_,_,rfl,rfl,rfl,rfl,h0⟩
  . exact⟨_,_,_,_,_,_,_,_,rfl,rfl,rfl,rfl,h1⟩
  . exact⟨_,_,_,_,_,_,_,_,rfl,rfl,rfl,rfl,h2⟩
  . exact⟨_,_,_,_,_,_,_,_,rfl,rfl,rfl,rfl,h3⟩
theorem H4 {l:PL} {K:Nat->Nat} (x:P4) (w:Ef) (h:bT w v l) (E:∀i,K i<l.length) (H:∀i,ku (pt l (K i)).1 (pt l (K i)).2) (Y:(yL l K x).n≠0) :
  Ee Ed 115 #[v,QW K x] w fun e w'=>∃cs,e = Eh (Ej cs)/\QF w' cs (kA (yL l K x)) (rA (yL l K x))/\zf w w':=by
 obtain⟨ao,cap,rfl⟩:=h.ak;have hc:=h.cells;obtain⟨I,o0,X,T,J,M⟩:=h.at (E x.1)
 have sm:∀a,a<l.length->w.cell? ⟨I,o0+a*2,none⟩=some (Ey Ew (pt l a).1)/\w.cell? ⟨I,o0+a*2+1,none⟩=some (Ey Ew (pt l a).2):=fun a ha=>by
  obtain⟨b,o,e,-,h1,h2⟩:=h.at ha;rw[X]at e
  injection e with e
  injection e with e1 e2
  subst e1 e2;exact⟨h1,h2⟩
 have s1:=sm _ (E x.2.1);have s2:=sm _ (E x.2.2.1);have s3:=sm _ (E x.2.2.2)
 refine Calls.mono (Cr (K x.1) (K x.2.1) (K x.2.2.1) (K x.2.2.2) I o0 _ _ _ _ _ _ _ _ (rA (yL l K x) 0) (rA (yL l K x) 1) (rA (yL l K x) 2) (rA (yL l K x) 3) w hc.2.1 X T (E _) (E _) (E _) (E _) J M s1.1 s1.2 s2.1 s2.2 s3.1 s3.2
  (fun w'=>GW _ _ _ _ _ _ w' (H x.1) (H x.2.1) (H x.2.2.1) Y) (fun w'=>GW _ _ _ _ _ _ w' (H x.1) (H x.2.1) (H x.2.2.2) Y)) ?_
 rintro e w' ⟨u1,u2,u3,u4,u5,u6,u7,u8,v1,v2,v3,v4,v5,v6,v7,v8,s1,s2,s3,s4,s5,s6,s7,s8,t1,t2,t3,t4,t5,t6,t7,t8,rfl,⟨f0,f1,f2,Z⟩,hs⟩;exact⟨_,rfl,QF.gg ⟨rfl,rfl,rfl,rfl⟩ f0 f1 f2 Z,hs⟩
open Go.RowKit
variable {a c:aU} {N x y:Int}
theorem K9 (E:0<N):(x:Rat) / (N:Rat)<=(y:Rat) / (N:Rat)↔x<=y:=by
 have h0:(0:Rat)<(N:Rat):=Rat.intCast_pos.2 E;have H:(N:Rat)≠0:=fun e=>by rw[e]at h0; exact absurd h0 D8
 have e:∀z:Rat,z / (N:Rat)*(N:Rat)=z:=fun z=>Rat.div_mul_cancel H
 constructor
 .
  intro h;have:=Rat.mul_le_mul_of_nonneg_right h (Rat.le_of_lt h0);rw[e,e]at this;exact Rat.intCast_le_intCast.1 this
 .
  intro h;refine Rat.le_of_mul_le_mul_right ?_ h0;rw[e,e];exact Rat.intCast_le_intCast.2 h
theorem QZ (E:0<N):z9 ((x:Rat) / (N:Rat)) ((y:Rat) / (N:Rat))=zM x y:=by
 have a:=K9 (x:=x) (y:=y) E;have b:=K9 (x:=y) (y:=x) E
 rcases JK ((x:Rat) / (N:Rat)) ((y:Rat) / (N:Rat))with⟨h,h2⟩ | ⟨h,h2⟩ | ⟨h,h2⟩
 .
  have e:x=y:=Int.le_antisymm (a.1 (h2▸(Rat.not_lt.1 (fun g=>absurd g (Rat.not_lt.2 (Rat.le_iff_lt_or_eq.2 (.inr rfl))))))) (b.1 (h2▸(Rat.not_lt.1 (fun g=>absurd g (Rat.not_lt.2 (Rat.le_iff_lt_or_eq.2 (.inr rfl)))))));rw[h,e]; unfold zM; rw[E9 rfl]
 .
  have e:¬y<=x:=fun g=>absurd (b.2 g) (Rat.not_le.2 h2);rw[h]; unfold zM; rw[E_ D6,E9 D6]
 .
  have e:¬x<=y:=fun g=>absurd (a.2 g) (Rat.not_le.2 h2);rw[h]; unfold zM; rw[E_ D6,E_ D6]
theorem Q7 (H:0<N):(x:Rat) / (N:Rat)+(y:Rat) / (N:Rat)=((x+y:Int):Rat) / (N:Rat):=by
 have h0:(0:Rat)<(N:Rat):=Rat.intCast_pos.2 H;have E:(N:Rat)≠0:=fun e=>by rw[e]at h0; exact absurd h0 D8
 refine(qC E ?_).symm;rw[Rat.add_mul,Rat.div_mul_cancel E,Rat.div_mul_cancel E,Rat.intCast_add]
def bZ (x y:Int):Prop:=(x<0↔y<0)/\(x=0↔y=0)
theorem bZ.eK {c d c' E:Int} (h:bZ c c') (k:bZ d E):bZ (jI c d) (jI c' E):=by
 unfold bZ jI at *
 by_cases g:c=0
 . rw[E9 g,E9 (h.2.1 g)]; exact k
 . rw[E_ g,E_ (fun e=>g (h.2.2 e))]; exact h
theorem bZ.sub (x y:Int):bZ (x-y) (zM x y):=by
 unfold bZ zM
 split
 . omega
 . split<;>omega
theorem bZ.refl (x:Int):bZ x x:=⟨Iff.rfl,Iff.rfl⟩
def V7 (a c:aU):Nat->Int
 | 0=>z9 (rA a 0+rA a 2) (rA c 0+rA c 2)
 | n+1=>jI (V7 a c n) (if n<4 then z9 (rA a n) (rA c n)else kA a (n-4)-kA c (n-4))
theorem Wd (E:0<c.n) (h:a.n=c.n):bZ (V7 a c 8) (jj a c):=by
 have q:∀i,z9 (rA a i) (rA c i)=zM (cA a i) (cA c i):=fun i=>by unfold rA; rw[h]; exact QZ E
 have H:V7 a c 0=zM (a.a1+a.b1) (c.a1+c.b1):=by
  show z9 (rA a 0+rA a 2) (rA c 0+rA c 2)=_
  unfold rA;rw[h,Q7 E,Q7 E]; exact QZ E
 rw[K6];have st:∀n,V7 a c (n+1)=jI (V7 a c n) (if n<4 then z9 (rA a n) (rA c n)else kA a (n-4)-kA c (n-4)):=fun _=>rfl;rw[st 7,st 6,st 5,st 4,st 3,st 2,st 1,st 0,H];simp only[q];exact(((((((((bZ.refl _).eK (bZ.refl _)).eK (bZ.refl _)).eK (bZ.refl _)).eK (bZ.refl _)).eK (bZ.sub _ _)).eK (bZ.sub _ _)).eK (bZ.sub _ _)).eK (bZ.sub _ _))
theorem K_ {m:Int} (h0 : -m<=x) (E:x<=m):zi x<=m:=by unfold zi; omega
theorem Va (h:cW a) (E:0<a.n) (i:Nat):sz (rA a i) 2:=by
 have e:bp 2=18446744073709551616:=by decide
 unfold rA;refine qH D6 ?_ ?_
 .
  have : -35184372088832<=cA a i/\cA a i<=35184372088832:=by
   unfold cA; split
   . exact h.a1
   . exact h.a2
   . exact h.b1
   . exact h.b2
  rw[e]; exact K_ D6 D6
 .
  have:=h.n;rw[e]; exact K_ D6 D6
theorem Cs {CA I:Array Ei} (w:Ef) (T:QF w CA (kA a) (rA a)) (X:QF w I (kA c) (rA c)) (Y:cW a) (nc:cW c) (M:0<c.n) (h:a.n=c.n) (ka:∀i,i<4->0<=kA a i/\kA a i<=1000000) (Z:∀i,i<4->0<=kA c i/\kA c i<=1000000) :
  Ee Ed 116 #[Ej CA,Ej I] w fun x w'=>x = Eh (Ez (decide (jj a c<0)))/\zf w w':=by
 have hA:0<a.n:=D6
 have E:=fun i=>Va Y hA i;have H:=fun i=>Va nc M i
 have:=Gs (e:=V7 a c) w T X (fun i _=>E i) (fun i _=>H i) (((E 0).add (E 2)).mono D6) (((H 0).add (H 2)).mono D6) ka Z rfl
  (fun i J=>by show jI _ _=_; rw[E9 J]) (fun i J=>by show jI _ _=_; rw[E_ D6,show 4+i-4=i by omega])
 rwa[decide_eq_decide.2 (Wd M h).1]at this
def xf (l:PL) (K:Nat->Nat) (N:Int) (a b c:Nat):Option aU:=jx N ((xF a b c).map (yL l K))
theorem XW (l:PL) (K:Nat->Nat) (N:Int) {a b c:Nat} (H:a<4) (E:b<4) (hc:c<4) (hv:¬(a≠b/\a≠c/\b≠c)):xf l K N a b (c+1)=xf l K N a b c:=by
 unfold xf; rw[ZX a H b E c hc,E_ hv]
theorem Gt (l:PL) (K:Nat->Nat) (N:Int) {a b c d:Nat} (I:a<4) (E:b<4) (hc:c<4) (hv:a≠b/\a≠c/\b≠c) (hd:6-a-b-c=d) (H:(yL l K (a,b,c,d)).n=N) :
  xf l K N a b (c+1)=(match xf l K N a b c with | none=>some (yL l K (a,b,c,d)) | some x=>if jj (yL l K (a,b,c,d)) x<0 then some (yL l K (a,b,c,d))else some x):=by
 unfold xf; rw[ZX a I b E c hc,E9 hv,hd,List.map_append]
 show jx N (_ ++ [_])=_
 rw[jU,E9 H]
 cases jx N (List.map (yL l K) (xF a b c))<;>rfl
theorem J7 (l:PL) (K:Nat->Nat) (N:Int) {a b:Nat} (H:a<4) (E:b<4) (I:dst l K a b≠N):∀c,c<=4->xf l K N a b c=xf l K N a b 0:=by
 intro c
 induction c with
 | zero=>intro _; rfl
 | succ c ih=>
  intro hc;rw[<- ih D6]
  by_cases hv:a≠b/\a≠c/\b≠c
  .
   unfold xf; rw[ZX a H b E c D6,E9 hv,List.map_append]
   show jx N (_ ++ [_])=_
   rw[jU,E_ (show ¬(yL l K (a,b,c,6-a-b-c)).n=N from fun e=>I e)]
  . exact XW l K N H E D6 hv
theorem Vb (l:PL) (K:Nat->Nat) (N:Int) {a b:Nat} (H:a<4) (E:b<4):xf l K N a b 4=xf l K N a (b+1) 0:=by unfold xf; rw[KQ a H b E]
theorem We (l:PL) (K:Nat->Nat) (N:Int) {a b:Nat} (H:a<4) (E:b<4) (h:a=b):xf l K N a b 0=xf l K N a (b+1) 0:=by unfold xf; rw[UQ a H b E h]
theorem Gu (l:PL) (K:Nat->Nat) (N:Int) {a:Nat} (E:a<4):xf l K N a 4 0=xf l K N (a+1) 0 0:=by unfold xf; rw[KS a E]
theorem Gv (l:PL) (K:Nat->Nat) (N:Int):xf l K N 0 0 0=none:=by unfold xf; rw[KU]; rfl
theorem V8 (l:PL) (K:Nat->Nat) (h:0<jp l K):xf l K (jp l K) 4 0 0=some (yt l K):=by unfold xf; rw[Xp]; exact JO l K h
theorem Gw (l:PL) (K:Nat->Nat) (N:Int) {a b c:Nat} {x:aU} (h:xf l K N a b c=some x):x.n=N/\∃p,x=yL l K p:=by
 unfold xf at h
 rcases Yw N ((xF a b c).map (yL l K))with⟨h1,-⟩ | ⟨y,h1,h2,h3,-⟩
 . rw[h1]at h; cases h
 .
  rw[h1]at h
  injection h with h
  subst h;obtain⟨p,-,e⟩:=List.mem_map.1 h2;exact⟨h3,p,e.symm⟩
open Go.RowKit
variable {cs:Array Ei} {g:Nat} {k:Nat->Int} {r:Nat->Rat} {o:Option aU} {ff:Ei} {w:Ef}
def cH (wr:Ef) (g:Nat) (ff:Ei):Option aU->Prop
 | none=>ff = Ez false/\ai wr g 83 Zz
 | some x=>ff = Ez true/\∃cs,ai wr g 83 cs/\QF wr cs (kA x) (rA x)
theorem cH.ae {w':Ef} (h:cH w g ff o) (s:zf w w'):cH w' g ff o:=by
 cases o with
 | none=>exact⟨h.1,h.2.ae s⟩
 | some x=>obtain⟨e,cs,H,E⟩:=h; exact⟨e,cs,H.ae s,E.ae s⟩
theorem cH.lt (h:cH w g ff o):g<w.heap.size:=by
 cases o with
 | none=>exact h.2.lt
 | some x=>obtain⟨e,cs,E,H⟩:=h; exact E.lt
def Dd (x:Ei):Prop:=∃cs:Array Ei,x = Ej cs/\cs.size=20/\cs.all (·.oneCell')=true
def GQ (k:Nat->Int) (r:Nat->Rat) (x:Ei) (W:Ef):Prop:=∃cs,x = Ej cs/\QF W cs k r
theorem GQ.af (x:Ei) (W E:Ef) (H:av W E) (h:GQ k r x W):GQ k r x E:=by obtain⟨cs,e,h⟩:=h; exact⟨cs,e,h.af H⟩
theorem GQ.get {W:Ef} (h:GQ k r (Ej cs) W):QF W cs k r:=by obtain⟨cs',e,h⟩:=h; injection e with e; subst e; exact h
theorem Zt {P:Program} {ops:Array Oper} {rest:List Oper} {o:Oper} {a:Act} {w:Ef} {Q:Exit->Act->Ef->Prop} (hw:Region.wanted o (yielded ops a.tmps)=true) (ty:TypeId) (x:Operand) (I:o.op = .load ty x) (g:Nat) (J:a.eval x = Ek (some ⟨g,0,none⟩)) (t:TypeId) (cs:Array Ei) (d:TypeDesc) (hg:ai w g t cs)
  (E:P.underlying ty=some d) (hd:(match d with | .struct _ | .array _ _=>true | _=>false)=true) (H:(P.info? ty).map (·.size)=some cs.size)
  (h:wpList P ops Q rest (a.put o.dst (Ej cs)) w):wpList P ops Q (o::rest) a w:=by
 unfold wpList;rw[E9 hw];exact .inl (wp_load_row ty x I g J t cs (0,0) d hg E hd H h)
theorem GY:Dd (Ej #[Ey Ew 0,Ey Ew 0,Ey Ew 0,Ey Ew 0,Ez false,Ex none 0 0,Ez false,Ex none 0 0,Ez false,Ex none 0 0,Ez false,Ex none 0 0,Ez false,Ex none 0 0,Ez false,Ex none 0 0,Ez false,Ex none 0 0,Ez false,Ex none 0 0]):=⟨_,rfl,rfl,by simp[Value.oneCell']⟩
theorem Vc {x y:Array Ei} (h:Value.agg x = Ej y):x=y:=by injection h
theorem QF.eL (h:QF w cs k r):zV cs=true:=by
 obtain⟨hs,-,T,X⟩:=h;unfold zV;rw[List.all_eq_true];intro x Y;obtain⟨j,I,e⟩:=List.getElem_of_mem Y;have H:j<20:=by simpa[hs]using I
 have E:cs[j]? = some x:=by rw[<- e]; simp at I|-
 have key:∀i,i<4->∀m,m<4->cs[4+i*4+m]? = some x->(match x with | Ey .u32 _=>false | _=>true)=true:=fun i hi m hm h=>by
  obtain⟨a1,a2,a3,a4,a5,a6,a7,a8,Z,c1,J,M,-⟩:=X i hi
  rcases(show m=0\/m=1\/m=2\/m=3 by omega)with rfl | rfl | rfl | rfl
  . rw[Nat.add_zero,Z]at h; injection h with h; subst h; rfl
  . rw[c1]at h; injection h with h; subst h; rfl
  . rw[J]at h; injection h with h; subst h; rfl
  . rw[M]at h; injection h with h; subst h; rfl
 rcases Er j 4 with g | g
 . rw[T j g]at E; injection E with E; subst E; rfl
 .
  refine key ((j-4) / 4) D6 ((j-4)%4) D6 ?_;rw[show 4+(j-4) / 4*4+(j-4)%4=j by omega]; exact E
theorem Ct {v:Ei} {l:PL} (k0 k1 k2 k3:Nat) (K:Nat->Nat) (hK:Xq k0 k1 k2 k3=K) (w:Ef) (h:bT w v l) (hl:l.length<=1000) (hk:∀i,K i<l.length) (hp:∀i,ku (pt l (K i)).1 (pt l (K i)).2) (hw:0<jp l K) :
  Ee Ed 75 #[v,Ej #[Ey Ew k0,Ey Ew k1,Ey Ew k2,Ey Ew k3]] w fun e w'=>∃cs,e = Eh (Ej cs)/\QF w' cs (kA (yt l K)) (rA (yt l K))/\zf w w':=by
 have br:∀i,i<4->(#[Ey Ew k0,Ey Ew k1,Ey Ew k2,Ey Ew k3]:Array Ei)[i]? = some (Ey Ew (K i:Nat)):=fun i hi=>by rw[<- hK]; rcases(show i=0\/i=1\/i=2\/i=3 by omega)with rfl | rfl | rfl | rfl<;>rfl
 have wi:=fun w' (M:zf w w')=>K8 k0 k1 k2 k3 K hK w' (h.ae M) hk hp;have er:=fun(x:P4) w' (M:zf w w') (hn:(yL l K x).n≠0)=>H4 (K:=K) x w' (h.ae M) hk hp hn
 have ci:∀x,cW (yL l K x)/\∀i,i<4->0<=kA (yL l K x) i/\kA (yL l K x) i<=1000000:=fun x=>by
  refine⟨QY _ _ _ _ (hp _) (hp _) (hp _) (hp _),fun i hi=> ?_⟩;have b:∀j,(0:Int)<=(K j:Nat)/\((K j:Nat):Int)<=1000000:=fun j=>by have:=hk j; omega
  rcases(show i=0\/i=1\/i=2\/i=3 by omega)with rfl | rfl | rfl | rfl
  . exact b x.1
  . exact b x.2.1
  . exact b x.2.2.1
  . exact b x.2.2.2
 have cn:=V8 l K hw;obtain⟨N,hN⟩:∃N,jp l K=N:=⟨_,rfl⟩;rw[hN]at wi cn hw;obtain⟨ao,cap,rfl⟩:=h.ak;have bh:∀a,a<l.length->∃b o,ao=some ⟨b,o,none⟩/\b<w.heap.size/\w.cell? ⟨b,o+a*2,none⟩=some (Ey Ew (pt l a).1)/\w.cell? ⟨b,o+a*2+1,none⟩=some (Ey Ew (pt l a).2):=fun a ha=>h.at ha;have bg:=h.cells;obtain⟨len,cg⟩:∃n,l.length=n:=⟨_,rfl⟩;rw[cg]at bh hk bg wi er|-;replace bg:len<=cap:=bg.2.1;clear h hK cg hN hl;obtain⟨b0,o0,rfl,be,-,-⟩:=bh _ (hk 0)
 have ed:∀a,a<len->w.cell? ⟨b0,o0+a*2,none⟩=some (Ey Ew (pt l a).1)/\w.cell? ⟨b0,o0+a*2+1,none⟩=some (Ey Ew (pt l a).2):=fun a ha=>by
  obtain⟨b,o,e,-,h1,h2⟩:=bh a ha
  injection e with e
  injection e with e1 e2
  subst e1 e2;exact⟨h1,h2⟩
 clear bh
 go_enter Tryz.func75,Tryz.ntmps75
 have ft:=br 0 D6;go_wp2_with fail
 refine(wi _ zh).mono ?_;rintro e w1 ⟨rfl,bt⟩;have B:Below w.heap.size w w1:=yI bt;have J:ai w1 w.heap.size 80 #[Ey Ew k0,Ey Ew k1,Ey Ew k2,Ey Ew k3]:=ai.au bt;have or:ai w1 (w.heap.size+1) 83 Zz:=ai.au bt;have zz:=B.size;have z0:=or.lt;clear wi bt ft;dsimp only;go_wp2_with fail
 obtain⟨g,hg⟩:∃g,w1.heap.size=g:=⟨_,rfl⟩;have dx:ai (w1.alloc (.cells Zz 83)) g 83 Zz:=ai.bK hg;rw[hg];have gi:w.heap.size+1<g:=D6
 clear hg z0
 go_loopw [7,8] (fun ff zz wr=>∃a:Nat,a<=4/\zz = Ey Ew a/\ai wr w.heap.size 80 #[Ey Ew k0,Ey Ew k1,Ey Ew k2,Ey Ew k3]/\ai wr (w.heap.size+1) 83 Zz/\Below w.heap.size w wr/\cH wr g ff (xf l K N a 0 0)) (fun _ zz _=>4-(intOf zz).toNat)
 case atStart=>exact⟨0,by omega,rfl,zC,zC,zh,by rw[Gv]; exact⟨rfl,dx⟩⟩
 case round=>
  obtain⟨a,ha,rfl,za,zr,zB,hF⟩:=hrel;clear J or B dx
  rcases Er a 4 with a4 | a4
  .
   have gj:decide ((a:Int)<4)=true:=E' D6;go_wp2_with fail
   go_loopw [7,9] (fun ff zz wr=>∃b:Nat,b<=4/\zz = Ey Ew b/\ai wr w.heap.size 80 #[Ey Ew k0,Ey Ew k1,Ey Ew k2,Ey Ew k3]/\ai wr (w.heap.size+1) 83 Zz/\Below w.heap.size w wr/\cH wr g ff (xf l K N a b 0)) (fun _ zz _=>4-(intOf zz).toNat)
   case atStart=>exact⟨0,by omega,rfl,za,zr,zB,hF⟩
   case round=>
    clear za zr zB hF;obtain⟨b,hb,rfl,J,or,B,hF⟩:=hrel
    rcases Er b 4 with b4 | b4
    .
     have g9:decide ((b:Int)<4)=true:=E' D6
     by_cases e1:a=b
     .
      have HU:=E7 (We l K N a4 b4 e1);have q1:((a:Int)==(b:Int))=true:=by simp[e1]
      clear e1;go_wp2_with fail
      refine aj.aJ (fun D v W=>zf wr W) (aj.inl []) (aj.gv []) aj.aQ (fun _=>aj.Any) (fun _ _=>False) (aj.pl []) (aj.pl [])
       D7 D7 D7 (aj.dB _) (fun _=>(Below.refl _ _).drew) (fun _ _ _ _ _ h=>h) (fun _ _ _ _ _ _ _ _ _ _ _ _ _=>aj.none_) (fun _ _ _ _ h=>h.elim) (fun a9 Q' E hQ=> ?_)
      repeat (first | refine aj.bG E _ ?_ | (refine aj.sk E ?_; refine aj.dX rfl ?_))
      refine aj.aE (fun D v w9 hd s9 T=> ?_);clear hd T;replace B:=zA B (Ep _) s9;replace J:=J.ae s9;replace or:=or.ae s9;replace hF:=hF.ae s9;clear s9;refine hQ _ _ ?_;clear hQ E Q' a9
      repeat' (first | go_values | go_skip | go_guarded | go_step | go_upon)
      go_wp2
      go_roundw
      case rel=>exact⟨b+1,by omega,by go_num,zC,zC,zh,by rw[<- HU.out]; exact hF⟩
      case measure=>simp[intOf]; omega
     have q1:((a:Int)==(b:Int))=false:=by simp; omega
     have ap:∀w',Ee Ed 114 #[Ej #[Ey Ew (pt l (K a)).1,Ey Ew (pt l (K a)).2],Ej #[Ey Ew (pt l (K b)).1,Ey Ew (pt l (K b)).2]] w' fun e w2=>e = Eh (Ey Ew (dst l K a b))/\zf w' w2:=fun w'=>by
      have:=J4 (pt l (K a)).1 (pt l (K a)).2 (pt l (K b)).1 (pt l (K b)).2 w' (hp a) (hp b)
      rwa[show Xr ((pt l (K b)).1,(pt l (K b)).2) ((pt l (K a)).1,(pt l (K a)).2)=dst l K a b from vX _ _]at this
     have hA:=br a a4;have hB:=br b b4;have em:=hk a;have eW:=hk b;obtain⟨xa,ya⟩:=ed _ em;obtain⟨xb,yb⟩:=ed _ eW;obtain⟨x1,eS⟩:∃z,(pt l (K a)).1=z:=⟨_,rfl⟩;obtain⟨y1,eM⟩:∃z,(pt l (K a)).2=z:=⟨_,rfl⟩;obtain⟨x2,dt⟩:∃z,(pt l (K b)).1=z:=⟨_,rfl⟩;obtain⟨y2,dP⟩:∃z,(pt l (K b)).2=z:=⟨_,rfl⟩;rw[eS]at xa ap;rw[eM]at ya ap;rw[dt]at xb ap;rw[dP]at yb ap;clear eS eM dt dP;obtain⟨ia,d9⟩:∃z,K a=z:=⟨_,rfl⟩;obtain⟨ib,cx⟩:∃z,K b=z:=⟨_,rfl⟩;rw[d9]at xa ya hA em;rw[cx]at xb yb hB eW;obtain⟨dd,bl⟩:∃z,dst l K a b=z:=⟨_,rfl⟩;rw[bl]at ap
     by_cases e0:dd=N
     .
      subst e0;go_wp2_with fail
      refine aj.aJ (fun D v W=>zf wr W) (aj.inl [16]) (aj.gv [(16,fun z_=>z_ = Ey Ew dd)]) aj.aQ (fun _=>aj.Any) (fun _ _=>False) (aj.pl []) (aj.pl [])
       D7 D7 D7 (aj.aY _ (by intro p hp; simp only[List.mem_cons,List.not_mem_nil,or_false]at hp; rcases hp with rfl; exact⟨_,rfl⟩)) (fun _=>(Below.refl _ _).drew) (fun _ _ _ _ _ h=>h) (fun _ _ _ _ _ _ _ _ _ _ _ _ _=>aj.none_) (fun _ _ _ _ h=>h.elim) (fun a9 Q' E hQ=> ?_)
      repeat refine aj.aG _ ?_
      refine aj.bG E 27 ?_;refine aj.bG E 28 ?_;refine aj.bG E 29 ?_;apply aj.RP rfl rfl (by rw[E]; rfl) 30 rfl rfl
      .
       intro D v W hc I T K' H;have c0:Es W ⟨w.heap.size,a,none⟩=some (Ey Ew ia):=(J.ae I).c _ hA;go_step;exact H.out
      . rfl
      refine aj.bG E 31 ?_;apply aj.RP rfl rfl (by rw[E]; rfl) 32 rfl rfl
      .
       intro D v W hc I T K' H;have c0:Es W ⟨b0,o0+ia*2,none⟩=_:=((zA B (Ep _) I).cell (p:=⟨b0,o0+ia*2,none⟩) be).trans xa;have c1:Es W ⟨b0,o0+ia*2+1,none⟩=_:=((zA B (Ep _) I).cell (p:=⟨b0,o0+ia*2+1,none⟩) be).trans ya;go_step;exact H.out
      . rfl
      refine aj.bG E 33 ?_;refine aj.bG E 34 ?_;refine aj.bG E 35 ?_;apply aj.RP rfl rfl (by rw[E]; rfl) 36 rfl rfl
      .
       intro D v W hc I T K' H;have c0:Es W ⟨w.heap.size,b,none⟩=some (Ey Ew ib):=(J.ae I).c _ hB;go_step;exact H.out
      . rfl
      refine aj.bG E 37 ?_;apply aj.RP rfl rfl (by rw[E]; rfl) 38 rfl rfl
      .
       intro D v W hc I T K' H;have c0:Es W ⟨b0,o0+ib*2,none⟩=_:=((zA B (Ep _) I).cell (p:=⟨b0,o0+ib*2,none⟩) be).trans xb;have c1:Es W ⟨b0,o0+ib*2+1,none⟩=_:=((zA B (Ep _) I).cell (p:=⟨b0,o0+ib*2+1,none⟩) be).trans yb;go_step;exact H.out
      . rfl
      refine aj.aC rfl (ve rfl) (by rw[E]; rfl) (fun D v W hc I T K' H=> ?_) ?_
      .
       go_step;refine(ap _).mono ?_;rintro e W2 ⟨rfl,M⟩;exact H.out _ W2 aj.any (zA I (Ep _) M) aj.none_ rfl
      rintro _ rfl;refine aj.dX rfl ?_;refine aj.bG E 40 ?_;refine aj.bG E 41 ?_;refine aj.aG 42 ?_;refine aj.aE (fun D v w9 hd s9 T=> ?_);clear hd T;replace B:=zA B (Ep _) s9;replace J:=J.ae s9;replace or:=or.ae s9;replace hF:=hF.ae s9;clear s9;refine hQ _ _ ?_;clear hQ E Q' a9;clear ap xa ya xb yb
      repeat' (first | go_values | go_skip | go_guarded | go_step | go_upon)
      go_wp2_with fail
      go_loopw [7,10] (fun ff zz wr=>∃c:Nat,c<=4/\zz = Ey Ew c/\ai wr w.heap.size 80 #[Ey Ew k0,Ey Ew k1,Ey Ew k2,Ey Ew k3]/\ai wr (w.heap.size+1) 83 Zz/\Below w.heap.size w wr/\cH wr g ff (xf l K dd a b c)) (fun _ zz _=>4-(intOf zz).toNat)
      case atStart=>exact⟨0,by omega,rfl,zC,zC,zh,hF⟩
      case round=>
       clear J or B hF;obtain⟨c,hc,rfl,J,or,B,hF⟩:=hrel
       rcases Er c 4 with c4 | c4
       .
        have gd:decide ((c:Int)<4)=true:=E' D6
        by_cases e2:a=c
        .
         have HU:=E7 (XW l K dd a4 b4 c4 (fun h=>h.2.1 e2));have q2:((c:Int)==(a:Int))=true:=by simp[e2]
         clear e2
         go_wp2
         go_roundw
         case rel=>exact⟨c+1,by omega,by go_num,zC,zC,zh,by rw[HU.out]; exact hF⟩
         case measure=>simp[intOf]; omega
        have q2:((c:Int)==(a:Int))=false:=by simp; omega
        by_cases e3:b=c
        .
         have HU:=E7 (XW l K dd a4 b4 c4 (fun h=>h.2.2 e3));have q3:((c:Int)==(b:Int))=true:=by simp[e3]
         clear e3
         go_wp2
         go_roundw
         case rel=>exact⟨c+1,by omega,by go_num,zC,zC,zh,by rw[HU.out]; exact hF⟩
         case measure=>simp[intOf]; omega
        have q3:((c:Int)==(b:Int))=false:=by simp; omega
        obtain⟨d,hd⟩:∃d,6-a-b-c=d:=⟨_,rfl⟩;have gk:(6:Int)-a-b-c=(d:Int):=D6
        have d4:d<4:=D6
        have ce:(yL l K (a,b,c,d)).n=dd:=bl;have ah:∀w',zf w w'->Ee Ed 115 #[Ex (some ⟨b0,o0,none⟩) len cap,QW K (a,b,c,d)] w' fun e w2=>∃cs,e = Eh (Ej cs)/\QF w2 cs (kA (yL l K (a,b,c,d))) (rA (yL l K (a,b,c,d)))/\zf w' w2:=fun w' M=>er (a,b,c,d) w' M (by rw[ce]; omega);have cZ:=ci (a,b,c,d);have hC:=br c c4;have hD:=br d d4;unfold QW at ah;dsimp only at ah;rw[d9,cx]at ah;have cy:=Gt l K dd a4 b4 c4 ⟨e1,e2,e3⟩ hd ce;obtain⟨ic,dl⟩:∃z,K c=z:=⟨_,rfl⟩;obtain⟨fe,fd⟩:∃z,K d=z:=⟨_,rfl⟩;rw[dl]at hC ah;rw[fd]at hD ah;obtain⟨X,hX⟩:∃z,yL l K (a,b,c,d)=z:=⟨_,rfl⟩;rw[hX]at ce ah cZ cy;have dy:=J.lt;have ey:=or.lt;have f7:=B.size;have qa:=ah;clear ah hd bl hX dl fd;have HX:=cy;clear cy
        cases ho:xf l K dd a b c with
        | none=>
         rw[ho]at hF HX;obtain⟨rfl,Y⟩:=hF;dsimp only at HX;replace HX:=E7 HX;obtain⟨CS,dk⟩:∃c,(#[Ey Ew 0,Ey Ew 0,Ey Ew 0,Ey Ew 0,Ez false,Ex none 0 0,Ez false,Ex none 0 0,Ez false,Ex none 0 0,Ez false,Ex none 0 0,Ez false,Ex none 0 0,Ez false,Ex none 0 0,Ez false,Ex none 0 0,Ez false,Ex none 0 0]:Array Ei)=c:=⟨_,rfl⟩;have f8:ai wr g 83 CS:=by rw[<- dk]; exact Y
         have ec:=E7 dk;clear Y dk;have Y:=f8;clear f8;have cN:=Y.lt;go_wp2_with fail
         refine aj.aJ (fun D v W=>Below w.heap.size w W/\av wr W/\wr.heap.size<=W.heap.size/\ai W w.heap.size 80 #[Ey Ew k0,Ey Ew k1,Ey Ew k2,Ey Ew k3]/\ai W (w.heap.size+1) 83 Zz/\ai W g 83 CS/\(D 20=true->∃p:Nat,v 20 = Ek (some ⟨p,0,none⟩)/\wr.heap.size<=p/\p<W.heap.size/\(D 21=false->ai W p 83 Zz)/\(D 21=true->D 19=true/\∃cs,v 19 = Ej cs/\ai W p 83 cs))) (aj.inl [19,20,21]) (aj.gv [(19,Dd),(20,jE)]) (gw [(19,GQ (kA X) (rA X))]) (fun _=>av) (fun _ _=>False) (aj.pl [(21,[(19,some 74),(20,some 11)]),(22,[(19,some 74),(20,some 11)])]) (aj.pl [(19,[21]),(20,[21])])
          D7 D7 D7 (aj.aY _ (by intro p hp; simp only[List.mem_cons,List.not_mem_nil,or_false]at hp; rcases hp with rfl | rfl<;>first | exact⟨_,GY⟩ | exact⟨_,0,rfl⟩))
          (fun _=>⟨zh,zw,Ep _,zC,zC,zC,(fun h=>by cases h)⟩)
          (fun D v v' W hv I=>by obtain⟨j0,jk,jn,J,or,Y,ja⟩:=I; exact⟨j0,jk,jn,J,or,Y,fun hd=>by obtain⟨p,e1,e2,e3,e4,e5⟩:=ja hd; exact⟨p,(hv 20 hd)▸e1,e2,e3,e4,fun h=>by obtain⟨q1,cs,q2,q3⟩:=e5 h; exact⟨q1,cs,(hv 19 q1)▸q2,q3⟩⟩⟩)
          (fun _ _ _ _ _ _ _ _ _ _ _ hk hg=>qN _ (by intro p hp; simp only[List.mem_cons,List.not_mem_nil,or_false]at hp; rcases hp with rfl; exact GQ.af) hk hg) (fun _ _ _ _ h=>h.elim) (fun a9 Q' E hQ=> ?_)
         repeat refine aj.aG _ ?_
         apply aj.RP rfl rfl rfl 58 rfl rfl
         .
          intro D v W hc I T K' H;obtain⟨j0,jk,jn,J,or,Y,ja⟩:=I;have c0:Es W ⟨w.heap.size,a,none⟩=some (Ey Ew ia):=J.c _ hA;go_step;exact H.out
         . rfl
         repeat refine aj.aG _ ?_
         apply aj.RP rfl rfl rfl 61 rfl rfl
         .
          intro D v W hc I T K' H;obtain⟨j0,jk,jn,J,or,Y,ja⟩:=I;have c0:Es W ⟨w.heap.size,b,none⟩=some (Ey Ew ib):=J.c _ hB;go_step;exact H.out
         . rfl
         repeat refine aj.aG _ ?_
         apply aj.RP rfl rfl rfl 64 rfl rfl
         .
          intro D v W hc I T K' H;obtain⟨j0,jk,jn,J,or,Y,ja⟩:=I;have c0:Es W ⟨w.heap.size,c,none⟩=some (Ey Ew ic):=J.c _ hC;go_step;exact H.out
         . rfl
         repeat refine aj.aG _ ?_
         apply aj.RP rfl rfl rfl 72 rfl rfl
         .
          intro D v W hc I T K' H;obtain⟨j0,jk,jn,J,or,Y,ja⟩:=I;have c0:Es W ⟨w.heap.size,d,none⟩=some (Ey Ew fe):=J.c _ hD;go_step;exact H.out
         . rfl
         refine aj.aG 73 ?_;refine aj.aC rfl (ve rfl) rfl (fun D v W hc I T K' H=> ?_) ?_
         .
          obtain⟨j0,jk,jn,J,or,Y,ja⟩:=I;have hst:D 21=false:=hc.2 21 D8;go_step;refine(qa _ j0).mono ?_;rintro e W2 ⟨cs,rfl,hq,M⟩;exact H.out _ W2 (av.ae M) ⟨YX j0 M,jk.aI M,Jn jn M,J.ae M,or.ae M,Y.ae M,fun hd=>by obtain⟨p,e1,e2,e3,e4,e5⟩:=ja hd; exact⟨p,e1,e2,Nat.lt_of_lt_of_le e3 M.size,fun h=>(e4 h).ae M,fun h=>Bool.noConfusion (hst.symm.trans h)⟩⟩ ⟨_,rfl,hq⟩ ⟨_,rfl,hq.1,hq.2.1⟩
         rintro _ ⟨cs,rfl,Z,b9⟩;refine aj.dX rfl ?_;refine aj.aC rfl (ve rfl) rfl (fun D v W hc I T K' H=> ?_) ?_
         .
          obtain⟨j0,jk,jn,J,or,Y,ja⟩:=I;have hst:D 21=false:=hc.2 21 D8;go_step;have M:∀o:Obj,zf W (W.alloc o):=fun o=>(Below.refl _ _).alloc (Ep _) o;exact H.out _ _ (av.ae (M _)) ⟨YX j0 (M _),jk.aI (M _),Jn jn (M _),J.ae (M _),or.ae (M _),Y.ae (M _),fun _=>⟨W.heap.size,rfl,jn,by rw[World.size_alloc]; omega,fun _=>ai.new _ _ _,fun h=>Bool.noConfusion (hst.symm.trans h)⟩⟩ trivial ⟨_,rfl⟩
         rintro _ ⟨p,rfl⟩;refine aj.dX rfl ?_;refine aj.dF (fun D v W hc I T K' H=> ?_) (fun _ _=>aj.aB (b:=⟨#[_,_,_,_,_,_,_,_,_,_,_,_,_,_,_,_,_,_,_,_,_,_,_,_,_,_,_,_,_,_,_,_,_,_,_,_,_,_,_,_,_,_,_,_,_,_,_,_,_,_,_,_,_,_,_,_,_,_,_,_,_,_,_,_,_,_,_,_,_,_,_,_,_,_,_,_,_,_,_,_,_,_,_,_],_⟩) rfl ?_)
         .
          obtain⟨j0,jk,jn,J,or,Y,ja⟩:=I;have f:=T (19,some 74) (.head _) rfl;have f2:=T (20,some 11) (.tail _ (.head _)) rfl;obtain⟨p',e1,e2,e3,e4,-⟩:=ja f2.1;obtain rfl:p=p':=aj.bM ((show v 20 = Ek (some ⟨p,0,none⟩) from f2.2.1).symm.trans e1);have hb:=e4 hc.1;have r:=bz.eQ (cs:=cs) hb;have z1:=J.lt;have n1:∀q,q<wr.heap.size->q≠p:=fun q hq=>by omega
          refine wp_store_row 83 (.tmp 11) (.tmp 74) rfl p cs rfl rfl 83 #[Ey Ew 0,Ey Ew 0,Ey Ew 0,Ey Ew 0,Ez false,Ex none 0 0,Ez false,Ex none 0 0,Ez false,Ex none 0 0,Ez false,Ex none 0 0,Ez false,Ex none 0 0,Ez false,Ex none 0 0,Ez false,Ex none 0 0,Ez false,Ex none 0 0] hb (by rw[Z]; kernel_rfl) Z.symm b9 ?_;exact H.out undef _ (r.af rfl) ⟨r.below j0 (Nat.le_trans f7 e2),jk.trans (r.af rfl),Nat.le_trans jn (Nat.le_of_eq r.only.1.symm),r.bc J (n1 _ dy),r.bc or (n1 _ ey),r.bc Y (n1 _ cN),fun _=>⟨p,f2.2.1,e2,Nat.lt_of_lt_of_le e3 (Nat.le_of_eq r.only.1.symm),(fun h=>Bool.noConfusion h),fun _=>⟨f.1,cs,f.2.1,r.bI⟩⟩⟩ trivial trivial
         refine aj.aE (fun D v w9 hd I T=> ?_);obtain⟨B,jk,jn,J,or,Y,ja⟩:=I;have f:=T (19,some 74) (.head _) rfl;have f2:=T (20,some 11) (.tail _ (.head _)) rfl;obtain⟨p',e1,e2,e3,-,e5⟩:=ja f2.1;obtain rfl:p=p':=aj.bM ((show v 20 = Ek (some ⟨p,0,none⟩) from f2.2.1).symm.trans e1);obtain⟨-,cs',e6,op⟩:=e5 (hd 21 D8);obtain rfl:cs=cs':=Vc ((show v 19 = Ej cs from f.2.1).symm.trans e6);have hq:QF w9 cs (kA X) (rA X):=GQ.get f.2.2;have kp:=jk;have np:∀q,q<wr.heap.size->q≠p:=fun q hq=>by omega
         clear f f2 ja e1 e2 e5 e6 hd T jk;refine hQ _ _ ?_;clear hQ E Q' a9
         go_wp2_with (first | (refine yg rfl 83 (.tmp 11) rfl (p) rfl 83 cs _ op Tryz.underlying83 rfl (by rw[Z]; kernel_rfl) ?_) | (refine zL rfl 83 (.tmp 6) (.tmp 82) rfl g cs rfl rfl 83 CS Y (by rw[Z]; kernel_rfl) (by rw[<- ec.out,Z]; rfl) b9 (fun w8 r8=> ?_)))
         go_roundw
         case rel=>exact⟨c+1,by omega,by go_num,r8.bc J D6,r8.bc or D6,r8.below B D6,by rw[HX.out]; exact⟨rfl,cs,r8.bI,hq.af (r8.af (by rw[<- ec.out]; rfl))⟩⟩
         case measure=>simp[intOf]; omega
        | some x=>
         rw[ho]at hF HX;obtain⟨rfl,CS,Y,bi⟩:=hF;dsimp only at HX;replace HX:=E7 HX;have cN:=Y.lt;obtain⟨fl,px,g8⟩:=Gw l K dd ho;have dc:=ci px;rw[<- g8]at dc;have f9:=bi.1;have ek:zV CS=true:=QF.eL bi;go_wp2_with fail
         refine aj.aJ (fun D v W=>Below w.heap.size w W/\av wr W/\wr.heap.size<=W.heap.size/\ai W w.heap.size 80 #[Ey Ew k0,Ey Ew k1,Ey Ew k2,Ey Ew k3]/\ai W (w.heap.size+1) 83 Zz/\ai W g 83 CS/\(D 20=true->∃p:Nat,v 20 = Ek (some ⟨p,0,none⟩)/\wr.heap.size<=p/\p<W.heap.size/\(D 21=false->ai W p 83 Zz)/\(D 21=true->D 19=true/\∃cs,v 19 = Ej cs/\ai W p 83 cs))) (aj.inl [19,20,21]) (aj.gv [(19,Dd),(20,jE)]) (gw [(19,GQ (kA X) (rA X))]) (fun _=>av) (fun _ _=>False) (aj.pl [(21,[(19,some 74),(20,some 11)]),(22,[(19,some 74),(20,some 11)])]) (aj.pl [(19,[21]),(20,[21])])
          D7 D7 D7 (aj.aY _ (by intro p hp; simp only[List.mem_cons,List.not_mem_nil,or_false]at hp; rcases hp with rfl | rfl<;>first | exact⟨_,GY⟩ | exact⟨_,0,rfl⟩))
          (fun _=>⟨zh,zw,Ep _,zC,zC,zC,(fun h=>by cases h)⟩)
          (fun D v v' W hv I=>by obtain⟨j0,jk,jn,J,or,Y,ja⟩:=I; exact⟨j0,jk,jn,J,or,Y,fun hd=>by obtain⟨p,e1,e2,e3,e4,e5⟩:=ja hd; exact⟨p,(hv 20 hd)▸e1,e2,e3,e4,fun h=>by obtain⟨q1,cs,q2,q3⟩:=e5 h; exact⟨q1,cs,(hv 19 q1)▸q2,q3⟩⟩⟩)
          (fun _ _ _ _ _ _ _ _ _ _ _ hk hg=>qN _ (by intro p hp; simp only[List.mem_cons,List.not_mem_nil,or_false]at hp; rcases hp with rfl; exact GQ.af) hk hg) (fun _ _ _ _ h=>h.elim) (fun a9 Q' E hQ=> ?_)
         repeat refine aj.aG _ ?_
         apply aj.RP rfl rfl rfl 58 rfl rfl
         .
          intro D v W hc I T K' H;obtain⟨j0,jk,jn,J,or,Y,ja⟩:=I;have c0:Es W ⟨w.heap.size,a,none⟩=some (Ey Ew ia):=J.c _ hA;go_step;exact H.out
         . rfl
         repeat refine aj.aG _ ?_
         apply aj.RP rfl rfl rfl 61 rfl rfl
         .
          intro D v W hc I T K' H;obtain⟨j0,jk,jn,J,or,Y,ja⟩:=I;have c0:Es W ⟨w.heap.size,b,none⟩=some (Ey Ew ib):=J.c _ hB;go_step;exact H.out
         . rfl
         repeat refine aj.aG _ ?_
         apply aj.RP rfl rfl rfl 64 rfl rfl
         .
          intro D v W hc I T K' H;obtain⟨j0,jk,jn,J,or,Y,ja⟩:=I;have c0:Es W ⟨w.heap.size,c,none⟩=some (Ey Ew ic):=J.c _ hC;go_step;exact H.out
         . rfl
         repeat refine aj.aG _ ?_
         apply aj.RP rfl rfl rfl 72 rfl rfl
         .
          intro D v W hc I T K' H;obtain⟨j0,jk,jn,J,or,Y,ja⟩:=I;have c0:Es W ⟨w.heap.size,d,none⟩=some (Ey Ew fe):=J.c _ hD;go_step;exact H.out
         . rfl
         refine aj.aG 73 ?_;refine aj.aC rfl (ve rfl) rfl (fun D v W hc I T K' H=> ?_) ?_
         .
          obtain⟨j0,jk,jn,J,or,Y,ja⟩:=I;have hst:D 21=false:=hc.2 21 D8;go_step;refine(qa _ j0).mono ?_;rintro e W2 ⟨cs,rfl,hq,M⟩;exact H.out _ W2 (av.ae M) ⟨YX j0 M,jk.aI M,Jn jn M,J.ae M,or.ae M,Y.ae M,fun hd=>by obtain⟨p,e1,e2,e3,e4,e5⟩:=ja hd; exact⟨p,e1,e2,Nat.lt_of_lt_of_le e3 M.size,fun h=>(e4 h).ae M,fun h=>Bool.noConfusion (hst.symm.trans h)⟩⟩ ⟨_,rfl,hq⟩ ⟨_,rfl,hq.1,hq.2.1⟩
         rintro _ ⟨cs,rfl,Z,b9⟩;refine aj.dX rfl ?_;refine aj.aC rfl (ve rfl) rfl (fun D v W hc I T K' H=> ?_) ?_
         .
          obtain⟨j0,jk,jn,J,or,Y,ja⟩:=I;have hst:D 21=false:=hc.2 21 D8;go_step;have M:∀o:Obj,zf W (W.alloc o):=fun o=>(Below.refl _ _).alloc (Ep _) o;exact H.out _ _ (av.ae (M _)) ⟨YX j0 (M _),jk.aI (M _),Jn jn (M _),J.ae (M _),or.ae (M _),Y.ae (M _),fun _=>⟨W.heap.size,rfl,jn,by rw[World.size_alloc]; omega,fun _=>ai.new _ _ _,fun h=>Bool.noConfusion (hst.symm.trans h)⟩⟩ trivial ⟨_,rfl⟩
         rintro _ ⟨p,rfl⟩;refine aj.dX rfl ?_;refine aj.dF (fun D v W hc I T K' H=> ?_) (fun _ _=>aj.aB (b:=⟨#[_,_,_,_,_,_,_,_,_,_,_,_,_,_,_,_,_,_,_,_,_,_,_,_,_,_,_,_,_,_,_,_,_,_,_,_,_,_,_,_,_,_,_,_,_,_,_,_,_,_,_,_,_,_,_,_,_,_,_,_,_,_,_,_,_,_,_,_,_,_,_,_,_,_,_,_,_,_,_,_,_,_,_,_],_⟩) rfl ?_)
         .
          obtain⟨j0,jk,jn,J,or,Y,ja⟩:=I;have f:=T (19,some 74) (.head _) rfl;have f2:=T (20,some 11) (.tail _ (.head _)) rfl;obtain⟨p',e1,e2,e3,e4,-⟩:=ja f2.1;obtain rfl:p=p':=aj.bM ((show v 20 = Ek (some ⟨p,0,none⟩) from f2.2.1).symm.trans e1);have hb:=e4 hc.1;have r:=bz.eQ (cs:=cs) hb;have z1:=J.lt;have n1:∀q,q<wr.heap.size->q≠p:=fun q hq=>by omega
          refine wp_store_row 83 (.tmp 11) (.tmp 74) rfl p cs rfl rfl 83 #[Ey Ew 0,Ey Ew 0,Ey Ew 0,Ey Ew 0,Ez false,Ex none 0 0,Ez false,Ex none 0 0,Ez false,Ex none 0 0,Ez false,Ex none 0 0,Ez false,Ex none 0 0,Ez false,Ex none 0 0,Ez false,Ex none 0 0,Ez false,Ex none 0 0] hb (by rw[Z]; kernel_rfl) Z.symm b9 ?_;exact H.out undef _ (r.af rfl) ⟨r.below j0 (Nat.le_trans f7 e2),jk.trans (r.af rfl),Nat.le_trans jn (Nat.le_of_eq r.only.1.symm),r.bc J (n1 _ dy),r.bc or (n1 _ ey),r.bc Y (n1 _ cN),fun _=>⟨p,f2.2.1,e2,Nat.lt_of_lt_of_le e3 (Nat.le_of_eq r.only.1.symm),(fun h=>Bool.noConfusion h),fun _=>⟨f.1,cs,f.2.1,r.bI⟩⟩⟩ trivial trivial
         refine aj.aE (fun D v w9 hd I T=> ?_);obtain⟨B,jk,jn,J,or,Y,ja⟩:=I;have f:=T (19,some 74) (.head _) rfl;have f2:=T (20,some 11) (.tail _ (.head _)) rfl;obtain⟨p',e1,e2,e3,-,e5⟩:=ja f2.1;obtain rfl:p=p':=aj.bM ((show v 20 = Ek (some ⟨p,0,none⟩) from f2.2.1).symm.trans e1);obtain⟨-,cs',e6,op⟩:=e5 (hd 21 D8);obtain rfl:cs=cs':=Vc ((show v 19 = Ej cs from f.2.1).symm.trans e6);have hq:QF w9 cs (kA X) (rA X):=GQ.get f.2.2;have kp:=jk;have np:∀q,q<wr.heap.size->q≠p:=fun q hq=>by omega
         clear f f2 ja e1 e2 e5 e6 hd T jk;refine hQ _ _ ?_;clear hQ E Q' a9;have bf:=Cs w9 hq (bi.af kp) cZ.1 dc.1 D6 (by rw[ce,fl]) cZ.2 dc.2
         go_upto_region 16 with fail
         refine wp_region_lit ?_
         repeat' (first | (refine Zt rfl 83 (.tmp 11) rfl (p) rfl 83 cs _ op Tryz.underlying83 rfl (by rw[Z]; kernel_rfl) ?_) | (refine Zt rfl 83 (.tmp 6) rfl (g) rfl 83 CS _ Y Tryz.underlying83 rfl (by rw[f9]; kernel_rfl) ?_) | go_values | go_skip | go_guarded | go_step | go_upon)
         refine bf.mono ?_;rintro e w7 ⟨rfl,s7⟩;replace B:=zA B (Ep _) s7;replace J:=J.ae s7;replace or:=or.ae s7;replace Y:=Y.ae s7;replace op:=op.ae s7;replace hq:=hq.ae s7;replace bi:=(bi.af kp).ae s7;clear bf s7 kp
         cases hb:decide (jj X x<0)
         .
          dsimp only
          go_wp2
          go_roundw
          case rel=>exact⟨c+1,by omega,by go_num,zC,zC,zh,by rw[HX.out,E_ (of_decide_eq_false hb)]; exact⟨rfl,CS,Y,bi⟩⟩
          case measure=>simp[intOf]; omega
         .
          dsimp only
          go_wp2_with (first | (refine yg rfl 83 (.tmp 11) rfl (p) rfl 83 cs _ op Tryz.underlying83 rfl (by rw[Z]; kernel_rfl) ?_) | (refine zL rfl 83 (.tmp 6) (.tmp 82) rfl g cs rfl rfl 83 CS Y (by rw[Z]; kernel_rfl) (by rw[f9,Z]) b9 (fun w8 r8=> ?_)))
          go_roundw
          case rel=>exact⟨c+1,by omega,by go_num,r8.bc J D6,r8.bc or D6,r8.below B D6,by rw[HX.out,E9 (of_decide_eq_true hb)]; exact⟨rfl,cs,r8.bI,hq.af (r8.af ek)⟩⟩
          case measure=>simp[intOf]; omega
       .
        obtain rfl:c=4:=D6
        have HU:=E7 (Vb l K dd a4 b4)
        go_wp2
        go_roundw
        case rel=>exact⟨b+1,by omega,by go_num,zC,zC,zh,by rw[<- HU.out]; exact hF⟩
        case measure=>simp[intOf]; omega
     .
      have HU:=E7 ((J7 l K N a4 b4 (by rw[bl]; exact e0) 4 D6).symm.trans (Vb l K N a4 b4));have qd:(dd != N)=true:=by simpa using e0
      clear bl d9 cx;go_wp2_with fail
      refine aj.aJ (fun D v W=>zf wr W) (aj.inl [16]) (aj.gv [(16,fun z_=>z_ = Ey Ew dd)]) aj.aQ (fun _=>aj.Any) (fun _ _=>False) (aj.pl []) (aj.pl [])
       D7 D7 D7 (aj.aY _ (by intro p hp; simp only[List.mem_cons,List.not_mem_nil,or_false]at hp; rcases hp with rfl; exact⟨_,rfl⟩)) (fun _=>(Below.refl _ _).drew) (fun _ _ _ _ _ h=>h) (fun _ _ _ _ _ _ _ _ _ _ _ _ _=>aj.none_) (fun _ _ _ _ h=>h.elim) (fun a9 Q' E hQ=> ?_)
      repeat refine aj.aG _ ?_
      refine aj.bG E 27 ?_;refine aj.bG E 28 ?_;refine aj.bG E 29 ?_;apply aj.RP rfl rfl (by rw[E]; rfl) 30 rfl rfl
      .
       intro D v W hc I T K' H;have c0:Es W ⟨w.heap.size,a,none⟩=some (Ey Ew ia):=(J.ae I).c _ hA;go_step;exact H.out
      . rfl
      refine aj.bG E 31 ?_;apply aj.RP rfl rfl (by rw[E]; rfl) 32 rfl rfl
      .
       intro D v W hc I T K' H;have c0:Es W ⟨b0,o0+ia*2,none⟩=_:=((zA B (Ep _) I).cell (p:=⟨b0,o0+ia*2,none⟩) be).trans xa;have c1:Es W ⟨b0,o0+ia*2+1,none⟩=_:=((zA B (Ep _) I).cell (p:=⟨b0,o0+ia*2+1,none⟩) be).trans ya;go_step;exact H.out
      . rfl
      refine aj.bG E 33 ?_;refine aj.bG E 34 ?_;refine aj.bG E 35 ?_;apply aj.RP rfl rfl (by rw[E]; rfl) 36 rfl rfl
      .
       intro D v W hc I T K' H;have c0:Es W ⟨w.heap.size,b,none⟩=some (Ey Ew ib):=(J.ae I).c _ hB;go_step;exact H.out
      . rfl
      refine aj.bG E 37 ?_;apply aj.RP rfl rfl (by rw[E]; rfl) 38 rfl rfl
      .
       intro D v W hc I T K' H;have c0:Es W ⟨b0,o0+ib*2,none⟩=_:=((zA B (Ep _) I).cell (p:=⟨b0,o0+ib*2,none⟩) be).trans xb;have c1:Es W ⟨b0,o0+ib*2+1,none⟩=_:=((zA B (Ep _) I).cell (p:=⟨b0,o0+ib*2+1,none⟩) be).trans yb;go_step;exact H.out
      . rfl
      refine aj.aC rfl (ve rfl) (by rw[E]; rfl) (fun D v W hc I T K' H=> ?_) ?_
      .
       go_step;refine(ap _).mono ?_;rintro e W2 ⟨rfl,M⟩;exact H.out _ W2 aj.any (zA I (Ep _) M) aj.none_ rfl
      rintro _ rfl;refine aj.dX rfl ?_;refine aj.bG E 40 ?_;refine aj.bG E 41 ?_;refine aj.aG 42 ?_;refine aj.aE (fun D v w9 hd s9 T=> ?_);clear hd T;replace B:=zA B (Ep _) s9;replace J:=J.ae s9;replace or:=or.ae s9;replace hF:=hF.ae s9;clear s9;refine hQ _ _ ?_;clear hQ E Q' a9
      repeat' (first | go_values | go_skip | go_guarded | go_step | go_upon)
      go_wp2
      go_roundw
      case rel=>exact⟨b+1,by omega,by go_num,zC,zC,zh,by rw[<- HU.out]; exact hF⟩
      case measure=>simp[intOf]; omega
    .
     obtain rfl:b=4:=D6
     have HU:=E7 (Gu l K N a4)
     go_wp2
     go_roundw
     case rel=>exact⟨a+1,by omega,by go_num,zC,zC,zh,by rw[<- HU.out]; exact hF⟩
     case measure=>simp[intOf]; omega
  .
   obtain rfl:a=4:=D6
   rw[cn]at hF;obtain⟨rfl,cs,Y,hq⟩:=hF;have Z:=hq.1;have b9:=hq.2.1;have hi:(Tryz.prog.info? 83).map (·.size)=some cs.size:=by rw[Z]; kernel_rfl
   go_wp2_with (first | (refine yg rfl 83 (.tmp 6) rfl (g) rfl 83 cs _ Y Tryz.underlying83 rfl hi ?_) | (refine zL rfl 83 (.tmp 4) (.tmp 83) rfl (w.heap.size+1) cs rfl rfl 83 Zz zr hi Z.symm b9 (fun w8 r8=> ?_)))
   refine Eo (jW rfl _ _ (w.heap.size+1) rfl r8.bI Tryz.underlying83 rfl hi) rfl ?_;exact⟨cs,rfl,hq.af (r8.af rfl),r8.below zB D6⟩
open Go.RowKit
theorem QF.qn {w:Ef} {cs:Array Ei} {a:aU} (I:0<a.n) (h:QF w cs (kA a) (rA a)):QN w (Ej cs) a:=by
 obtain⟨J,-,E,H⟩:=h;obtain⟨l⟩:=cs;replace J:l.length=20:=by simpa using J
 match l,J with
 | [x0,x1,x2,x3,x4,x5,x6,x7,x8,x9,x10,x11,x12,x13,x14,x15,x16,x17,x18,x19],_=>
  obtain⟨a1,a2,a3,a4,a5,a6,a7,a8,p0,p1,p2,p3,Y⟩:=H 0 D6;obtain⟨b1,b2,b3,b4,b5,b6,b7,b8,p4,p5,p6,p7,X⟩:=H 1 D6;obtain⟨c1,c2,c3,c4,c5,c6,Z,c8,p8,p9,p10,p11,T⟩:=H 2 D6;obtain⟨d1,d2,d3,d4,d5,d6,d7,d8,p12,p13,p14,p15,M⟩:=H 3 D6;have k0:=E 0 D6;have k1:=E 1 D6;have k2:=E 2 D6;have k3:=E 3 D6;replace k0:some x0=some _:=k0
  injection k0 with k0
  replace k1:some x1=some _:=k1
  injection k1 with k1
  replace k2:some x2=some _:=k2
  injection k2 with k2
  replace k3:some x3=some _:=k3
  injection k3 with k3
  replace p0:some x4=some _:=p0
  injection p0 with p0
  replace p1:some x5=some _:=p1
  injection p1 with p1
  replace p2:some x6=some _:=p2
  injection p2 with p2
  replace p3:some x7=some _:=p3
  injection p3 with p3
  replace p4:some x8=some _:=p4
  injection p4 with p4
  replace p5:some x9=some _:=p5
  injection p5 with p5
  replace p6:some x10=some _:=p6
  injection p6 with p6
  replace p7:some x11=some _:=p7
  injection p7 with p7
  replace p8:some x12=some _:=p8
  injection p8 with p8
  replace p9:some x13=some _:=p9
  injection p9 with p9
  replace p10:some x14=some _:=p10
  injection p10 with p10
  replace p11:some x15=some _:=p11
  injection p11 with p11
  replace p12:some x16=some _:=p12
  injection p12 with p12
  replace p13:some x17=some _:=p13
  injection p13 with p13
  replace p14:some x18=some _:=p14
  injection p14 with p14
  replace p15:some x19=some _:=p15
  injection p15 with p15
  subst k0 k1 k2 k3 p0 p1 p2 p3 p4 p5 p6 p7 p8 p9 p10 p11 p12 p13 p14 p15;exact⟨_,_,_,_,_,_,_,_,_,_,_,_,_,_,_,_,rfl,Y.dL I,X.dL I,T.dL I,M.dL I⟩
end Go.Proofs.YtffmbepfbienaaaGreat
