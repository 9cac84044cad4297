import Derived.Test.YtffmbepfbienaaaGreatSMd
set_option linter.unusedVariables false
set_option linter.unusedSimpArgs false
set_option maxHeartbeats 6400000
set_option maxRecDepth 1000000
open Go.Value renaming slice->Ex,bool->Ez,int->Ey,agg->Ej,pointer->Ek
open Go.IntKind renaming i64->Ew
open Go.Ending renaming returned->Eh
open Go.Proofs.Tryz renaming prog->Ec
open Go renaming Calls->Ed,World->Ee,Value->Ef,TypeId->Ei,bodyPost_ret->En
open Nat renaming le_refl->Eo,lt_or_ge->Ep
namespace Go.Proofs.YtffmbepfbienaaaGreat
open Go.RowKit
variable {f9:Array Ef} {be br bt dc f7 er dz ek ua1 ua5 ub1 ub5 uc1 uc5:Bool} {A R:Int} {l:List Int} {cap g gc i b9 ce ah cg aX bh aY cU bi f8 d9 em co dl dk dx most n p q ua3 ua4 ua7 ua8 ub3 ub4 ub7 ub8 uc3 uc4 uc7 uc8:Nat} {out:Nat->Bool} {LA LB:Nat->Nat} {O:Nat->Option Rat} {ci cn bg cN dP ey ed dy ua2 ua6 ub2 ub6 uc2 uc6:Option Addr} {o:Option Rat} {m:PL} {a9 s x y:Rat} {t tc:Ei} {v va vb vl vm vp:Ef} {w w':Ee}
def DG (a b p q:Int×Int):Int×Option (Nat->Rat):=if ji a/\ji b/\ji p/\ji q then(if a=b then(18,none)else(0,some (jI a b p q)))else(8,none)
def cY (w:Ee) (v:Ef):Option (Nat->Rat)->Prop
 | some t=>bY w v t
 | none=>v = Ej H8
def yG {α : Type} (a b c d : α) (i:Nat) : α:=match i with | 0=>a | 1=>b | 2=>c | _=>d
def Yb (O:Nat->Option Rat) (LA LB:Nat->Nat) (n:Nat):Prop:=∀i,i<n->∀q,O i=some q->zi q.num<=bp (LA i)/\(q.den:Int)<=bp (LB i)
def FO (w:Ee) (v:Ef):Option Rat->Prop
 | some r=>FR w v r
 | none=>v = Ej jp
theorem FO.af (h:FO w v o) (k:av w w'):FO w' v o:=by
 cases o with
 | none=>exact h
 | some r=>exact FR.af h k
theorem Wj (h:jo most o p q=true):p<=most/\q<=most/\∃r,o=some r:=by
 unfold jo at h;simp only[Bool.and_eq_true,decide_eq_true_eq]at h;exact⟨h.1.1,h.1.2,Option.isSome_iff_exists.1 h.2⟩
theorem Jt : ∀{n:Nat},xQ most O LA LB n=true->∀i,i<n->jo most (O i) (LA i) (LB i)=true
 | n+1,h,i,hi=>by
  unfold xQ at h;simp only[Bool.and_eq_true]at h
  rcases Ep i n with g | g
  . exact Jt h.1 i g
  .
   obtain rfl:i=n:=D5
   exact h.2
theorem Ju {j:Nat} (h:i<=j):bp i<=bp j:=by
 unfold bp;exact Int.ofNat_le.2 (Nat.pow_le_pow_right D7 h)
theorem xm (h:xQ most O LA LB n=true) (f:Yb O LA LB n) (i:Nat) (E:i<n):∃r,O i=some r/\sz r most:=by
 obtain⟨I,H,r,e⟩:=Wj (Jt h i E);obtain⟨M,J⟩:=f i E r e;have p1:=Ju I;have p2:=Ju H;exact⟨r,e,by omega,by omega⟩
theorem CW (h:ai w g t #[Ez be,Ex ci b9 ce,Ez br,Ex cn ah cg,Ez bt,Ex bg aX bh,Ez dc,Ex cN aY cU,Ez f7,Ex dP bi f8,Ez er,Ex ey d9 em,Ez dz,Ex ed co dl,Ez ek,Ex dy dk dx]) (E:FB w (Ej #[Ez be,Ex ci b9 ce,Ez br,Ex cn ah cg]) (O 0)) (b1:FB w (Ej #[Ez bt,Ex bg aX bh,Ez dc,Ex cN aY cU]) (O 1)) (b2:FB w (Ej #[Ez f7,Ex dP bi f8,Ez er,Ex ey d9 em]) (O 2)) (b3:FB w (Ej #[Ez dz,Ex ed co dl,Ez ek,Ex dy dk dx]) (O 3)):Cq w (Ex (some ⟨g,0,none⟩) 4 4) 4 O (yG b9 aX bi co) (yG ah aY d9 dk):=by
 refine⟨g,0,4,rfl,Eo _,h.lt,fun i H=> ?_⟩;have:i=0\/i=1\/i=2\/i=3:=D5
 rcases this with rfl | rfl | rfl | rfl
 . exact⟨_,_,_,_,_,_,h.c 0 rfl,h.c 1 rfl,h.c 2 rfl,h.c 3 rfl,E⟩
 . exact⟨_,_,_,_,_,_,h.c 4 rfl,h.c 5 rfl,h.c 6 rfl,h.c 7 rfl,b1⟩
 . exact⟨_,_,_,_,_,_,h.c 8 rfl,h.c 9 rfl,h.c 10 rfl,h.c 11 rfl,b2⟩
 . exact⟨_,_,_,_,_,_,h.c 12 rfl,h.c 13 rfl,h.c 14 rfl,h.c 15 rfl,b3⟩
def Dt (O:Nat->Option Rat) (LA LB:Nat->Nat) (p:Int×Int):Bool:=xQ 16 O LA LB 4&&decide (ji p)
def Z5 (b:Bool):Int:=if b then 0 else 8
def Da (b:Bool) (r:Rat):Option Rat:=if b then some r else none
theorem CY (h:ai w g t #[Ez ua1,Ex ua2 ua3 ua4,Ez ua5,Ex ua6 ua7 ua8,Ez ub1,Ex ub2 ub3 ub4,Ez ub5,Ex ub6 ub7 ub8,Ez uc1,Ex uc2 uc3 uc4,Ez uc5,Ex uc6 uc7 uc8]) (E:FB w (Ej #[Ez ua1,Ex ua2 ua3 ua4,Ez ua5,Ex ua6 ua7 ua8]) (O 0)) (b1:FB w (Ej #[Ez ub1,Ex ub2 ub3 ub4,Ez ub5,Ex ub6 ub7 ub8]) (O 1)) (b2:FB w (Ej #[Ez uc1,Ex uc2 uc3 uc4,Ez uc5,Ex uc6 uc7 uc8]) (O 2)):Cq w (Ex (some ⟨g,0,none⟩) 3 3) 3 O (yG ua3 ub3 uc3 uc3) (yG ua7 ub7 uc7 uc7):=by
 refine⟨g,0,3,rfl,Eo _,h.lt,fun i H=> ?_⟩;have:i=0\/i=1\/i=2:=D5
 rcases this with rfl | rfl | rfl
 . exact⟨_,_,_,_,_,_,h.c 0 rfl,h.c 1 rfl,h.c 2 rfl,h.c 3 rfl,E⟩
 . exact⟨_,_,_,_,_,_,h.c 4 rfl,h.c 5 rfl,h.c 6 rfl,h.c 7 rfl,b1⟩
 . exact⟨_,_,_,_,_,_,h.c 8 rfl,h.c 9 rfl,h.c 10 rfl,h.c 11 rfl,b2⟩
def yq (O:Nat->Option Rat) (LA LB:Nat->Nat) (R A:Int) (neg:Bool):Bool:=
 xQ 2 O LA LB 3&&decide (1<=R/\R<=65536/\1<=A/\A<=17592186044416) && !neg&&decide (0<(O 1).getD 0/\(O 1).getD 0<1/\0<(O 2).getD 0)
theorem zJ {neg:Bool} : yq O LA LB R A neg=true↔xQ 2 O LA LB 3=true/\(1<=R/\R<=65536/\1<=A/\A<=17592186044416)/\neg=false/\0<(O 1).getD 0/\(O 1).getD 0<1/\0<(O 2).getD 0:=by
 unfold yq
 cases neg<;>simp[and_assoc]
theorem Cj : xQ most O LA LB 3=(jo most (O 0) (LA 0) (LB 0)&&jo most (O 1) (LA 1) (LB 1)&&jo most (O 2) (LA 2) (LB 2)):=by
 show (((true&&_)&&_)&&_)=_
 rw[Bool.true_and]
theorem XH:((0:Int):Rat)=0:=rfl
theorem ZP:sz (0:Rat) 2:=zX (x:=0) D7
theorem Hq:sz (1:Rat) 2:=cF
theorem Wk (w:Ee) (b0:FB w (Ej #[Ez ua1,Ex ua2 ua3 ua4,Ez ua5,Ex ua6 ua7 ua8]) (O 0)) (b1:FB w (Ej #[Ez ub1,Ex ub2 ub3 ub4,Ez ub5,Ex ub6 ub7 ub8]) (O 1)) (b2:FB w (Ej #[Ez uc1,Ex uc2 uc3 uc4,Ez uc5,Ex uc6 uc7 uc8]) (O 2)) (fw:Yb O (yG ua3 ub3 uc3 uc3) (yG ua7 ub7 uc7 uc7) 3) :
  Ed Ec 26 #[Ej #[Ez ua1,Ex ua2 ua3 ua4,Ez ua5,Ex ua6 ua7 ua8,Ey Ew R,Ey Ew A,Ez ub1,Ex ub2 ub3 ub4,Ez ub5,Ex ub6 ub7 ub8,Ez uc1,Ex uc2 uc3 uc4,Ez uc5,Ex uc6 uc7 uc8]] w fun e w'=>e = Eh (Ey Ew (Z5 (yq O (yG ua3 ub3 uc3 uc3) (yG ua7 ub7 uc7 uc7) R A ua1)))/\zf w w':=by
 obtain⟨K,hK⟩:∃k,yq O (yG ua3 ub3 uc3 uc3) (yG ua7 ub7 uc7 uc7) R A ua1=k:=⟨_,rfl⟩
 have KF:∀ (P:Prop),(yq O (yG ua3 ub3 uc3 uc3) (yG ua7 ub7 uc7 uc7) R A ua1=true->P)->¬P->K=false:=fun P h1 h2=>by
  cases hk:K with
  | false=>rfl
  | true=>exact absurd (h1 (hK.trans hk)) h2
 have KL:=fun(h:xQ 2 O (yG ua3 ub3 uc3 uc3) (yG ua7 ub7 uc7 uc7) 3=false)=>KF (xQ 2 O (yG ua3 ub3 uc3 uc3) (yG ua7 ub7 uc7 uc7) 3=true) (fun g=>(zJ.1 g).1) (by rw[h]; decide);have KR:=KF _ (fun g=>(zJ.1 g).2.1);have KN:=fun(h:ua1=true)=>KF (ua1=false) (fun g=>(zJ.1 g).2.2.1) (by rw[h]; decide);have K1:=fun(h:z8 ((O 1).getD 0) 0<=0)=>KF _ (fun g=>(zJ.1 g).2.2.2.1) (fun g=>absurd (qL.2 g) D5);have K2:=fun(h:¬z8 ((O 1).getD 0) 1<0)=>KF _ (fun g=>(zJ.1 g).2.2.2.2.1) (fun g=>h (aU.2 g));have K3:=fun(h:z8 ((O 2).getD 0) 0<=0)=>KF _ (fun g=>(zJ.1 g).2.2.2.2.2) (fun g=>absurd (qL.2 g) D5);have KT:xQ 2 O (yG ua3 ub3 uc3 uc3) (yG ua7 ub7 uc7 uc7) 3=true->(1<=R/\R<=65536/\1<=A/\A<=17592186044416)->ua1=false->¬z8 ((O 1).getD 0) 0<=0->z8 ((O 1).getD 0) 1<0->¬z8 ((O 2).getD 0) 0<=0->K=true:=fun h1 h2 h3 h4 h5 h6=>hK.symm.trans (zJ.2 ⟨h1,h2,h3,qL.1 D5,aU.1 h5,qL.1 D5⟩)
 have FQ:xQ 2 O (yG ua3 ub3 uc3 uc3) (yG ua7 ub7 uc7 uc7) 3=true->(∃r,O 1=some r/\(O 1).getD 0=r/\sz r 2)/\∃r,O 2=some r/\(O 2).getD 0=r/\sz r 2:=fun h=>by
  obtain⟨r1,e1,z1⟩:=xm h fw 1 D5;obtain⟨r2,e2,z2⟩:=xm h fw 2 D5;exact⟨⟨r1,e1,by rw[e1]; rfl,z1⟩,⟨r2,e2,by rw[e2]; rfl,z2⟩⟩
 have LM:∀w' g t,av w w'->ai w' g t #[Ez ua1,Ex ua2 ua3 ua4,Ez ua5,Ex ua6 ua7 ua8,Ez ub1,Ex ub2 ub3 ub4,Ez ub5,Ex ub6 ub7 ub8,Ez uc1,Ex uc2 uc3 uc4,Ez uc5,Ex uc6 uc7 uc8]->Ed Ec 41 #[Ey Ew 2,Ex (some ⟨g,0,none⟩) 3 3] w' fun e w2=>e = Eh (Ez (xQ 2 O (yG ua3 ub3 uc3 uc3) (yG ua7 ub7 uc7 uc7) 3))/\zf w' w2:=fun w' g t k hb=>UZ 2 w' (CY hb (b0.af k) (b1.af k) (b2.af k)) D5;have OF:∀x:Int,-9223372036854775808<=x->x<=9223372036854775807->∀w' g t,ai w' g t #[Ey Ew 0]->Ed Ec 66 #[Ek (some ⟨g,0,none⟩),Ey Ew x] w' fun e w2=>∃v,e = Eh v/\FR w2 v (x:Rat)/\zf w' w2:=fun x h0 h1 w' g t hb=>UW x w' hb h0 h1;have O0:=fun w' g t hb=>by have:=OF 0 D7 D7 w' g t hb; rw[XH]at this; exact this
 have O1:=fun w' g t hb=>by have:=OF 1 D7 D7 w' g t hb; rw[qW]at this; exact this
 clear OF;rw[hK];generalize hL:xQ 2 O (yG ua3 ub3 uc3 uc3) (yG ua7 ub7 uc7 uc7) 3=L at *
 cases ua1 with
 | true=>
  cases L with
  | false=>
   have Y:=KL rfl;subst Y;clear KF KL KR KN K1 K2 K3 KT FQ O0 O1 hK hL b0 b1 b2 fw
   go_enter Tryz.func26,Tryz.ntmps26
   have Z:=av.refl w;go_wp2_with fail
   refine(LM _ (w.heap.size+1) 28 (Z.trans zj) zw).mono ?_;rintro e w1 ⟨rfl,gH⟩;have st:zf _ w1:=gH;have B:=bA w st;have kp:=kB w st;replace Z:=Z.trans kp;have X:ai w1 w.heap.size 45 #[Ez true,Ex ua2 ua3 ua4,Ez ua5,Ex ua6 ua7 ua8,Ey Ew R,Ey Ew A,Ez ub1,Ex ub2 ub3 ub4,Ez ub5,Ex ub6 ub7 ub8,Ez uc1,Ex uc2 uc3 uc4,Ez uc5,Ex uc6 uc7 uc8]:=ai.au st;clear kp;clear st;go_wp2_with fail
   refine En (by simp[results,Tryz.results26,go_sem,]; rfl) rfl ?_;exact⟨rfl,zh⟩
  | true=>
   go_enter Tryz.func26,Tryz.ntmps26
   have Z:=av.refl w;obtain⟨⟨r1,e1,q1,z1⟩,r2,e2,q2,z2⟩:=FQ rfl;rw[e1]at b1;rw[e2]at b2;rw[q1]at K1 K2 KT;rw[q2]at K3 KT;have F1:Hid (FR w (Ej #[Ez ub1,Ex ub2 ub3 ub4,Ez ub5,Ex ub6 ub7 ub8]) r1):=E6 b1;have F2:Hid (FR w (Ej #[Ez uc1,Ex uc2 uc3 uc4,Ez uc5,Ex uc6 uc7 uc8]) r2):=E6 b2;obtain⟨c1,gC⟩:∃c,z8 r1 0=c:=⟨_,rfl⟩;obtain⟨c2,gF⟩:∃c,z8 r1 1=c:=⟨_,rfl⟩;obtain⟨c3,gE⟩:∃c,z8 r2 0=c:=⟨_,rfl⟩;rw[gC]at K1 KT;rw[gF]at K2 KT;rw[gE]at K3 KT;have M:∀ (w':Ee) (g:Nat) (t:Ei) (u v:Ef),ai w' g t #[Ey Ew 0]->FR w' u r1->FR w' v 0->Ed Ec 67 #[Ek (some ⟨g,0,none⟩),u,v] w' fun e w2=>e = Eh (Ey Ew c1)/\zf w' w2:=fun w' g t u v hb h1 h2=>by have:=xL w' hb h1 h2 z1 ZP D5; rw[gC]at this; exact this
   have N:∀ (w':Ee) (g:Nat) (t:Ei) (u v:Ef),ai w' g t #[Ey Ew 0]->FR w' u r1->FR w' v 1->Ed Ec 67 #[Ek (some ⟨g,0,none⟩),u,v] w' fun e w2=>e = Eh (Ey Ew c2)/\zf w' w2:=fun w' g t u v hb h1 h2=>by have:=xL w' hb h1 h2 z1 Hq D5; rw[gF]at this; exact this
   have T:∀ (w':Ee) (g:Nat) (t:Ei) (u v:Ef),ai w' g t #[Ey Ew 0]->FR w' u r2->FR w' v 0->Ed Ec 67 #[Ek (some ⟨g,0,none⟩),u,v] w' fun e w2=>e = Eh (Ey Ew c3)/\zf w' w2:=fun w' g t u v hb h1 h2=>by have:=xL w' hb h1 h2 z2 ZP D5; rw[gE]at this; exact this
   clear gC gF gE;have bl:=KT rfl;clear KF KL KT FQ hK hL e1 e2 q1 q2 fw b0 b1 b2;go_wp2_with fail
   refine(LM _ (w.heap.size+1) 28 (Z.trans zj) zw).mono ?_;rintro e w1 ⟨rfl,gH⟩;have st:zf _ w1:=gH;have B:=bA w st;have kp:=kB w st;replace Z:=Z.trans kp;have X:ai w1 w.heap.size 45 #[Ez true,Ex ua2 ua3 ua4,Ez ua5,Ex ua6 ua7 ua8,Ey Ew R,Ey Ew A,Ez ub1,Ex ub2 ub3 ub4,Ez ub5,Ex ub6 ub7 ub8,Ez uc1,Ex uc2 uc3 uc4,Ez uc5,Ex uc6 uc7 uc8]:=ai.au st;replace F1:=E6 (F1.out.af kp);replace F2:=E6 (F2.out.af kp);clear kp;clear st;obtain⟨g8,gz,gt,eM,gd,fe,g9,ft,eW,fd,I,J,E,H⟩:=X.dN;have lu:=X.lt;clear LM
   rcases(show R<1\/(¬R<1/\65536<R)\/(¬R<1/\¬65536<R/\A<1)\/(¬R<1/\¬65536<R/\¬A<1/\17592186044416<A)\/(¬R<1/\¬65536<R/\¬A<1/\¬17592186044416<A) by omega)with g1 | ⟨g1,g2⟩ | ⟨g1,g2,g3⟩ | ⟨g1,g2,g3,g4⟩ | ⟨g1,g2,g3,g4⟩
   .
    have Y:=KR D5;subst Y;clear KR KN K1 K2 K3 bl O0 O1 M N T
    go_wp2
    go_returns
    exact⟨rfl,zh⟩
   .
    have Y:=KR D5;subst Y;clear KR KN K1 K2 K3 bl O0 O1 M N T
    go_wp2
    go_returns
    exact⟨rfl,zh⟩
   .
    have Y:=KR D5;subst Y;clear KR KN K1 K2 K3 bl O0 O1 M N T
    go_wp2
    go_returns
    exact⟨rfl,zh⟩
   .
    have Y:=KR D5;subst Y;clear KR KN K1 K2 K3 bl O0 O1 M N T
    go_wp2
    go_returns
    exact⟨rfl,zh⟩
   .
    have gD:=bl ⟨by omega,by omega,by omega,by omega⟩;clear bl KR;have gM:w.heap.size<w1.heap.size:=X.lt;have gW:=B.size;go_wp2_with fail
    refine(O0 _ w1.heap.size 89 zw).mono ?_;rintro e w2 ⟨gY,rfl,fl,gZ⟩;have st:zf _ w2:=gZ;have sk:=bA w1 st;replace B:=bS B sk;have cx:ai w2 w1.heap.size 89 #[Ey Ew 0]:=ai.au st;replace X:=X.ae sk;replace F1:=E6 (F1.out.ae sk);replace F2:=E6 (F2.out.ae sk);replace Z:=Z.aJ sk;clear st sk g8 gz gt eM gd fe g9 ft eW fd I J E H lu;obtain⟨be,ci,b9,ce,br,cn,ah,cg,rfl⟩:=fl.ak;have cy:=E6 fl;clear fl;go_wp2_with fail
    refine(O1 _ w1.heap.size 89 zw).mono ?_;rintro e w3 ⟨gX,rfl,gn,h9⟩;have st:zf _ w3:=h9;have sk:=bA w2 st;replace B:=bS B sk;replace X:=X.ae sk;replace cx:=cx.ae sk;replace F1:=E6 (F1.out.ae sk);replace F2:=E6 (F2.out.ae sk);replace cy:=E6 (cy.out.ae sk);replace Z:=Z.aJ sk;clear st sk;obtain⟨g8,gz,gt,eM,gd,fe,g9,ft,eW,fd,I,J,E,H⟩:=X.dN;have lu:=X.lt;obtain⟨bt,bg,aX,bh,dc,cN,aY,cU,rfl⟩:=gn.ak;have gA:=E6 gn;clear gn;have gK:w1.heap.size<w3.heap.size:=cx.lt;have hE:=B.size
    skip
    have Y:=KN D8;subst Y;clear KN K1 K2 K3 gD O0 O1 M N T;go_wp2_with fail
    refine En (by simp[results,Tryz.results26,go_sem,g8,gz,gt,eM,gd,fe,g9,ft,eW,fd,I,J,E,H,lu]; rfl) rfl ?_;exact⟨rfl,zh⟩
 | false=>
  cases L with
  | false=>
   have Y:=KL rfl;subst Y;clear KF KL KR KN K1 K2 K3 KT FQ O0 O1 hK hL b0 b1 b2 fw
   go_enter Tryz.func26,Tryz.ntmps26
   have Z:=av.refl w;go_wp2_with fail
   refine(LM _ (w.heap.size+1) 28 (Z.trans zj) zw).mono ?_;rintro e w1 ⟨rfl,gH⟩;have st:zf _ w1:=gH;have B:=bA w st;have kp:=kB w st;replace Z:=Z.trans kp;have X:ai w1 w.heap.size 45 #[Ez false,Ex ua2 ua3 ua4,Ez ua5,Ex ua6 ua7 ua8,Ey Ew R,Ey Ew A,Ez ub1,Ex ub2 ub3 ub4,Ez ub5,Ex ub6 ub7 ub8,Ez uc1,Ex uc2 uc3 uc4,Ez uc5,Ex uc6 uc7 uc8]:=ai.au st;clear kp;clear st;go_wp2_with fail
   refine En (by simp[results,Tryz.results26,go_sem,]; rfl) rfl ?_;exact⟨rfl,zh⟩
  | true=>
   go_enter Tryz.func26,Tryz.ntmps26
   have Z:=av.refl w;obtain⟨⟨r1,e1,q1,z1⟩,r2,e2,q2,z2⟩:=FQ rfl;rw[e1]at b1;rw[e2]at b2;rw[q1]at K1 K2 KT;rw[q2]at K3 KT;have F1:Hid (FR w (Ej #[Ez ub1,Ex ub2 ub3 ub4,Ez ub5,Ex ub6 ub7 ub8]) r1):=E6 b1;have F2:Hid (FR w (Ej #[Ez uc1,Ex uc2 uc3 uc4,Ez uc5,Ex uc6 uc7 uc8]) r2):=E6 b2;obtain⟨c1,gC⟩:∃c,z8 r1 0=c:=⟨_,rfl⟩;obtain⟨c2,gF⟩:∃c,z8 r1 1=c:=⟨_,rfl⟩;obtain⟨c3,gE⟩:∃c,z8 r2 0=c:=⟨_,rfl⟩;rw[gC]at K1 KT;rw[gF]at K2 KT;rw[gE]at K3 KT;have M:∀ (w':Ee) (g:Nat) (t:Ei) (u v:Ef),ai w' g t #[Ey Ew 0]->FR w' u r1->FR w' v 0->Ed Ec 67 #[Ek (some ⟨g,0,none⟩),u,v] w' fun e w2=>e = Eh (Ey Ew c1)/\zf w' w2:=fun w' g t u v hb h1 h2=>by have:=xL w' hb h1 h2 z1 ZP D5; rw[gC]at this; exact this
   have N:∀ (w':Ee) (g:Nat) (t:Ei) (u v:Ef),ai w' g t #[Ey Ew 0]->FR w' u r1->FR w' v 1->Ed Ec 67 #[Ek (some ⟨g,0,none⟩),u,v] w' fun e w2=>e = Eh (Ey Ew c2)/\zf w' w2:=fun w' g t u v hb h1 h2=>by have:=xL w' hb h1 h2 z1 Hq D5; rw[gF]at this; exact this
   have T:∀ (w':Ee) (g:Nat) (t:Ei) (u v:Ef),ai w' g t #[Ey Ew 0]->FR w' u r2->FR w' v 0->Ed Ec 67 #[Ek (some ⟨g,0,none⟩),u,v] w' fun e w2=>e = Eh (Ey Ew c3)/\zf w' w2:=fun w' g t u v hb h1 h2=>by have:=xL w' hb h1 h2 z2 ZP D5; rw[gE]at this; exact this
   clear gC gF gE;have bl:=KT rfl;clear KF KL KT FQ hK hL e1 e2 q1 q2 fw b0 b1 b2;go_wp2_with fail
   refine(LM _ (w.heap.size+1) 28 (Z.trans zj) zw).mono ?_;rintro e w1 ⟨rfl,st⟩;have B:=bA w st;have kp:=kB w st;replace Z:=Z.trans kp;have X:ai w1 w.heap.size 45 #[Ez false,Ex ua2 ua3 ua4,Ez ua5,Ex ua6 ua7 ua8,Ey Ew R,Ey Ew A,Ez ub1,Ex ub2 ub3 ub4,Ez ub5,Ex ub6 ub7 ub8,Ez uc1,Ex uc2 uc3 uc4,Ez uc5,Ex uc6 uc7 uc8]:=ai.au st;replace F1:=E6 (F1.out.af kp);replace F2:=E6 (F2.out.af kp);clear kp;clear st;obtain⟨g8,gz,gt,eM,gd,fe,g9,ft,eW,fd,I,J,E,H⟩:=X.dN;have lu:=X.lt;clear LM
   rcases(show R<1\/(¬R<1/\65536<R)\/(¬R<1/\¬65536<R/\A<1)\/(¬R<1/\¬65536<R/\¬A<1/\17592186044416<A)\/(¬R<1/\¬65536<R/\¬A<1/\¬17592186044416<A) by omega)with g1 | ⟨g1,g2⟩ | ⟨g1,g2,g3⟩ | ⟨g1,g2,g3,g4⟩ | ⟨g1,g2,g3,g4⟩
   .
    have Y:=KR D5;subst Y;clear KR KN K1 K2 K3 bl O0 O1 M N T
    go_wp2
    go_returns
    exact⟨rfl,zh⟩
   .
    have Y:=KR D5;subst Y;clear KR KN K1 K2 K3 bl O0 O1 M N T
    go_wp2
    go_returns
    exact⟨rfl,zh⟩
   .
    have Y:=KR D5;subst Y;clear KR KN K1 K2 K3 bl O0 O1 M N T
    go_wp2
    go_returns
    exact⟨rfl,zh⟩
   .
    have Y:=KR D5;subst Y;clear KR KN K1 K2 K3 bl O0 O1 M N T
    go_wp2
    go_returns
    exact⟨rfl,zh⟩
   .
    have gD:=bl ⟨by omega,by omega,by omega,by omega⟩;clear bl KR;have gM:w.heap.size<w1.heap.size:=X.lt;have gW:=B.size;go_wp2_with fail
    refine(O0 _ w1.heap.size 89 zw).mono ?_;rintro e w2 ⟨gY,rfl,fl,st⟩;have sk:=bA w1 st;replace B:=bS B sk;have cx:ai w2 w1.heap.size 89 #[Ey Ew 0]:=ai.au st;replace X:=X.ae sk;replace F1:=E6 (F1.out.ae sk);replace F2:=E6 (F2.out.ae sk);replace Z:=Z.aJ sk;clear st sk g8 gz gt eM gd fe g9 ft eW fd I J E H lu;obtain⟨be,ci,b9,ce,br,cn,ah,cg,rfl⟩:=fl.ak;have cy:=E6 fl;clear fl;go_wp2_with fail
    refine(O1 _ w1.heap.size 89 zw).mono ?_;rintro e w3 ⟨gX,rfl,gn,st⟩;have sk:=bA w2 st;replace B:=bS B sk;replace X:=X.ae sk;replace cx:=cx.ae sk;replace F1:=E6 (F1.out.ae sk);replace F2:=E6 (F2.out.ae sk);replace cy:=E6 (cy.out.ae sk);replace Z:=Z.aJ sk;clear st sk;obtain⟨g8,gz,gt,eM,gd,fe,g9,ft,eW,fd,I,J,E,H⟩:=X.dN;have lu:=X.lt;obtain⟨bt,bg,aX,bh,dc,cN,aY,cU,rfl⟩:=gn.ak;have gA:=E6 gn;clear gn;have gK:w1.heap.size<w3.heap.size:=cx.lt;have hE:=B.size;clear O0 O1 KN;go_wp2_with fail
    refine(M _ w1.heap.size 89 _ _ zw (F1.out.af zj) (cy.out.af zj)).mono ?_;rintro e w4 ⟨rfl,st⟩;have sk:=bA w3 st;replace B:=bS B sk;have gG:ai w4 w3.heap.size 28 #[Ez be,Ex ci b9 ce,Ez br,Ex cn ah cg]:=ai.au st;have gB:ai w4 (w3.heap.size+1) 28 #[Ez bt,Ex bg aX bh,Ez dc,Ex cN aY cU]:=ai.au st;replace X:=X.ae sk;replace cx:=cx.ae sk;replace F1:=E6 (F1.out.ae sk);replace F2:=E6 (F2.out.ae sk);replace cy:=E6 (cy.out.ae sk);replace gA:=E6 (gA.out.ae sk);replace Z:=Z.aJ sk;clear st sk g8 gz gt eM gd fe g9 ft eW fd I J E H lu;obtain⟨g8,gz,gt,eM,gd,fe,g9,ft,eW,fd,I,J,E,H⟩:=X.dN;have lu:=X.lt;have gJ:=gG.lt;obtain⟨gN,gR,gL,gV⟩:=gB.r3;have gI:=gB.lt
    by_cases h1:c1<=0
    .
     have Y:=K1 D5;subst Y;clear K1 K2 K3 gD M N T
     go_wp2
     go_returns
     exact⟨rfl,zh⟩
    .
     go_wp2_with fail
     refine(N _ w1.heap.size 89 _ _ zw (F1.out.af zj) (gA.out.af zj)).mono ?_;rintro e w5 ⟨rfl,st⟩;have sk:=bA w4 st;replace B:=bS B sk;replace X:=X.ae sk;replace cx:=cx.ae sk;replace gG:=gG.ae sk;replace gB:=gB.ae sk;replace F1:=E6 (F1.out.ae sk);replace F2:=E6 (F2.out.ae sk);replace cy:=E6 (cy.out.ae sk);replace gA:=E6 (gA.out.ae sk);replace Z:=Z.aJ sk;clear st sk g8 gz gt eM gd fe g9 ft eW fd I J E H lu gJ gN gR gL gV gI;obtain⟨g8,gz,gt,eM,gd,fe,g9,ft,eW,fd,I,J,E,H⟩:=X.dN;have lu:=X.lt;obtain⟨gO,gQ,gT,gP⟩:=gG.r3;have gJ:=gG.lt;have gI:=gB.lt
     by_cases h2:¬c2<0
     .
      have Y:=K2 D5;subst Y;clear K1 K2 K3 gD M N T
      go_wp2
      go_returns
      exact⟨rfl,zh⟩
     .
      have i5:c2<0:=D5
      go_wp2_with fail
      refine(T _ w1.heap.size 89 _ _ zw (F2.out.af zj) (cy.out.af zj)).mono ?_;rintro e w6 ⟨rfl,st⟩;have sk:=bA w5 st;replace B:=bS B sk;replace X:=X.ae sk;replace cx:=cx.ae sk;replace gG:=gG.ae sk;replace gB:=gB.ae sk;replace F1:=E6 (F1.out.ae sk);replace F2:=E6 (F2.out.ae sk);replace cy:=E6 (cy.out.ae sk);replace gA:=E6 (gA.out.ae sk);replace Z:=Z.aJ sk;clear st sk g8 gz gt eM gd fe g9 ft eW fd I J E H lu gO gQ gT gP gJ gI
      by_cases h3:c3<=0
      .
       have Y:=K3 D5;subst Y;clear K1 K2 K3 gD M N T
       go_wp2
       go_returns
       exact⟨rfl,zh⟩
      .
       have Y:=gD D8 D5 D5 D5;subst Y;clear K1 K2 K3 gD M N T;go_wp2_with fail
       refine En (by simp[results,Tryz.results26,go_sem,]; rfl) rfl ?_;exact⟨rfl,zh⟩
theorem aM.fv {ao:Option Addr} (h:aM w (Ex ao n cap) l) {t:Nat} (ht:t<l.length):∃b o,ao=some ⟨b,o,none⟩/\b<w.heap.size/\w.cell? ⟨b,o+t,none⟩=some (Ey Ew (l.getD t 0)):=by
 obtain⟨I,E,e,_,H⟩:=h
 injection e with M N T
 subst M;obtain⟨b,o,e,J,hc⟩:=H (fun e=>by rw[e]at ht; cases ht);exact⟨b,o,e,J,hc t ht⟩
def qz (l:List Int) (x:Int):Nat->Bool
 | 0=>false
 | t+1=>qz l x t||(x==l.getD t 0)
theorem Ua {x:Int} (h:qz l x i=true):∀m,i<=m->qz l x m=true:=by
 intro m E
 induction m with
 | zero=>
      obtain rfl:i=0:=D5
      exact h
 | succ m ih=>
  rcases Ep m i with g | g
  .
   obtain rfl:i=m+1:=D5
   exact h
  . unfold qz; rw[ih g]; rfl
theorem Hr (x:Int) (w:Ee) (h:aM w v l) (hl:l.length<=100000) :
  Ed Ec 130 #[v,Ey Ew x] w fun e w'=>∃i,e = Eh (Ey Ew i)/\decide (0<=i)=qz l x l.length/\zf w w':=by
 obtain⟨ao,cap,rfl⟩:=h.ak;have X:=E6 h;obtain⟨n,J⟩:∃n,l.length=n:=⟨_,rfl⟩;have HL:=E6 J;rw[J]at X hl|-;clear h J
 go_enter Tryz.func130,Tryz.ntmps130
 go_wp2_with fail
 go_loopw [8] (fun I wr=>∃t:Nat,t<=n/\I = Ey Ew t/\qz l x t=false/\Below w.heap.size w wr) (fun I _=>n-(intOf I).toNat)
 case atStart=>exact⟨0,by omega,rfl,rfl,zh⟩
 case round=>
  obtain⟨t,ht,rfl,hw,B⟩:=hrel
  rcases Ep t n with tn | tn
  .
   have bl:decide ((t:Int)<(n:Int))=true:=E_ D5;obtain⟨b,of,rfl,M,h0⟩:=X.out.fv (t:=t) (by have:=HL.out; omega);have Z:wr.cell? ⟨b,of+t,none⟩=some (Ey Ew (l.getD t 0)):=(B.cell (p:=⟨b,_,none⟩) M).trans h0;have E:(x==l.getD t 0)=true->qz l x n=true:=fun e=>Ua (i:=t+1) (by unfold qz; rw[e,Bool.or_true]) n D5;have H:(x==l.getD t 0)=false->qz l x (t+1)=false:=fun e=>by unfold qz; rw[hw,e]; rfl
   obtain⟨y,T⟩:∃y,l.getD t 0=y:=⟨_,rfl⟩;rw[T]at Z E H;clear h0 T
   cases hxy:(x==y)with
   | true=>
    have Y:=E hxy;clear E H
    go_wp2
    go_returns
    exact⟨_,rfl,by rw[Y]; simp,B⟩
   | false=>
    have N:=H hxy;clear E H
    go_wp2
    go_roundw
    case rel=>exact⟨t+1,by omega,by go_num,N,B⟩
    case measure=>simp[intOf]; omega
  .
   obtain rfl:t=n:=D5
   go_wp2
   go_returns
   exact⟨_,rfl,by rw[hw]; rfl,B⟩
theorem Ub (x:Int) (w:Ee) (h:aM w v l) (H:l.length<=100000) :
  Ed Ec 91 #[v,Ey Ew x] w fun e w'=>e = Eh (Ez (qz l x l.length))/\zf w w':=by
 have ix:=Hr x w h H;obtain⟨ao,cap,rfl⟩:=h.ak;clear h H;generalize qz l x l.length=L at *
 go_enter Tryz.func91,Tryz.ntmps91
 go_wp2_with fail
 refine ix.mono ?_;rintro e M ⟨i,rfl,E,I⟩;clear ix
 cases L with
 | true=>
  have J:0<=i:=by simpa using E
  go_wp2
  go_returns
  exact⟨rfl,I⟩
 | false=>
  have J:¬0<=i:=by simpa using E
  go_wp2
  go_returns
  exact⟨rfl,I⟩
def Du (l:List Int) (n:Int):Nat->Bool
 | 0=>true
 | t+1=>Du l n t&&decide (-1<=l.getD t 0/\l.getD t 0<n)
theorem Zy {w:Rat} (hw:sz w 20) (E:sz s 20) (l:List Int) (out:Nat->Bool):∀n,sz (qr w s l out n) (20*n+2)
 | 0=>cF
 | n+1=>by
  unfold qr;have h:=Zy hw E l out n
  split
  . exact h.mono D5
  .
   split
   . exact(h.mul hw).mono D5
   . exact(h.mul E).mono D5
theorem Jv {w:Rat} (h:out i=true):qr w s l out (i+1)=qr w s l out i:=by
 show (if out i=true then _ else _)=_
 rw[E8 h]
theorem XI {w:Rat} (h:out i=false) (E:0<=l.getD i 0):qr w s l out (i+1)=qr w s l out i*w:=by
 show (if out i=true then _ else _)=_
 rw[E9 (by rw[h]; decide),E8 E]
theorem XJ {w:Rat} (h:out i=false) (E:¬0<=l.getD i 0):qr w s l out (i+1)=qr w s l out i*s:=by
 show (if out i=true then _ else _)=_
 rw[E9 (by rw[h]; decide),E9 E]
theorem kX {h:Rat} (H:sz s 2) (E:sz h 2) (h0:h≠0):sz (yV s h) 20:=by
 unfold yV;exact((((cF.sub H).add (H.mul E)).div E h0).mono D5)
theorem Ck {n:Int} {vo:Ef} {lo:List Int} (w:Ee) (hc:ai w gc tc #[Ey Ew 0]) (ik:FR w (Ej #[Ez ub1,Ex ub2 ub3 ub4,Ez ub5,Ex ub6 ub7 ub8]) s) (ss:sz s 2) (r0:1<=R) (r1:R<=65536) (a0:1<=A) (a1:A<=17592186044416) (n2:1<=n) (n1:n<=200) (hl:aM w vp l) (ho:aM w vo lo) (l0:l.length<=200) (l1:lo.length<=100000) :
  Ed Ec 51 #[Ek (some ⟨gc,0,none⟩),Ej #[Ez ua1,Ex ua2 ua3 ua4,Ez ua5,Ex ua6 ua7 ua8,Ey Ew R,Ey Ew A,Ez ub1,Ex ub2 ub3 ub4,Ez ub5,Ex ub6 ub7 ub8,Ez uc1,Ex uc2 uc3 uc4,Ez uc5,Ex uc6 uc7 uc8],vp,Ey Ew n,vo] w fun e w'=>∃v,e = Eh v/\FR w' v (qr (yV s (zC R A n)) s l (fun i=>qz lo i lo.length) l.length)/\zf w w':=by
 have sc:=(xq r0 r1 a0 a1 (show 0<=n by omega) n1).1;have hp:=qg r0 a0 n2;have gZ:zC R A n≠0:=Rat.ne_of_gt hp;have sw:=kX ss sc gZ;have KC:∀w',Below w.heap.size w w'->ai w' gc tc #[Ey Ew 0]:=fun w' s=>hc.ae s;have CH:=fun(w':Ee) (s:Below w.heap.size w w')=>Qb (ua1:=ua1) (ua2:=ua2) (ua3:=ua3) (ua4:=ua4) (ua5:=ua5) (ua6:=ua6) (ua7:=ua7) (ua8:=ua8) (ub1:=ub1) (ub2:=ub2) (ub3:=ub3) (ub4:=ub4) (ub5:=ub5) (ub6:=ub6) (ub7:=ub7) (ub8:=ub8) (uc1:=uc1) (uc2:=uc2) (uc3:=uc3) (uc4:=uc4) (uc5:=uc5) (uc6:=uc6) (uc7:=uc7) (uc8:=uc8) R A n w' (KC w' s) r0 r1 a0 a1 D5 n1;have O1:∀w',Below w.heap.size w w'->Ed Ec 66 #[Ek (some ⟨gc,0,none⟩),Ey Ew 1] w' fun e w2=>∃v,e = Eh v/\FR w2 v (1:Rat)/\zf w' w2:=fun w' s=>by have:=UW 1 w' (KC w' s) D7 D7; rw[qW]at this; exact this
 have s1:sz (1:Rat) 2:=cF;have CT:=fun(w':Ee) (s:zf w w') (x:Int)=>Ub x w' (ho.ae s) l1;have OS:=fun k=>Zy (w:=yV s (zC R A n)) (s:=s) sw (ss.mono D5) l (fun i=>qz lo i lo.length) k;have OO:=fun k=>Jv (w:=yV s (zC R A n)) (s:=s) (l:=l) (out:=fun i=>qz lo i lo.length) (i:=k);have OW:=fun k=>XI (w:=yV s (zC R A n)) (s:=s) (l:=l) (out:=fun i=>qz lo i lo.length) (i:=k);have OL:=fun k=>XJ (w:=yV s (zC R A n)) (s:=s) (l:=l) (out:=fun i=>qz lo i lo.length) (i:=k);have OZ:qr (yV s (zC R A n)) s l (fun i=>qz lo i lo.length) 0=1:=rfl;have eW:yV s (zC R A n)=(1-s+s*zC R A n) / zC R A n:=rfl;generalize hOF:qr (yV s (zC R A n)) s l (fun i=>qz lo i lo.length)=OF at *
 (try dsimp only at OO OW OL)
 generalize hWQ:yV s (zC R A n)=wq at *;generalize decide (zC R A n<1)=bl at *;generalize zC R A n=q at *;have Fb:=E6 ik;obtain⟨ao,cap,rfl⟩:=hl.ak;obtain⟨iR,iN,rfl⟩:=ho.ak;have HP:=E6 hl;obtain⟨N,hN⟩:∃m,l.length=m:=⟨_,rfl⟩;have HL:=E6 hN;rw[hN]at HP l0|-;clear r0 r1 a0 a1 n2 n1 hp ik hl ho hc hOF hWQ hN
 go_enter Tryz.func51,Tryz.ntmps51
 go_wp2_with (first
  | (
    (with_reducible show wpList _ _ _ (⟨some 19,_,_,_,_,_⟩::_) _ _)
    refine zO rfl 45 (.tmp 6) rfl w.heap.size rfl 45 #[Ez ua1,Ex ua2 ua3 ua4,Ez ua5,Ex ua6 ua7 ua8,Ey Ew R,Ey Ew A,Ez ub1,Ex ub2 ub3 ub4,Ez ub5,Ex ub6 ub7 ub8,Ez uc1,Ex uc2 uc3 uc4,Ez uc5,Ex uc6 uc7 uc8] _ zw Tryz.underlying45 rfl D6 ?_
    skip)
  )
 refine(CH _ zh).mono ?_;rintro e w1 ⟨ki,rfl,g8,st⟩;have B:=bA w st;have kp:=kB w st;have ou:ai w1 w.heap.size 45 #[Ez ua1,Ex ua2 ua3 ua4,Ez ua5,Ex ua6 ua7 ua8,Ey Ew R,Ey Ew A,Ez ub1,Ex ub2 ub3 ub4,Ez ub5,Ex ub6 ub7 ub8,Ez uc1,Ex uc2 uc3 uc4,Ez uc5,Ex uc6 uc7 uc8]:=ai.au st;have or:ai w1 (w.heap.size+1) 28 jp:=ai.au st;replace Fb:=E6 (Fb.out.af kp);clear kp;clear st;obtain⟨gD,gH,gG,gt,gF,gB,gE,gC,gz,gA,fl,ft,fd,fe⟩:=ou.dN;have lu:=ou.lt;have lr:=or.lt;obtain⟨gX,i6,gW,ir,im,ij,iu,iq,rfl⟩:=g8.ak;have H:=E6 g8;clear g8;have iO:w.heap.size+1<w1.heap.size:=or.lt;have iZ:=B.size;go_wp2_with fail
 go_upto_region 2 with fail
 refine aj.cC w w1 [.o w.heap.size 45 #[Ez ua1,Ex ua2 ua3 ua4,Ez ua5,Ex ua6 ua7 ua8,Ey Ew R,Ey Ew A,Ez ub1,Ex ub2 ub3 ub4,Ez ub5,Ex ub6 ub7 ub8,Ez uc1,Ex uc2 uc3 uc4,Ez uc5,Ex uc6 uc7 uc8],.o (w.heap.size+1) 28 #[Ez false,Ex none 0 0,Ez false,Ex none 0 0],.o w1.heap.size 28 #[Ez gX,Ex i6 gW ir,Ez im,Ex ij iu iq],.n 19 28 #[Ez false,Ex none 0 0,Ez false,Ex none 0 0] 20 [18] aj.v1] [4,7,12,13,15,18,19,20] [(4,ym),(7,ym),(12,ym),(13,ym),(15,UJ 0),(18,ym),(19,xI)] [(4,bc (1)),(7,bc ((1-s))),(12,bc ((s*q))),(13,bc (((1-s)+(s*q)))),(15,cZ ((((1-s)+(s*q)) / q)) 0),(18,bc ((((1-s)+(s*q)) / q)))] [(7,[(4,some 28)]),(13,[(7,some 31),(12,some 36)]),(15,[(13,some 37)]),(18,[(15,some 39)]),(20,[(18,some 42),(19,some 13)]),(21,[(4,some 28),(7,some 31),(12,some 36),(13,some 37),(15,some 39),(18,some 42),(19,some 13)])] [(19,[20]),(18,[20])] (by simp only[aP]; exact⟨zh,zj,zw,zw,zw,trivial⟩) (fun N0 iz i8 Q' E hQ=> ?_);clear gD gH gG gt gF gB gE gC gz gA fl ft fd fe lu lr;clear iz
 repeat refine aj.aD _ ?_
 refine aj.sC E (fun D v' W' h _=>O1 W' h.b) ?_;rintro _ ⟨lE,l8,lZ,ln,lw,mh,lF,mr,rfl⟩;refine aj.et rfl ?_;refine aj.aD 29 ?_;refine aj.aO 30 (fun _ _ _ h=>E7 h.e.1.q6 (E7 h.e.1.q7 (E7 h.e.1.q8 h.e.1.q9))) ?_;refine aj.sC E (fun D v' W' h hf=>VV W' (KC _ h.b) (hf (4,some 28) (.head _) rfl).2.2 (Fb.out.af h.k) s1 ss D5) ?_;rintro _ ⟨lO,k7,l3,lM,me,iY,lI,jb,rfl⟩;refine aj.et rfl ?_
 repeat refine aj.aD _ ?_
 refine aj.aO 34 (fun _ _ _ h=>E7 h.e.1.q6 (E7 h.e.1.q7 (E7 h.e.1.q8 h.e.1.q9))) ?_;refine aj.aO 35 (fun _ _ _ h=>h.e.2.2.1.r3) ?_;refine aj.sC E (fun D v' W' h _=>Kb W' (KC _ h.b) (Fb.out.af h.k) (H.out.af h.k) ss sc D5) ?_;rintro _ ⟨mb,iW,k6,lP,lJ,iP,mj,lW,rfl⟩;refine aj.et rfl ?_;refine aj.sC E (fun D v' W' h hf=>WU W' (KC _ h.b) (hf (7,some 31) (.head _) rfl).2.2 (hf (12,some 36) (.tail _ (.head _)) rfl).2.2 (s1.sub ss) (ss.mul sc) D5) ?_;rintro _ ⟨iV,lk,lf,lX,kx,km,iS,lC,rfl⟩;refine aj.et rfl ?_;refine aj.aO 38 (fun _ _ _ h=>h.e.2.2.1.r3) ?_;refine aj.sC E (fun D v' W' h hf=>BP W' (hf (13,some 37) (.head _) rfl).2.2 (H.out.af h.k) ((s1.sub ss).add (ss.mul sc)) sc D5 gZ) ?_;rintro _ ⟨lh,jc,iT,l6,ml,lN,lG,ma,rfl⟩;refine aj.et rfl ?_
 repeat refine aj.aD _ ?_
 refine aj.sC E (fun D v' W' h hf=>vS W' (KC _ h.b) (hf (15,some 39) (.head _) rfl).2.2.get) ?_;rintro _ ⟨gR,gQ,gM,gT,gO,gV,gP,gN,rfl⟩;refine aj.et rfl ?_;refine aj.sA E ?_;rintro _ ⟨p13,rfl⟩;refine aj.et rfl ?_;refine aj.sN E ?_;refine aj.sE (fun _ v' w2 B jk hl _ i7 hf=> ?_);simp only[xx,xA,J2]at hl i7;obtain⟨ou,or,cx,eM,-⟩:=hl;obtain⟨lj,I⟩:N0<=p13/\ai w2 p13 28 #[Ez gR,Ex gQ gM gT,Ez gO,Ex gV gP gN]:=eM p13 rfl;clear eM;have J:Hid (FR w2 (Ej #[Ez gR,Ex gQ gM gT,Ez gO,Ex gV gP gN]) ((((1-s)+(s*q)) / q))):=(hf (18,some 42) (.tail _ (.tail _ (.tail _ (.tail _ (.tail _ (.head _)))))) rfl).2.2;replace Fb:=E6 (Fb.out.af jk);replace H:=E6 (H.out.af jk);clear hf jk;refine hQ _ _ ?_;clear hQ E Q' i8;rw[<- eW]at J;go_wp2_with fail
 refine(O1 _ zh).mono ?_;rintro e w3 ⟨k8,rfl,g9,st⟩;have sk:=bA w2 st;replace B:=bS B sk;replace ou:=ou.ae sk;replace or:=or.ae sk;replace cx:=cx.ae sk;replace I:=I.ae sk;replace Fb:=E6 (Fb.out.ae sk);replace H:=E6 (H.out.ae sk);replace J:=E6 (J.out.ae sk);clear st sk;obtain⟨iF,iB,iy,iA,iK,iJ,iE,iG,rfl⟩:=g9.ak;have it:=E6 g9;clear g9;have iH:p13<w3.heap.size:=I.lt;have mf:=B.size;go_wp2_with fail
 have ig:Hid (FR _ (Ej #[Ez iF,Ex iB iy iA,Ez iK,Ex iJ iE iG]) (OF 0)):=E6 (by rw[OZ]; exact it.out)
 go_loopw [47] (fun sl0 wr=>∃ (i:Nat) (y1:Bool) (y2:Option Addr) (y3 y4:Nat) (y5:Bool) (y6:Option Addr) (y7 y8:Nat),i<=N/\sl0 = Ey Ew i/\ai wr w3.heap.size 28 #[Ez y1,Ex y2 y3 y4,Ez y5,Ex y6 y7 y8]/\FR wr (Ej #[Ez y1,Ex y2 y3 y4,Ez y5,Ex y6 y7 y8]) (OF i)/\ai wr w.heap.size 45 #[Ez ua1,Ex ua2 ua3 ua4,Ez ua5,Ex ua6 ua7 ua8,Ey Ew R,Ey Ew A,Ez ub1,Ex ub2 ub3 ub4,Ez ub5,Ex ub6 ub7 ub8,Ez uc1,Ex uc2 uc3 uc4,Ez uc5,Ex uc6 uc7 uc8]/\ai wr (w.heap.size+1) 28 jp/\ai wr w1.heap.size 28 #[Ez gX,Ex i6 gW ir,Ez im,Ex ij iu iq]/\ai wr (p13) 28 #[Ez gR,Ex gQ gM gT,Ez gO,Ex gV gP gN]/\Below w.heap.size w wr/\av w3 wr) (fun sl0 _=>N-(intOf sl0).toNat)
 case atStart=>exact⟨0,_,_,_,_,_,_,_,_,by omega,rfl,zw,ig.out.af zj,zw,zw,zw,zw,zh,zj⟩
 case round=>
  clear ig it;clear ou or cx I;clear B;obtain⟨i,y1,y2,y3,y4,y5,y6,y7,y8,hi,rfl,M,fy,ou,or,cx,I,B,kk⟩:=hrel;replace Fb:=E6 (Fb.out.af kk);replace H:=E6 (H.out.af kk);replace J:=E6 (J.out.af kk);have Fy:=E6 fy;clear fy;have hE:=OS i;have lu:=ou.lt;obtain⟨ip,iv,i5,gY,fr,lr⟩:=or.s3;obtain⟨Z,Y,X,T⟩:=M.r3;have cy:=M.lt
  rcases Ep i N with i4 | i4
  .
   have iQ:decide ((i:Int)<(N:Int))=true:=E_ D5;obtain⟨b,of,rfl,iC,h0⟩:=HP.out.fv (t:=i) (by have:=HL.out; omega);have c0:wr.cell? ⟨b,of+i,none⟩=some (Ey Ew (l.getD i 0)):=(B.cell (p:=⟨b,_,none⟩) iC).trans h0;have ct:=fun(w':Ee) (s:Below w.heap.size w w')=>CT w' s (i:Int);have oo:=OO i;have ow:=OW i;have ol:=OL i;generalize qz lo (i:Int) lo.length=m at ct oo ow ol;generalize l.getD i 0=y at c0 ow ol;clear h0 CT OO OW OL OS;go_wp2_with fail
   refine(ct _ zh).mono ?_;rintro e w4 ⟨rfl,st⟩;have sk:=bA wr st;replace B:=bS B sk;replace ou:=ou.ae sk;replace or:=or.ae sk;replace cx:=cx.ae sk;replace I:=I.ae sk;replace M:=M.ae sk;replace Fb:=E6 (Fb.out.ae sk);replace H:=E6 (H.out.ae sk);replace J:=E6 (J.out.ae sk);replace Fy:=E6 (Fy.out.ae sk);replace kk:=kk.aJ sk;clear st sk lu ip iv i5 gY fr lr Z Y X T cy;obtain⟨gD,gH,gG,gt,gF,gB,gE,gC,gz,gA,fl,ft,fd,fe⟩:=ou.dN;have lu:=ou.lt;have lr:=or.lt;obtain⟨gK,gI,gJ,gL⟩:=I.r3;have h9:=I.lt;obtain⟨Z,Y,X,T⟩:=M.r3;have cy:=M.lt
   cases m with
   | true=>
    have e0:=oo rfl;clear oo ow ol c0;go_wp2_with fail
    go_roundw
    case rel=>exact⟨i+1,_,_,_,_,_,_,_,_,by omega,by go_num,zw,(by rw[e0]; exact Fy.out.af zj),zw,zw,zw,zw,zh,kk.trans zj⟩
    case measure=>simp[intOf]; omega
   | false=>
    by_cases h0:0<=y
    .
     have e0:=ow rfl D5;clear oo ow ol;go_wp2_with fail
     refine(Kb _ (KC _ zh) (Fy.out.af zj) (J.out.af zj) hE sw D5).mono ?_;rintro e w5 ⟨m9,rfl,gn,iM⟩;have st:zf _ w5:=iM;have sk:=bA w4 st;replace B:=bS B sk;replace ou:=ou.ae sk;replace or:=or.ae sk;replace cx:=cx.ae sk;replace I:=I.ae sk;replace M:=M.ae sk;replace Fb:=E6 (Fb.out.ae sk);replace H:=E6 (H.out.ae sk);replace J:=E6 (J.out.ae sk);replace Fy:=E6 (Fy.out.ae sk);replace kk:=kk.aJ sk;clear st sk gD gH gG gt gF gB gE gC gz gA fl ft fd fe lu lr gK gI gJ gL h9 Z Y X T cy;obtain⟨Z,Y,X,T,iI,cy⟩:=M.s3;obtain⟨mg,iU,lH,m8,ja,jd,ks,kw,rfl⟩:=gn.ak;have iL:=E6 gn;clear gn;go_wp2_with fail
     go_roundw
     case rel=>exact⟨i+1,_,_,_,_,_,_,_,_,by omega,by go_num,zw,(by rw[e0]; exact iL.out.af zj),zw,zw,zw,zw,zh,kk.trans zj⟩
     case measure=>simp[intOf]; omega
    .
     have e0:=ol rfl D5;clear oo ow ol;go_wp2_with fail
     refine(Kb _ (KC _ zh) (Fy.out.af zj) (Fb.out.af zj) hE ss D5).mono ?_;rintro e w5 ⟨ky,rfl,gd,st⟩;have sk:=bA w4 st;replace B:=bS B sk;replace ou:=ou.ae sk;replace or:=or.ae sk;replace cx:=cx.ae sk;replace I:=I.ae sk;replace M:=M.ae sk;replace Fb:=E6 (Fb.out.ae sk);replace H:=E6 (H.out.ae sk);replace J:=E6 (J.out.ae sk);replace Fy:=E6 (Fy.out.ae sk);replace kk:=kk.aJ sk;clear st sk gD gH gG gt gF gB gE gC gz gA fl ft fd fe lu lr gK gI gJ gL h9 Z Y X T cy;obtain⟨Z,Y,X,T,iI,cy⟩:=M.s3;obtain⟨iX,l9,lK,lQ,lY,ko,mn,m7,rfl⟩:=gd.ak;have iD:=E6 gd;clear gd;go_wp2_with fail
     go_roundw
     case rel=>exact⟨i+1,_,_,_,_,_,_,_,_,by omega,by go_num,zw,(by rw[e0]; exact iD.out.af zj),zw,zw,zw,zw,zh,kk.trans zj⟩
     case measure=>simp[intOf]; omega
  .
   obtain rfl:i=N:=D5
   go_wp2_with fail
   refine En (by simp[results,Tryz.results51,go_sem,lu,ip,iv,i5,gY,fr,lr,Z,Y,X,T,cy]; rfl) rfl ?_;exact⟨_,rfl,Fy.out.af zj,zh⟩
def Db (K:Bool) (N:Nat) (ok:Bool) (n:Int) (E:Bool):Int:=if K=false then 8 else if 200<N then 4 else if(n<1\/200<n)\/ok=false then 2 else if E=false then 2 else 0
def Dc (e:Int) (r:Rat):Option Rat:=if e=0 then some r else none
theorem cY.af {o:Option (Nat->Rat)} (h:cY w v o) (k:av w w'):cY w' v o:=by
 cases o with
 | none=>exact h
 | some t=>exact bY.af h k
theorem cY.ak {o:Option (Nat->Rat)} (h:cY w v o):∃be ci b9 ce br cn ah cg bt bg aX bh dc cN aY cU f7 dP bi f8 er ey d9 em dz ed co dl ek dy dk dx,v = Ej #[Ez be,Ex ci b9 ce,Ez br,Ex cn ah cg,Ez bt,Ex bg aX bh,Ez dc,Ex cN aY cU,Ez f7,Ex dP bi f8,Ez er,Ex ey d9 em,Ez dz,Ex ed co dl,Ez ek,Ex dy dk dx]:=by
 cases o with
 | none=>exact⟨_,_,_,_,_,_,_,_,_,_,_,_,_,_,_,_,_,_,_,_,_,_,_,_,_,_,_,_,_,_,_,_,h⟩
 | some t=>obtain⟨be,ci,b9,ce,br,cn,ah,cg,bt,bg,aX,bh,dc,cN,aY,cU,f7,dP,bi,f8,er,ey,d9,em,dz,ed,co,dl,ek,dy,dk,dx,rfl,_⟩:=h; exact⟨be,ci,b9,ce,br,cn,ah,cg,bt,bg,aX,bh,dc,cN,aY,cU,f7,dP,bi,f8,er,ey,d9,em,dz,ed,co,dl,ek,dy,dk,dx,rfl⟩
theorem FO.ak (h:FO w v o):∃a s n c b t m d,v = Ej #[Ez a,Ex s n c,Ez b,Ex t m d]:=by
 cases o with
 | none=>exact⟨_,_,_,_,_,_,_,_,h⟩
 | some r=>exact FR.ak h
theorem FR.fk {a b c d:Ef} {r:Rat} (h:FR w (Ej #[a,b,c,d]) r):eT w r.num r.den a b c d/\fits r.num/\fits (r.den:Int):=by
 have f:=FR.fit h;obtain⟨a2,J,a4,a6,I,a8,e,E,H,_⟩:=FR.bW h;simp only[Value.agg.injEq,Array.mk.injEq,List.cons.injEq,and_true]at e;obtain⟨rfl,rfl,rfl,rfl⟩:=e;exact⟨⟨E,H⟩,f.1,f.2⟩
theorem Zz (w:Ee):eT w 0 0 (Ez false) (Ex none 0 0) (Ez false) (Ex none 0 0):=⟨az.zero w,az.zero w⟩
theorem Qf:fits 0:=qq D7 D7
theorem ZA (w:Ee) (h:FO w va o) (E:FO w vb o):Ed Ec 16 #[va,vb] w fun e w'=>e = Eh (Ez true)/\zf w w':=by
 cases o with
 | none=>
  obtain rfl:va=_:=h;obtain rfl:vb=_:=E;exact Kj w (Zz w) (Zz w) Qf Qf
 | some r=>
  obtain⟨a1,a2,N,a4,a5,a6,M,a8,rfl⟩:=FR.ak h;obtain⟨b1,b2,b3,b4,b5,b6,b7,b8,rfl⟩:=FR.ak E;obtain⟨I,J,H⟩:=FR.fk h;exact Kj w I (FR.fk E).1 J H
theorem Vp {it gW gI gT gK gL gQ h9:Bool} {ig iu gH i5 im ir gP i6:Option Addr} {gX gO i8 iq gR hE gJ gY i7 gZ ip gV ik gN ij gM:Nat} (w:Ee) (S0:∀w',av w w'->Ed Ec 16 #[Ej #[Ez be,Ex ci b9 ce,Ez br,Ex cn ah cg],Ej #[Ez it,Ex ig gX gO,Ez gW,Ex iu i8 iq]] w' fun e w2=>e = Eh (Ez true)/\zf w' w2) (S1:∀w',av w w'->Ed Ec 16 #[Ej #[Ez bt,Ex bg aX bh,Ez dc,Ex cN aY cU],Ej #[Ez gI,Ex gH gR hE,Ez gT,Ex i5 gJ gY]] w' fun e w2=>e = Eh (Ez true)/\zf w' w2) (S2:∀w',av w w'->Ed Ec 16 #[Ej #[Ez f7,Ex dP bi f8,Ez er,Ex ey d9 em],Ej #[Ez gK,Ex im i7 gZ,Ez gL,Ex ir ip gV]] w' fun e w2=>e = Eh (Ez true)/\zf w' w2) (S3:∀w',av w w'->Ed Ec 16 #[Ej #[Ez dz,Ex ed co dl,Ez ek,Ex dy dk dx],Ej #[Ez gQ,Ex gP ik gN,Ez h9,Ex i6 ij gM]] w' fun e w2=>e = Eh (Ez true)/\zf w' w2) :
  Ed Ec 15 #[Ej #[Ez be,Ex ci b9 ce,Ez br,Ex cn ah cg,Ez bt,Ex bg aX bh,Ez dc,Ex cN aY cU,Ez f7,Ex dP bi f8,Ez er,Ex ey d9 em,Ez dz,Ex ed co dl,Ez ek,Ex dy dk dx],Ej #[Ez it,Ex ig gX gO,Ez gW,Ex iu i8 iq,Ez gI,Ex gH gR hE,Ez gT,Ex i5 gJ gY,Ez gK,Ex im i7 gZ,Ez gL,Ex ir ip gV,Ez gQ,Ex gP ik gN,Ez h9,Ex i6 ij gM]] w fun e w'=>e = Eh (Ez true)/\zf w w':=by
 go_enter Tryz.func15,Tryz.ntmps15
 have kk:=av.refl w;go_wp2_with fail
 refine(S0 _ (kk.trans zj)).mono ?_;rintro e w1 ⟨rfl,st⟩;have B:=bA w st;have kp:=kB w st;replace kk:=kk.trans kp;have ot:ai w1 w.heap.size 30 #[Ez be,Ex ci b9 ce,Ez br,Ex cn ah cg,Ez bt,Ex bg aX bh,Ez dc,Ex cN aY cU,Ez f7,Ex dP bi f8,Ez er,Ex ey d9 em,Ez dz,Ex ed co dl,Ez ek,Ex dy dk dx]:=ai.au st;have ou:ai w1 (w.heap.size+1) 30 #[Ez it,Ex ig gX gO,Ez gW,Ex iu i8 iq,Ez gI,Ex gH gR hE,Ez gT,Ex i5 gJ gY,Ez gK,Ex im i7 gZ,Ez gL,Ex ir ip gV,Ez gQ,Ex gP ik gN,Ez h9,Ex i6 ij gM]:=ai.au st;clear kp;clear st;obtain⟨gB,cy,eM,gE,fe,gC,gt,g8,eW,g9,H,I,Z,N,E,Y⟩:=ot.eE;have lt:=ot.lt;obtain⟨gz,gG,gF,fd,gD,gd,gA,gn,fl,ft,T,cx,J,M,bl,X⟩:=ou.eE;have lu:=ou.lt;go_wp2_with fail
 refine(S1 _ (kk.trans zj)).mono ?_;rintro e w2 ⟨rfl,st⟩;have sk:=bA w1 st;replace B:=bS B sk;replace ot:=ot.ae sk;replace ou:=ou.ae sk;replace kk:=kk.aJ sk;clear st sk gB cy eM gE fe gC gt g8 eW g9 H I Z N E Y lt gz gG gF fd gD gd gA gn fl ft T cx J M bl X lu;obtain⟨gB,cy,eM,gE,fe,gC,gt,g8,eW,g9,H,I,Z,N,E,Y⟩:=ot.eE;have lt:=ot.lt;obtain⟨gz,gG,gF,fd,gD,gd,gA,gn,fl,ft,T,cx,J,M,bl,X⟩:=ou.eE;have lu:=ou.lt;go_wp2_with fail
 refine(S2 _ (kk.trans zj)).mono ?_;rintro e w3 ⟨rfl,st⟩;have sk:=bA w2 st;replace B:=bS B sk;replace ot:=ot.ae sk;replace ou:=ou.ae sk;replace kk:=kk.aJ sk;clear st sk gB cy eM gE fe gC gt g8 eW g9 H I Z N E Y lt gz gG gF fd gD gd gA gn fl ft T cx J M bl X lu;obtain⟨gB,cy,eM,gE,fe,gC,gt,g8,eW,g9,H,I,Z,N,E,Y⟩:=ot.eE;have lt:=ot.lt;obtain⟨gz,gG,gF,fd,gD,gd,gA,gn,fl,ft,T,cx,J,M,bl,X⟩:=ou.eE;have lu:=ou.lt;go_wp2_with fail
 refine(S3 _ (kk.trans zj)).mono ?_;rintro e w4 ⟨rfl,st⟩;have sk:=bA w3 st;replace B:=bS B sk;replace ot:=ot.ae sk;replace ou:=ou.ae sk;replace kk:=kk.aJ sk;clear st sk gB cy eM gE fe gC gt g8 eW g9 H I Z N E Y lt gz gG gF fd gD gd gA gn fl ft T cx J M bl X lu;go_wp2_with fail
 refine En (by simp[results,Tryz.results15,go_sem,]; rfl) rfl ?_;exact⟨rfl,zh⟩
theorem Wl {o:Option (Nat->Rat)} (w:Ee) (h:cY w va o) (E:cY w vb o):Ed Ec 15 #[va,vb] w fun e w'=>e = Eh (Ez true)/\zf w w':=by
 cases o with
 | none=>
  obtain rfl:va=_:=h;obtain rfl:vb=_:=E;have z:=fun(w':Ee) (k:av w w')=>Kj w' (Zz w') (Zz w') Qf Qf;exact Vp w z z z z
 | some t=>
  obtain⟨be,ci,b9,ce,br,cn,ah,cg,bt,bg,aX,bh,dc,cN,aY,cU,f7,dP,bi,f8,er,ey,d9,em,dz,ed,co,dl,ek,dy,dk,dx,rfl,h0,h1,h2,h3⟩:=h;obtain⟨gH,gG,gt,gz,ft,gJ,gD,eM,Z,T,bl,I,fe,Y,eW,gB,fd,J,gA,gC,g9,g8,N,fl,cx,gF,H,gn,gE,cy,gI,gd,rfl,X,g1,M,g3⟩:=E;exact Vp w (fun w' k=>ZA (o:=some (t 0)) w' (h0.af k) (X.af k)) (fun w' k=>ZA (o:=some (t 1)) w' (h1.af k) (g1.af k)) (fun w' k=>ZA (o:=some (t 2)) w' (h2.af k) (M.af k)) (fun w' k=>ZA (o:=some (t 3)) w' (h3.af k) (g3.af k))
def Wm (LA LB:Nat->Nat):Nat->Bool
 | 0=>false
 | t+1=>Wm LA LB t||decide ((20:Int)<max (LA t:Int) (LB t:Int))
theorem Wn (h:Wm LA LB i=true):∀m,i<=m->Wm LA LB m=true:=by
 intro m E
 induction m with
 | zero=>
      obtain rfl:i=0:=D5
      exact h
 | succ m ih=>
  rcases Ep m i with g | g
  .
   obtain rfl:i=m+1:=D5
   exact h
  . unfold Wm; rw[ih g]; rfl
theorem CZ {a1 a5:Bool} {a2 a6:Option Addr} {a4 a8:Nat} (w:Ee) :
  Ed Ec 36 #[Ej #[Ez a1,Ex a2 p a4,Ez a5,Ex a6 q a8]] w fun e w'=>e = Eh (Ey Ew (max (p:Int) (q:Int)))/\zf w w':=by
 have H:=fun E t W=>Jg (P:=Ec) E t (p:Int) (q:Int) W;generalize max (p:Int) (q:Int)=m at *
 go_enter Tryz.func36,Tryz.ntmps36
 go_wp2
 go_returns
 exact⟨rfl,zh⟩
theorem Wo (w:Ee) (b0:FB w (Ej #[Ez be,Ex ci b9 ce,Ez br,Ex cn ah cg]) (O 0)) (b1:FB w (Ej #[Ez bt,Ex bg aX bh,Ez dc,Ex cN aY cU]) (O 1)) (b2:FB w (Ej #[Ez f7,Ex dP bi f8,Ez er,Ex ey d9 em]) (O 2)) (b3:FB w (Ej #[Ez dz,Ex ed co dl,Ez ek,Ex dy dk dx]) (O 3)) :
  Ed Ec 10 #[Ej #[Ez be,Ex ci b9 ce,Ez br,Ex cn ah cg,Ez bt,Ex bg aX bh,Ez dc,Ex cN aY cU,Ez f7,Ex dP bi f8,Ez er,Ex ey d9 em,Ez dz,Ex ed co dl,Ez ek,Ex dy dk dx]] w fun e w'=>e = Eh (Ez (Wm (yG b9 aX bi co) (yG ah aY d9 dk) 4))/\zf w w':=by
 have FL:=fun(w':Ee) (g:Nat) (t:Ei) (k:av w w') (h:ai w' g t #[Ez be,Ex ci b9 ce,Ez br,Ex cn ah cg,Ez bt,Ex bg aX bh,Ez dc,Ex cN aY cU,Ez f7,Ex dP bi f8,Ez er,Ex ey d9 em,Ez dz,Ex ed co dl,Ez ek,Ex dy dk dx])=>CW h (b0.af k) (b1.af k) (b2.af k) (b3.af k);generalize hLA:(yG b9 aX bi co)=LA at *;generalize hLB:(yG ah aY d9 dk)=LB at *;clear b0 b1 b2 b3 hLA hLB
 go_enter Tryz.func10,Tryz.ntmps10
 go_wp2_with fail
 have ob:ai ((w.alloc (.cells #[Ez be,Ex ci b9 ce,Ez br,Ex cn ah cg,Ez bt,Ex bg aX bh,Ez dc,Ex cN aY cU,Ez f7,Ex dP bi f8,Ez er,Ex ey d9 em,Ez dz,Ex ed co dl,Ez ek,Ex dy dk dx] 30)).alloc (.cells #[Ez be,Ex ci b9 ce,Ez br,Ex cn ah cg,Ez bt,Ex bg aX bh,Ez dc,Ex cN aY cU,Ez f7,Ex dP bi f8,Ez er,Ex ey d9 em,Ez dz,Ex ed co dl,Ez ek,Ex dy dk dx] 28)) (w.heap.size+1) 28 #[Ez be,Ex ci b9 ce,Ez br,Ex cn ah cg,Ez bt,Ex bg aX bh,Ez dc,Ex cN aY cU,Ez f7,Ex dP bi f8,Ez er,Ex ey d9 em,Ez dz,Ex ed co dl,Ez ek,Ex dy dk dx]:=ai.dZ _ _ _ _;obtain⟨b,of,cap,e,bl,I,H⟩:=FL _ _ _ zj ob;simp only[Value.slice.injEq,Option.some.injEq,Addr.mk.injEq,and_true,true_and]at e;obtain⟨⟨rfl,rfl⟩,rfl⟩:=e;have HC:=E6 H;clear FL H ob;generalize hw0:((w.alloc (.cells #[Ez be,Ex ci b9 ce,Ez br,Ex cn ah cg,Ez bt,Ex bg aX bh,Ez dc,Ex cN aY cU,Ez f7,Ex dP bi f8,Ez er,Ex ey d9 em,Ez dz,Ex ed co dl,Ez ek,Ex dy dk dx] 30)).alloc (.cells #[Ez be,Ex ci b9 ce,Ez br,Ex cn ah cg,Ez bt,Ex bg aX bh,Ez dc,Ex cN aY cU,Ez f7,Ex dP bi f8,Ez er,Ex ey d9 em,Ez dz,Ex ed co dl,Ez ek,Ex dy dk dx] 28))=w0 at *;have B0:Below w.heap.size w w0:=by rw[<- hw0]; exact zh
 go_loopw [4] (fun kk wr=>∃t:Nat,t<=4/\kk = Ey Ew t/\Wm LA LB t=false/\Below w.heap.size w wr/\zf w0 wr) (fun kk _=>4-(intOf kk).toNat)
 case atStart=>exact⟨0,by omega,rfl,rfl,B0,Below.refl _ _⟩
 case round=>
  clear B0;obtain⟨t,ht,rfl,hw,B,E⟩:=hrel
  rcases Ep t 4 with tn | tn
  .
   have cx:decide ((t:Int)<4)=true:=E_ D5;obtain⟨a1,a2,a4,a5,a6,a8,h0,h1,h2,h3,-⟩:=HC.out t tn;have c0:wr.cell? ⟨w.heap.size+1,0+t*4,none⟩=some (Ez a1):=(E.cell (p:=⟨w.heap.size+1,_,none⟩) I).trans h0;have c1:wr.cell? ⟨w.heap.size+1,0+t*4+1,none⟩=some (Ex a2 (LA t) a4):=(E.cell (p:=⟨w.heap.size+1,_,none⟩) I).trans h1;have c2:wr.cell? ⟨w.heap.size+1,0+t*4+2,none⟩=some (Ez a5):=(E.cell (p:=⟨w.heap.size+1,_,none⟩) I).trans h2;have c3:wr.cell? ⟨w.heap.size+1,0+t*4+3,none⟩=some (Ex a6 (LB t) a8):=(E.cell (p:=⟨w.heap.size+1,_,none⟩) I).trans h3;rw[Nat.zero_add]at c0 c1 c2 c3;have Z:=fun w'=>CZ (a1:=a1) (a5:=a5) (a2:=a2) (a6:=a6) (p:=LA t) (q:=LB t) (a4:=a4) (a8:=a8) w';have J:(20:Int)<max (LA t:Int) (LB t:Int)->Wm LA LB 4=true:=fun e=>Wn (i:=t+1) (by unfold Wm; rw[E_ e,Bool.or_true]) 4 D5;have NO:¬(20:Int)<max (LA t:Int) (LB t:Int)->Wm LA LB (t+1)=false:=fun e=>by unfold Wm; rw[hw,E' e]; rfl
   generalize max (LA t:Int) (LB t:Int)=m at *;obtain⟨L1,X⟩:∃x,LA t=x:=⟨_,rfl⟩;obtain⟨L2,T⟩:∃x,LB t=x:=⟨_,rfl⟩;rw[X]at c1 Z;rw[T]at c3 Z;clear X T h0 h1 h2 h3;go_wp2_with fail
   refine(Z _).mono ?_;rintro e w1 ⟨rfl,M⟩;have B1:Below w.heap.size w w1:=zT M;have S1:zf w0 w1:=zt E (Eo _) M;clear Z M B E c0 c1 c2 c3
   by_cases h:(20:Int)<m
   .
    have Y:=J D5;clear J NO
    go_wp2
    go_returns
    exact⟨by rw[Y]; rfl,B1⟩
   .
    have N:=NO D5;clear J NO
    go_wp2
    go_roundw
    case rel=>exact⟨t+1,by omega,by go_num,N,B1,S1⟩
    case measure=>simp[intOf]; omega
  .
   obtain rfl:t=4:=D5
   go_wp2
   go_returns
   exact⟨by rw[hw]; rfl,B⟩
theorem Vq (w:Ee) (b0:FB w (Ej #[Ez ua1,Ex ua2 ua3 ua4,Ez ua5,Ex ua6 ua7 ua8]) (O 0)) (b1:FB w (Ej #[Ez ub1,Ex ub2 ub3 ub4,Ez ub5,Ex ub6 ub7 ub8]) (O 1)) (b2:FB w (Ej #[Ez uc1,Ex uc2 uc3 uc4,Ez uc5,Ex uc6 uc7 uc8]) (O 2)) (fw:Yb O (yG ua3 ub3 uc3 uc3) (yG ua7 ub7 uc7 uc7) 3) :
  Ed Ec 18 #[Ej #[Ez ua1,Ex ua2 ua3 ua4,Ez ua5,Ex ua6 ua7 ua8,Ey Ew R,Ey Ew A,Ez ub1,Ex ub2 ub3 ub4,Ez ub5,Ex ub6 ub7 ub8,Ez uc1,Ex uc2 uc3 uc4,Ez uc5,Ex uc6 uc7 uc8]] w fun e w'=>e = Eh (Ey Ew (Z5 (yq O (yG ua3 ub3 uc3 uc3) (yG ua7 ub7 uc7 uc7) R A ua1)))/\zf w w':=by
 obtain⟨K,hK⟩:∃k,yq O (yG ua3 ub3 uc3 uc3) (yG ua7 ub7 uc7 uc7) R A ua1=k:=⟨_,rfl⟩
 have KF:∀ (P:Prop),(yq O (yG ua3 ub3 uc3 uc3) (yG ua7 ub7 uc7 uc7) R A ua1=true->P)->¬P->K=false:=fun P h1 h2=>by
  cases hk:K with
  | false=>rfl
  | true=>exact absurd (h1 (hK.trans hk)) h2
 have KL:=fun(h:xQ 2 O (yG ua3 ub3 uc3 uc3) (yG ua7 ub7 uc7 uc7) 3=false)=>KF (xQ 2 O (yG ua3 ub3 uc3 uc3) (yG ua7 ub7 uc7 uc7) 3=true) (fun g=>(zJ.1 g).1) (by rw[h]; decide);have KR:=KF _ (fun g=>(zJ.1 g).2.1);have KN:=fun(h:ua1=true)=>KF (ua1=false) (fun g=>(zJ.1 g).2.2.1) (by rw[h]; decide);have K1:=fun(h:z8 ((O 1).getD 0) 0<=0)=>KF _ (fun g=>(zJ.1 g).2.2.2.1) (fun g=>absurd (qL.2 g) D5);have K2:=fun(h:¬z8 ((O 1).getD 0) 1<0)=>KF _ (fun g=>(zJ.1 g).2.2.2.2.1) (fun g=>h (aU.2 g));have K3:=fun(h:z8 ((O 2).getD 0) 0<=0)=>KF _ (fun g=>(zJ.1 g).2.2.2.2.2) (fun g=>absurd (qL.2 g) D5);have KT:xQ 2 O (yG ua3 ub3 uc3 uc3) (yG ua7 ub7 uc7 uc7) 3=true->(1<=R/\R<=65536/\1<=A/\A<=17592186044416)->ua1=false->¬z8 ((O 1).getD 0) 0<=0->z8 ((O 1).getD 0) 1<0->¬z8 ((O 2).getD 0) 0<=0->K=true:=fun h1 h2 h3 h4 h5 h6=>hK.symm.trans (zJ.2 ⟨h1,h2,h3,qL.1 D5,aU.1 h5,qL.1 D5⟩)
 have FQ:xQ 2 O (yG ua3 ub3 uc3 uc3) (yG ua7 ub7 uc7 uc7) 3=true->(∃r,O 1=some r/\(O 1).getD 0=r/\sz r 2)/\∃r,O 2=some r/\(O 2).getD 0=r/\sz r 2:=fun h=>by
  obtain⟨r1,e1,z1⟩:=xm h fw 1 D5;obtain⟨r2,e2,z2⟩:=xm h fw 2 D5;exact⟨⟨r1,e1,by rw[e1]; rfl,z1⟩,⟨r2,e2,by rw[e2]; rfl,z2⟩⟩
 have S0:∀w',av w w'->Ed Ec 45 #[Ej #[Ez ua1,Ex ua2 ua3 ua4,Ez ua5,Ex ua6 ua7 ua8]] w' fun e w2=>e = Eh (Ez (jo 2 (O 0) ua3 ua7))/\zf w' w2:=fun w' k=>Kk w' (b0.af k);have S1:∀w',av w w'->Ed Ec 45 #[Ej #[Ez ub1,Ex ub2 ub3 ub4,Ez ub5,Ex ub6 ub7 ub8]] w' fun e w2=>e = Eh (Ez (jo 2 (O 1) ub3 ub7))/\zf w' w2:=fun w' k=>Kk w' (b1.af k);have S2:∀w',av w w'->Ed Ec 45 #[Ej #[Ez uc1,Ex uc2 uc3 uc4,Ez uc5,Ex uc6 uc7 uc8]] w' fun e w2=>e = Eh (Ez (jo 2 (O 2) uc3 uc7))/\zf w' w2:=fun w' k=>Kk w' (b2.af k);have WH:∀x:Int,-9223372036854775808<=x->x<=9223372036854775807->∀w',Ed Ec 47 #[Ey Ew x] w' fun e w2=>∃v,e = Eh v/\FR w2 v (x:Rat)/\zf w' w2:=fun x h0 h1 w'=>qt x w' h0 h1;have O0:=fun w'=>by have:=WH 0 D7 D7 w'; rw[XH]at this; exact this
 have O1:=fun w'=>by have:=WH 1 D7 D7 w'; rw[qW]at this; exact this
 clear WH;have LE:xQ 2 O (yG ua3 ub3 uc3 uc3) (yG ua7 ub7 uc7 uc7) 3=((jo 2 (O 0) ua3 ua7)&&(jo 2 (O 1) ub3 ub7)&&(jo 2 (O 2) uc3 uc7)):=Cj;rw[LE]at KL KT FQ;rw[hK];generalize jo 2 (O 0) ua3 ua7=l0 at *;generalize jo 2 (O 1) ub3 ub7=l1 at *;generalize jo 2 (O 2) uc3 uc7=l2 at *;clear LE KF hK
 go_enter Tryz.func18,Tryz.ntmps18
 have kk:=av.refl w;go_wp2_with fail
 refine(S0 _ (kk.trans zj)).mono ?_;rintro e w1 ⟨rfl,st⟩;have B:=bA w st;have kp:=kB w st;replace kk:=kk.trans kp;have ou:ai w1 w.heap.size 45 #[Ez ua1,Ex ua2 ua3 ua4,Ez ua5,Ex ua6 ua7 ua8,Ey Ew R,Ey Ew A,Ez ub1,Ex ub2 ub3 ub4,Ez ub5,Ex ub6 ub7 ub8,Ez uc1,Ex uc2 uc3 uc4,Ez uc5,Ex uc6 uc7 uc8]:=ai.au st;clear kp;clear st;obtain⟨fl,gd,g9,cx,g8,fd,ft,fe,eM,eW,N,T,J,M⟩:=ou.dN;have lu:=ou.lt
 cases l0 with
 | false=>
  have X:=KL D8;subst X;clear KL KR KN K1 K2 K3 KT FQ O0 O1 b0 b1 b2 fw S0 S1 S2
  go_wp2
  go_returns
  exact⟨rfl,zh⟩
 | true=>
  go_wp2_with fail
  refine(S1 _ (kk.trans zj)).mono ?_;rintro e w2 ⟨rfl,st⟩;have sk:=bA w1 st;replace B:=bS B sk;replace ou:=ou.ae sk;replace kk:=kk.aJ sk;clear st sk fl gd g9 cx g8 fd ft fe eM eW N T J M lu;obtain⟨fl,gd,g9,cx,g8,fd,ft,fe,eM,eW,N,T,J,M⟩:=ou.dN;have lu:=ou.lt
  cases l1 with
  | false=>
   have X:=KL D8;subst X;clear KL KR KN K1 K2 K3 KT FQ O0 O1 b0 b1 b2 fw S0 S1 S2
   go_wp2
   go_returns
   exact⟨rfl,zh⟩
  | true=>
   go_wp2_with fail
   refine(S2 _ (kk.trans zj)).mono ?_;rintro e w3 ⟨rfl,st⟩;have sk:=bA w2 st;replace B:=bS B sk;replace ou:=ou.ae sk;replace kk:=kk.aJ sk;clear st sk fl gd g9 cx g8 fd ft fe eM eW N T J M lu;obtain⟨fl,gd,g9,cx,g8,fd,ft,fe,eM,eW,N,T,J,M⟩:=ou.dN;have lu:=ou.lt
   cases l2 with
   | false=>
    have X:=KL D8;subst X;clear KL KR KN K1 K2 K3 KT FQ O0 O1 b0 b1 b2 fw S0 S1 S2
    go_wp2
    go_returns
    exact⟨rfl,zh⟩
   | true=>
    have H:=KT rfl;obtain⟨⟨r1,e1,q1,z1⟩,r2,e2,q2,z2⟩:=FQ rfl;clear KT KL FQ;rw[e1]at b1;rw[e2]at b2;rw[q1]at K1 K2 H;rw[q2]at K3 H;have Y:Hid (FR w (Ej #[Ez ub1,Ex ub2 ub3 ub4,Ez ub5,Ex ub6 ub7 ub8]) r1):=E6 b1;have F2:Hid (FR w (Ej #[Ez uc1,Ex uc2 uc3 uc4,Ez uc5,Ex uc6 uc7 uc8]) r2):=E6 b2;replace Y:=E6 (Y.out.af (kk.trans zj));replace F2:=E6 (F2.out.af (kk.trans zj));clear e1 e2 q1 q2 fw b0 b1 b2 S0 S1 S2;obtain⟨c1,gB⟩:∃c,z8 r1 0=c:=⟨_,rfl⟩;obtain⟨c2,gD⟩:∃c,z8 r1 1=c:=⟨_,rfl⟩;obtain⟨c3,gC⟩:∃c,z8 r2 0=c:=⟨_,rfl⟩;rw[gB]at K1 H;rw[gD]at K2 H;rw[gC]at K3 H;have Z:∀ (w':Ee) (u v:Ef),FR w' u r1->FR w' v 0->Ed Ec 46 #[u,v] w' fun e w2=>e = Eh (Ey Ew c1)/\zf w' w2:=fun w' u v h1 h2=>by have:=Zw w' h1 h2 z1 ZP D5; rw[gB]at this; exact this
    have cy:∀ (w':Ee) (u v:Ef),FR w' u r1->FR w' v 1->Ed Ec 46 #[u,v] w' fun e w2=>e = Eh (Ey Ew c2)/\zf w' w2:=fun w' u v h1 h2=>by have:=Zw w' h1 h2 z1 Hq D5; rw[gD]at this; exact this
    have gn:∀ (w':Ee) (u v:Ef),FR w' u r2->FR w' v 0->Ed Ec 46 #[u,v] w' fun e w2=>e = Eh (Ey Ew c3)/\zf w' w2:=fun w' u v h1 h2=>by have:=Zw w' h1 h2 z2 ZP D5; rw[gC]at this; exact this
    clear gB gD gC z1 z2
    cases ua1 with
    | true=>
     have X:=KN D8;subst X;clear KR KN K1 K2 K3 H O0 O1 Z cy gn Y F2
     go_wp2
     go_returns
     exact⟨rfl,zh⟩
    | false=>
     clear KN
     rcases(show R<1\/(¬R<1/\65536<R)\/(¬R<1/\¬65536<R/\A<1)\/(¬R<1/\¬65536<R/\¬A<1/\17592186044416<A)\/(¬R<1/\¬65536<R/\¬A<1/\¬17592186044416<A) by omega)with g1 | ⟨g1,g2⟩ | ⟨g1,g2,g3⟩ | ⟨g1,g2,g3,g4⟩ | ⟨g1,g2,g3,g4⟩
     .
      have X:=KR D5;subst X;clear KR K1 K2 K3 H O0 O1 Z cy gn Y F2
      go_wp2
      go_returns
      exact⟨rfl,zh⟩
     .
      have X:=KR D5;subst X;clear KR K1 K2 K3 H O0 O1 Z cy gn Y F2
      go_wp2
      go_returns
      exact⟨rfl,zh⟩
     .
      have X:=KR D5;subst X;clear KR K1 K2 K3 H O0 O1 Z cy gn Y F2
      go_wp2
      go_returns
      exact⟨rfl,zh⟩
     .
      have X:=KR D5;subst X;clear KR K1 K2 K3 H O0 O1 Z cy gn Y F2
      go_wp2
      go_returns
      exact⟨rfl,zh⟩
     .
      have gz:=H ⟨by omega,by omega,by omega,by omega⟩ rfl;clear H KR;go_wp2_with fail
      by_cases h1:c1<=0
      .
       have X:=K1 D5;subst X;clear K1 K2 K3 gz;have gA:w.heap.size<w3.heap.size:=ou.lt;have gM:=B.size
       go_upto_region 3 with fail
       refine aj.cC w w3 [.o w.heap.size 45 #[Ez false,Ex ua2 ua3 ua4,Ez ua5,Ex ua6 ua7 ua8,Ey Ew R,Ey Ew A,Ez ub1,Ex ub2 ub3 ub4,Ez ub5,Ex ub6 ub7 ub8,Ez uc1,Ex uc2 uc3 uc4,Ez uc5,Ex uc6 uc7 uc8]] [2,3] [(2,ym),(3,fun z_=>z_ = Ey Ew c1)] [(2,bc (0))] [(3,[(2,some 47)]),(19,[(2,some 47),(3,some 48)])] [] (by simp only[aP]; exact⟨zh,zj,zw,trivial⟩) (fun N0 gt bl Q' E hQ=> ?_);clear fl gd g9 cx g8 fd ft fe eM eW N T J M lu;clear gt;refine aj.aD 45 ?_;refine aj.aO 46 (fun _ _ _ h=>E7 h.e.1.q6 (E7 h.e.1.q7 (E7 h.e.1.q8 h.e.1.q9))) ?_;refine aj.sC E (fun D v' I _ _=>O0 I) ?_;rintro _ ⟨gK,gF,gI,gL,gJ,gE,gH,gG,rfl⟩;refine aj.dj rfl ?_;refine aj.sV E (fun D v' I h hf=>Z I _ _ (Y.out.af h.k) (hf (2,some 47) (.head _) rfl).2.2) ?_;refine aj.dj rfl ?_
       repeat (first | refine aj.bM E _ ?_ | (refine aj.sk E ?_; refine aj.dj rfl ?_))
       refine aj.sE (fun _ v' w4 B jk hl _ _ hf=> ?_);simp only[xx,xA]at hl;obtain⟨ou,-⟩:=hl;replace Y:=E6 (Y.out.af jk);replace F2:=E6 (F2.out.af jk);replace kk:=kk.trans jk;clear hf jk;refine hQ _ _ ?_;clear hQ E Q' bl;go_wp2_with fail
       refine En (by simp[results,Tryz.results18,go_sem,]; rfl) rfl ?_;exact⟨rfl,zh⟩
      .
       by_cases h2:¬c2<0
       .
        have X:=K2 D5;subst X;clear K1 K2 K3 gz;have gT:0<=c2:=D5
        have gA:w.heap.size<w3.heap.size:=ou.lt;have gM:=B.size
        go_upto_region 3 with fail
        refine aj.cC w w3 [.o w.heap.size 45 #[Ez false,Ex ua2 ua3 ua4,Ez ua5,Ex ua6 ua7 ua8,Ey Ew R,Ey Ew A,Ez ub1,Ex ub2 ub3 ub4,Ez ub5,Ex ub6 ub7 ub8,Ez uc1,Ex uc2 uc3 uc4,Ez uc5,Ex uc6 uc7 uc8]] [2,3,8,9] [(2,ym),(3,fun z_=>z_ = Ey Ew c1),(8,ym),(9,fun z_=>z_ = Ey Ew c2)] [(2,bc (0)),(8,bc (1))] [(3,[(2,some 47)]),(9,[(8,some 53)]),(19,[(2,some 47),(3,some 48),(8,some 53),(9,some 54)])] [] (by simp only[aP]; exact⟨zh,zj,zw,trivial⟩) (fun N0 gt bl Q' E hQ=> ?_);clear fl gd g9 cx g8 fd ft fe eM eW N T J M lu;clear gt;refine aj.aD 45 ?_;refine aj.aO 46 (fun _ _ _ h=>E7 h.e.1.q6 (E7 h.e.1.q7 (E7 h.e.1.q8 h.e.1.q9))) ?_;refine aj.sC E (fun D v' I _ _=>O0 I) ?_;rintro _ ⟨gK,gF,gI,gL,gJ,gE,gH,gG,rfl⟩;refine aj.dj rfl ?_;refine aj.sV E (fun D v' I h hf=>Z I _ _ (Y.out.af h.k) (hf (2,some 47) (.head _) rfl).2.2) ?_;refine aj.dj rfl ?_
        repeat refine aj.aD _ ?_
        refine aj.bM E 51 ?_;refine aj.fJ E 52 (fun _ _ _ h=>E7 h.e.1.q6 (E7 h.e.1.q7 (E7 h.e.1.q8 h.e.1.q9))) ?_;refine aj.sC E (fun D v' I _ _=>O1 I) ?_;rintro _ ⟨gQ,gW,gX,gN,gR,gV,gO,gP,rfl⟩;refine aj.dj rfl ?_;refine aj.sV E (fun D v' I h hf=>cy I _ _ (Y.out.af h.k) (hf (8,some 53) (.head _) rfl).2.2) ?_;refine aj.dj rfl ?_
        repeat (first | refine aj.bM E _ ?_ | (refine aj.sk E ?_; refine aj.dj rfl ?_))
        refine aj.sE (fun _ v' w4 B jk hl _ _ hf=> ?_);simp only[xx,xA]at hl;obtain⟨ou,-⟩:=hl;replace Y:=E6 (Y.out.af jk);replace F2:=E6 (F2.out.af jk);replace kk:=kk.trans jk;clear hf jk;refine hQ _ _ ?_;clear hQ E Q' bl;go_wp2_with fail
        refine En (by simp[results,Tryz.results18,go_sem,]; rfl) rfl ?_;exact⟨rfl,zh⟩
       .
        have gT:¬0<=c2:=D5
        by_cases h3:c3<=0
        focus
         have X:=K3 D5
        rotate_left
        focus
         have X:=gz D5 D5 D5
        rotate_left
        all_goals
         subst X;clear K1 K2 K3 gz;have gA:w.heap.size<w3.heap.size:=ou.lt;have gM:=B.size
         go_upto_region 3 with fail
         refine aj.cC w w3 [.o w.heap.size 45 #[Ez false,Ex ua2 ua3 ua4,Ez ua5,Ex ua6 ua7 ua8,Ey Ew R,Ey Ew A,Ez ub1,Ex ub2 ub3 ub4,Ez ub5,Ex ub6 ub7 ub8,Ez uc1,Ex uc2 uc3 uc4,Ez uc5,Ex uc6 uc7 uc8]] [2,3,8,9,15,16] [(2,ym),(3,fun z_=>z_ = Ey Ew c1),(8,ym),(9,fun z_=>z_ = Ey Ew c2),(15,ym),(16,fun z_=>z_ = Ey Ew c3)] [(2,bc (0)),(8,bc (1)),(15,bc (0))] [(3,[(2,some 47)]),(9,[(8,some 53)]),(16,[(15,some 60)]),(19,[(2,some 47),(3,some 48),(8,some 53),(9,some 54),(15,some 60),(16,some 61)])] [] (by simp only[aP]; exact⟨zh,zj,zw,trivial⟩) (fun N0 gt bl Q' E hQ=> ?_);clear fl gd g9 cx g8 fd ft fe eM eW N T J M lu;clear gt;refine aj.aD 45 ?_;refine aj.aO 46 (fun _ _ _ h=>E7 h.e.1.q6 (E7 h.e.1.q7 (E7 h.e.1.q8 h.e.1.q9))) ?_;refine aj.sC E (fun D v' I _ _=>O0 I) ?_;rintro _ ⟨gK,gF,gI,gL,gJ,gE,gH,gG,rfl⟩;refine aj.dj rfl ?_;refine aj.sV E (fun D v' I h hf=>Z I _ _ (Y.out.af h.k) (hf (2,some 47) (.head _) rfl).2.2) ?_;refine aj.dj rfl ?_
         repeat refine aj.aD _ ?_
         refine aj.bM E 51 ?_;refine aj.fJ E 52 (fun _ _ _ h=>E7 h.e.1.q6 (E7 h.e.1.q7 (E7 h.e.1.q8 h.e.1.q9))) ?_;refine aj.sC E (fun D v' I _ _=>O1 I) ?_;rintro _ ⟨gQ,gW,gX,gN,gR,gV,gO,gP,rfl⟩;refine aj.dj rfl ?_;refine aj.sV E (fun D v' I h hf=>cy I _ _ (Y.out.af h.k) (hf (8,some 53) (.head _) rfl).2.2) ?_;refine aj.dj rfl ?_;refine aj.bM E 55 ?_
         repeat refine aj.aD _ ?_
         refine aj.bM E 58 ?_;refine aj.fJ E 59 (fun _ _ _ h=>E7 h.e.1.fI (E7 h.e.1.fL (E7 h.e.1.fE h.e.1.fK))) ?_;refine aj.sC E (fun D v' I _ _=>O0 I) ?_;rintro _ ⟨h9,gZ,i8,i5,i6,gY,hE,i7,rfl⟩;refine aj.dj rfl ?_;refine aj.sV E (fun D v' I h hf=>gn I _ _ (F2.out.af h.k) (hf (15,some 60) (.head _) rfl).2.2) ?_;refine aj.dj rfl ?_;refine aj.bM E 62 ?_;refine aj.aD 63 ?_;refine aj.sE (fun _ v' w4 B jk hl _ _ hf=> ?_);simp only[xx,xA]at hl;obtain⟨ou,-⟩:=hl;replace Y:=E6 (Y.out.af jk);replace F2:=E6 (F2.out.af jk);replace kk:=kk.trans jk;clear hf jk;refine hQ _ _ ?_;clear hQ E Q' bl;go_wp2_with fail
         refine En (by simp[results,Tryz.results18,go_sem,]; rfl) rfl ?_;exact⟨rfl,zh⟩
def Dd (c:Array Ef):Ef->Ef->Array Ef
 | Ej a,Ej b=>#[a.getD 0 (Ez false),a.getD 1 (Ez false),a.getD 2 (Ez false),a.getD 3 (Ez false),Ey Ew 1,Ey Ew 400,b.getD 0 (Ez false),b.getD 1 (Ez false),b.getD 2 (Ez false),b.getD 3 (Ez false),c.getD 0 (Ez false),c.getD 1 (Ez false),c.getD 2 (Ez false),c.getD 3 (Ez false)]
 | _,_=>#[]
theorem cY.ae {o:Option (Nat->Rat)} (h:cY w v o) (s:zf w w'):cY w' v o:=h.af (av.ae s)
theorem FO.ae (h:FO w v o) (s:zf w w'):FO w' v o:=h.af (av.ae s)
def Dv:Nat->Rat:=jI (0,0) (1,0) (1,1) (1,3)
def De (i:Nat):Option Rat:=match i with | 0=>some 0 | 1=>some (1 / 10) | _=>some 1
theorem Gj (I:l.length=n) (ht:f9.toList.take n=ints l) {k:Nat} (H:k<n):f9[k]? = some (Ey Ew (l.getD k 0)):=by
 subst I;have E:(f9.toList.take l.length)[k]? = (ints l)[k]? :=by rw[ht]
 rw[List.getElem?_take,E8 H]at E;rw[<- Array.getElem?_toList,E];unfold ints;rw[List.getElem?_map,List.getD_eq_getElem?_getD,List.getElem?_eq_getElem H];rfl
theorem Jw {b:Nat} (E:ai w b t f9) (I:l.length=n) (hc:n<=cap) (ht:f9.toList.take n=ints l):aM w (Ex (some ⟨b,0,none⟩) n cap) l:=by
 subst I;refine⟨_,cap,rfl,hc,fun _=>⟨b,0,rfl,E.lt,fun k H=> ?_⟩⟩;rw[Nat.zero_add,E.cell k,Gj rfl ht H]
def Yc (o0 o1 o2 o3:Int) (i:Nat):Bool:=((i:Int)==o0)||((i:Int)==o1)||((i:Int)==o2)||((i:Int)==o3)
theorem Hs {n o0 o1 o2 o3:Int} (w:Ee) (h9:FR w (Ej #[Ez ub1,Ex ub2 ub3 ub4,Ez ub5,Ex ub6 ub7 ub8]) s) (ss:sz s 2) (r0:1<=R) (r1:R<=65536) (a0:1<=A) (a1:A<=17592186044416) (n2:1<=n) (n1:n<=200) (hl:aM w vp l) (l0:l.length<=200) :
  Ed Ec 65 #[Ej #[Ez ua1,Ex ua2 ua3 ua4,Ez ua5,Ex ua6 ua7 ua8,Ey Ew R,Ey Ew A,Ez ub1,Ex ub2 ub3 ub4,Ez ub5,Ex ub6 ub7 ub8,Ez uc1,Ex uc2 uc3 uc4,Ez uc5,Ex uc6 uc7 uc8],vp,Ey Ew n,Ej #[Ey Ew o0,Ey Ew o1,Ey Ew o2,Ey Ew o3]] w fun e w'=>∃v,e = Eh v/\FR w' v (qr (yV s (zC R A n)) s l (Yc o0 o1 o2 o3) l.length)/\zf w w':=by
 have sc:=(xq r0 r1 a0 a1 (show 0<=n by omega) n1).1;have hp:=qg r0 a0 n2;have im:zC R A n≠0:=Rat.ne_of_gt hp;have sw:=kX ss sc im;have FA:=fun(w':Ee) (k:av w w')=>We (ua1:=ua1) (ua2:=ua2) (ua3:=ua3) (ua4:=ua4) (ua5:=ua5) (ua6:=ua6) (ua7:=ua7) (ua8:=ua8) (ub1:=ub1) (ub2:=ub2) (ub3:=ub3) (ub4:=ub4) (ub5:=ub5) (ub6:=ub6) (ub7:=ub7) (ub8:=ub8) (uc1:=uc1) (uc2:=uc2) (uc3:=uc3) (uc4:=uc4) (uc5:=uc5) (uc6:=uc6) (uc7:=uc7) (uc8:=uc8) R A n w' r0 r1 a0 a1 D5 n1 n2 (h9.af k) ss;have O1:∀w',Ed Ec 47 #[Ey Ew 1] w' fun e w2=>∃v,e = Eh v/\FR w2 v (1:Rat)/\zf w' w2:=fun w'=>by have:=qt 1 w' D7 D7; rw[qW]at this; exact this
 have s1:sz (1:Rat) 2:=cF;have OS:=fun k=>Zy (w:=yV s (zC R A n)) (s:=s) sw (ss.mono D5) l (Yc o0 o1 o2 o3) k;have OO:=fun k=>Jv (w:=yV s (zC R A n)) (s:=s) (l:=l) (out:=Yc o0 o1 o2 o3) (i:=k);have OW:=fun k=>XI (w:=yV s (zC R A n)) (s:=s) (l:=l) (out:=Yc o0 o1 o2 o3) (i:=k);have OL:=fun k=>XJ (w:=yV s (zC R A n)) (s:=s) (l:=l) (out:=Yc o0 o1 o2 o3) (i:=k);have OZ:qr (yV s (zC R A n)) s l (Yc o0 o1 o2 o3) 0=1:=rfl;generalize hOF:qr (yV s (zC R A n)) s l (Yc o0 o1 o2 o3)=OF at *;generalize hWQ:yV s (zC R A n)=wq at *;generalize zC R A n=q at *;obtain⟨ao,cap,rfl⟩:=hl.ak;have HP:=E6 hl;obtain⟨N,hN⟩:∃m,l.length=m:=⟨_,rfl⟩;have HL:=E6 hN;rw[hN]at HP l0|-;clear r0 r1 a0 a1 n2 n1 hp h9 hl hOF hWQ hN
 go_enter Tryz.func65,Tryz.ntmps65
 have J:=av.refl w
 go_wp2_with (first
  | (
    (with_reducible show wpList _ _ _ (⟨some 14,_,_,_,_,_⟩::_) _ _)
    refine zO rfl 45 (.tmp 4) rfl w.heap.size rfl 45 #[Ez ua1,Ex ua2 ua3 ua4,Ez ua5,Ex ua6 ua7 ua8,Ey Ew R,Ey Ew A,Ez ub1,Ex ub2 ub3 ub4,Ez ub5,Ex ub6 ub7 ub8,Ez uc1,Ex uc2 uc3 uc4,Ez uc5,Ex uc6 uc7 uc8] _ zw Tryz.underlying45 rfl D6 ?_
    skip)
  )
 refine(FA _ (J.trans zj)).mono ?_;rintro e w1 ⟨iR,iL,rfl,g8,gn,st⟩;have B:=bA w st;have kp:=kB w st;replace J:=J.trans kp;have ou:ai w1 w.heap.size 45 #[Ez ua1,Ex ua2 ua3 ua4,Ez ua5,Ex ua6 ua7 ua8,Ey Ew R,Ey Ew A,Ez ub1,Ex ub2 ub3 ub4,Ez ub5,Ex ub6 ub7 ub8,Ez uc1,Ex uc2 uc3 uc4,Ez uc5,Ex uc6 uc7 uc8]:=ai.au st;have oj:ai w1 (w.heap.size+1) 80 #[Ey Ew o0,Ey Ew o1,Ey Ew o2,Ey Ew o3]:=ai.au st;have or:ai w1 (w.heap.size+1+1) 28 jp:=ai.au st;clear kp;clear st;obtain⟨i5,hE,gM,i8,gQ,ig,gW,gP,rfl⟩:=g8.ak;obtain⟨gN,gV,gR,i6,i7,gZ,gO,gX,rfl⟩:=gn.ak;have I:=E6 g8;clear g8;have H:=E6 gn;clear gn;have iF:w.heap.size+1+1<w1.heap.size:=or.lt;have iK:=B.size;go_wp2_with fail
 refine(O1 _).mono ?_;rintro e w2 ⟨iO,rfl,eM,st⟩;have sk:=bA w1 st;replace B:=bS B sk;have X:ai w2 w1.heap.size 28 #[Ez i5,Ex hE gM i8,Ez gQ,Ex ig gW gP]:=ai.au st;have E:ai w2 (w1.heap.size+1) 28 #[Ez gN,Ex gV gR i6,Ez i7,Ex gZ gO gX]:=ai.au st;replace ou:=ou.ae sk;replace oj:=oj.ae sk;replace or:=or.ae sk;replace I:=E6 (I.out.ae sk);replace H:=E6 (H.out.ae sk);replace J:=J.aJ sk;clear st sk;obtain⟨iu,iq,ik,ip,iB,iA,it,iv,rfl⟩:=eM.ak;have ij:=E6 eM;clear eM;have iy:w1.heap.size+1<w2.heap.size:=E.lt;have iP:=B.size;go_wp2_with fail
 have gY:Hid (FR _ (Ej #[Ez iu,Ex iq ik ip,Ez iB,Ex iA it iv]) (OF 0)):=E6 (by rw[OZ]; exact ij.out)
 go_loopw [12] (fun sl0 wr=>∃ (i:Nat) (y1:Bool) (y2:Option Addr) (y3 y4:Nat) (y5:Bool) (y6:Option Addr) (y7 y8:Nat),i<=N/\sl0 = Ey Ew i/\ai wr w2.heap.size 28 #[Ez y1,Ex y2 y3 y4,Ez y5,Ex y6 y7 y8]/\FR wr (Ej #[Ez y1,Ex y2 y3 y4,Ez y5,Ex y6 y7 y8]) (OF i)/\ai wr w.heap.size 45 #[Ez ua1,Ex ua2 ua3 ua4,Ez ua5,Ex ua6 ua7 ua8,Ey Ew R,Ey Ew A,Ez ub1,Ex ub2 ub3 ub4,Ez ub5,Ex ub6 ub7 ub8,Ez uc1,Ex uc2 uc3 uc4,Ez uc5,Ex uc6 uc7 uc8]/\ai wr (w.heap.size+1) 80 #[Ey Ew o0,Ey Ew o1,Ey Ew o2,Ey Ew o3]/\ai wr (w.heap.size+1+1) 28 jp/\ai wr w1.heap.size 28 #[Ez i5,Ex hE gM i8,Ez gQ,Ex ig gW gP]/\ai wr (w1.heap.size+1) 28 #[Ez gN,Ex gV gR i6,Ez i7,Ex gZ gO gX]/\Below w.heap.size w wr/\av w2 wr) (fun sl0 _=>N-(intOf sl0).toNat)
 case atStart=>exact⟨0,_,_,_,_,_,_,_,_,by omega,rfl,zw,gY.out.af zj,zw,zw,zw,zw,zw,zh,zj⟩
 case round=>
  clear gY ij J;clear ou oj or X E;clear B;obtain⟨i,y1,y2,y3,y4,y5,y6,y7,y8,hi,rfl,bl,fy,ou,oj,or,X,E,B,J⟩:=hrel;replace I:=E6 (I.out.af J);replace H:=E6 (H.out.af J);have Fy:=E6 fy;clear fy;have gT:=OS i;have lu:=ou.lt;obtain⟨gB,gA,gH,gG⟩:=oj.r3;have lj:=oj.lt;obtain⟨gJ,gK,gF,gC,fr,lr⟩:=or.s3;obtain⟨ft,cy,fe,gd⟩:=X.r3;have gD:=X.lt;obtain⟨fd,gt,eW,fl⟩:=E.r3;have gI:=E.lt;obtain⟨Z,Y,T,M⟩:=bl.r3;have g9:=bl.lt
  rcases Ep i N with i4 | i4
  .
   have iH:decide ((i:Int)<(N:Int))=true:=E_ D5;obtain⟨b,of,rfl,ir,h0⟩:=HP.out.fv (t:=i) (by have:=HL.out; omega);have c0:wr.cell? ⟨b,of+i,none⟩=some (Ey Ew (l.getD i 0)):=(B.cell (p:=⟨b,_,none⟩) ir).trans h0;have oo:=OO i;have ow:=OW i;have ol:=OL i;generalize l.getD i 0=y at c0 ow ol;have oT:∀m,Yc o0 o1 o2 o3 i=m->(((i:Int)==o0)||((i:Int)==o1)||((i:Int)==o2)||((i:Int)==o3))=m:=fun m h=>h;have oE:Yc o0 o1 o2 o3 i=(((i:Int)==o0)||((i:Int)==o1)||((i:Int)==o2)||((i:Int)==o3)):=rfl;rw[oE]at oo ow ol;clear h0 OO OW OL OS oT oE
   cases q0:((i:Int)==o0)with
   | true=>
    have e0:=oo (by rw[q0]; simp);clear oo ow ol c0;go_wp2_with fail
    go_roundw
    case rel=>exact⟨i+1,_,_,_,_,_,_,_,_,by omega,by go_num,zw,(by rw[e0]; exact Fy.out.af zj),zw,zw,zw,zw,zw,zh,J.trans zj⟩
    case measure=>simp[intOf]; omega
   | false=>
    cases q1:((i:Int)==o1)with
    | true=>
     have e0:=oo (by rw[q0,q1]; simp);clear oo ow ol c0;go_wp2_with fail
     go_roundw
     case rel=>exact⟨i+1,_,_,_,_,_,_,_,_,by omega,by go_num,zw,(by rw[e0]; exact Fy.out.af zj),zw,zw,zw,zw,zw,zh,J.trans zj⟩
     case measure=>simp[intOf]; omega
    | false=>
     cases q2:((i:Int)==o2)with
     | true=>
      have e0:=oo (by rw[q0,q1,q2]; simp);clear oo ow ol c0;go_wp2_with fail
      go_roundw
      case rel=>exact⟨i+1,_,_,_,_,_,_,_,_,by omega,by go_num,zw,(by rw[e0]; exact Fy.out.af zj),zw,zw,zw,zw,zw,zh,J.trans zj⟩
      case measure=>simp[intOf]; omega
     | false=>
      cases q3:((i:Int)==o3)with
      | true=>
       have e0:=oo (by rw[q0,q1,q2,q3]; simp);clear oo ow ol c0;go_wp2_with fail
       go_roundw
       case rel=>exact⟨i+1,_,_,_,_,_,_,_,_,by omega,by go_num,zw,(by rw[e0]; exact Fy.out.af zj),zw,zw,zw,zw,zw,zh,J.trans zj⟩
       case measure=>simp[intOf]; omega
      | false=>
       have f4:((((i:Int)==o0)||((i:Int)==o1))||((i:Int)==o2)||((i:Int)==o3))=false:=by rw[q0,q1,q2,q3]; rfl
       have gE:=ow f4;have gL:=ol f4;clear oo ow ol f4
       by_cases h0:0<=y
       .
        have e0:=gE D5;clear gE gL;go_wp2_with fail
        refine(kL _ (Fy.out.af zj) (I.out.af zj) gT sw D5).mono ?_;rintro e w3 ⟨jd,rfl,gz,iC⟩;have st:zf _ w3:=iC;have sk:=bA wr st;replace B:=bS B sk;replace ou:=ou.ae sk;replace oj:=oj.ae sk;replace or:=or.ae sk;replace X:=X.ae sk;replace E:=E.ae sk;replace bl:=bl.ae sk;replace I:=E6 (I.out.ae sk);replace H:=E6 (H.out.ae sk);replace Fy:=E6 (Fy.out.ae sk);replace J:=J.aJ sk;clear st sk lu gB gA gH gG lj gJ gK gF gC fr lr ft cy fe gd gD fd gt eW fl gI Z Y T M g9;obtain⟨Z,Y,T,M,iz,g9⟩:=bl.s3;obtain⟨ja,iJ,iN,iX,iV,iG,jb,iY,rfl⟩:=gz.ak;have iE:=E6 gz;clear gz;go_wp2_with fail
        go_roundw
        case rel=>exact⟨i+1,_,_,_,_,_,_,_,_,by omega,by go_num,zw,(by rw[e0]; exact iE.out.af zj),zw,zw,zw,zw,zw,zh,J.trans zj⟩
        case measure=>simp[intOf]; omega
       .
        have e0:=gL D5;clear gE gL;go_wp2_with fail
        refine(kL _ (Fy.out.af zj) (H.out.af zj) gT ss D5).mono ?_;rintro e w3 ⟨iU,rfl,cx,st⟩;have sk:=bA wr st;replace B:=bS B sk;replace ou:=ou.ae sk;replace oj:=oj.ae sk;replace or:=or.ae sk;replace X:=X.ae sk;replace E:=E.ae sk;replace bl:=bl.ae sk;replace I:=E6 (I.out.ae sk);replace H:=E6 (H.out.ae sk);replace Fy:=E6 (Fy.out.ae sk);replace J:=J.aJ sk;clear st sk lu gB gA gH gG lj gJ gK gF gC fr lr ft cy fe gd gD fd gt eW fl gI Z Y T M g9;obtain⟨Z,Y,T,M,iz,g9⟩:=bl.s3;obtain⟨iS,iM,iI,iQ,jc,iW,iT,iZ,rfl⟩:=cx.ak;have iD:=E6 cx;clear cx;go_wp2_with fail
        go_roundw
        case rel=>exact⟨i+1,_,_,_,_,_,_,_,_,by omega,by go_num,zw,(by rw[e0]; exact iD.out.af zj),zw,zw,zw,zw,zw,zh,J.trans zj⟩
        case measure=>simp[intOf]; omega
  .
   obtain rfl:i=N:=D5
   go_wp2_with fail
   refine En (by simp[results,Tryz.results65,go_sem,lu,gB,gA,gH,gG,lj,gJ,gK,gF,gC,fr,lr,ft,cy,fe,gd,gD,fd,gt,eW,fl,gI,Z,Y,T,M,g9]; rfl) rfl ?_;exact⟨_,rfl,Fy.out.af zj,zh⟩
theorem yx {l:PL} (h:z6 l=0) (k:Nat) (E:k<l.length):ji (pt l k):=by
 have:=Zv h k E;exact this
theorem y_ {l:PL} (h:z6 l=0):l.length<=200:=by
 unfold z6 at h
 rcases Ep 200 l.length with g | g
 . rw[E8 g]at h; cases h
 . exact g
theorem Wp {t:Nat->Rat} {p:Int×Int} (ht:∀i,i<4->sz (t i) 16) (h:ji p):sz (vO t p) 60/\sz (vQ t p) 60:=by
 have E:sz (p.1:Rat) 2:=zX ⟨h.1,h.2.1⟩;have H:sz (p.2:Rat) 2:=zX ⟨h.2.2.1,h.2.2.2⟩;refine⟨?_,?_⟩
 .
  unfold vO;exact(((((ht 0 D5).mul E).sub ((ht 1 D5).mul H)).add (ht 2 D5)).mono D5)
 .
  unfold vQ;exact(((((ht 1 D5).mul E).add ((ht 0 D5).mul H)).add (ht 3 D5)).mono D5)
theorem Qg {k:Nat} (I:sz x k) (J:sz y k) (H:sz a9 2) (E:z6 m=0):∀n,n<=m.length->sz (qV x y a9 m n).2 (k+3)
 | 0,_=>H.mono D5
 | n+1,h=>by
  unfold qV
  split
  . exact Y2 I J (yx E n D5)
  . exact Qg I J H E n D5
theorem XK {c:Int} (hc:z8 (yT x y (pt m n)) (qV x y a9 m n).2=c) :
  (c<0->qV x y a9 m (n+1)=((n:Int),yT x y (pt m n)))/\(c=0->(qV x y a9 m n).1<0->qV x y a9 m (n+1)=((n:Int),yT x y (pt m n)))/\(¬c<0->¬(c=0/\(qV x y a9 m n).1<0)->qV x y a9 m (n+1)=qV x y a9 m n):=by
 subst hc;refine⟨fun h=>E8 (.inl (aU.1 h)),fun h g=>E8 (.inr ⟨Yi.1 h,g⟩),fun h g=>E9 ?_⟩;rintro (e | ⟨e,e2⟩)
 . exact h (aU.2 e)
 . exact g ⟨Yi.2 e,e2⟩
theorem Wq {xs:List Int} (E:i<f9.size) (H:xs.length=i) (ht:f9.toList.take i=ints xs) (x:Int):(f9.setIfInBounds i (Ey Ew x)).toList.take (i+1)=ints (xs ++ [x]):=by
 rw[Array.toList_setIfInBounds,List.take_set,List.take_succ_eq_append_getElem (by simpa using E),ht,XG,List.set_append];have e:(ints xs).length=i:=by unfold ints; rw[List.length_map,H]
 rw[E9 D5,e,Nat.sub_self];rfl
theorem Gk:(Tryz.prog.info? 3).map (fun i=>(i.zero,i.size,i.bytes))=some (some (Ey Ew 0),1,8):=by kernel_rfl
theorem Ud (n:Nat) (h:n<=1000000000) (w:Ee):(Instr.makeSlice 46 (Ey Ew (n:Int)) (Ey Ew (n:Int))).run Ec w = .ok (Ex (some ⟨w.heap.size,0,none⟩) n n) (w.alloc (.cells (madeCells #[Ey Ew 0] n) 3)):=
 run_make_row' (P:=Ec) 46 3 (Ey Ew 0) 8 Tryz.underlying46 Gk rfl Ew Ew n D5 D5 w
theorem Qh {cs:Array Ef} (h:zU cs=true) (i:Nat) (x:Int):zU (cs.setIfInBounds i (Ey Ew x))=true:=by
 unfold zU at h|-;rw[Array.toList_setIfInBounds];rw[List.all_eq_true]at h|-;intro v hv
 rcases List.mem_or_eq_of_mem_set hv with g | g
 . exact h v g
 . rw[g]
theorem Ws (n:Nat):zU (madeCells #[Ey Ew 0] n)=true:=by
 unfold zU;rw[List.all_eq_true];intro v hv;unfold madeCells at hv;rw[Array.toList_map,List.mem_map]at hv;obtain⟨a,-,rfl⟩:=hv;rw[show (#[Value.int Ew 0]:Array Ef).size=1 from rfl,Nat.mod_one];rfl
theorem Gl {P:Program} {ops:Array Oper} {Q:Exit->Act->Ee->Prop} {rest:List Oper} {a:Act} {W:Ee} (J:Ee->Prop) (H:J W) (h:∀E,J E->wpList P ops Q rest a E):wpList P ops Q rest a W:=h W H
theorem Ht {t:Nat->Rat} {l:PL} (a9:Int) (w:Ee) (hc:ai w gc tc #[Ey Ew 0]) (h0:FR w (Ej #[Ez be,Ex ci b9 ce,Ez br,Ex cn ah cg]) (t 0)) (h1:FR w (Ej #[Ez bt,Ex bg aX bh,Ez dc,Ex cN aY cU]) (t 1)) (h2:FR w (Ej #[Ez f7,Ex dP bi f8,Ez er,Ex ey d9 em]) (t 2)) (h3:FR w (Ej #[Ez dz,Ex ed co dl,Ez ek,Ex dy dk dx]) (t 3)) (ht:∀i,i<4->sz (t i) 16) (hl:bP w vl l) (hm:bP w vm m) (cl:z6 l=0) (cm:z6 m=0) (r0:1<=a9) (r1:a9<=65536) :
  Ed Ec 61 #[Ek (some ⟨gc,0,none⟩),Ej #[Ez be,Ex ci b9 ce,Ez br,Ex cn ah cg,Ez bt,Ex bg aX bh,Ez dc,Ex cN aY cU,Ez f7,Ex dP bi f8,Ez er,Ex ey d9 em,Ez dz,Ex ed co dl,Ez ek,Ex dy dk dx],vl,vm,Ey Ew a9] w fun e w'=>∃u,e = Eh u/\aM w' u (yY t (a9:Rat) l m l.length)/\zf w w':=by
 have KC:∀w',zf w w'->ai w' gc tc #[Ey Ew 0]:=fun w' s=>hc.ae s
 have AP:∀i,i<l.length->∀w',zf w w'->Ed Ec 42 #[Ek (some ⟨gc,0,none⟩),Ej #[Ez be,Ex ci b9 ce,Ez br,Ex cn ah cg,Ez bt,Ex bg aX bh,Ez dc,Ex cN aY cU,Ez f7,Ex dP bi f8,Ez er,Ex ey d9 em,Ez dz,Ex ed co dl,Ez ek,Ex dy dk dx],Ej #[Ey Ew (pt l i).1,Ey Ew (pt l i).2]] w' fun e w2=>∃u v,e = Eh (.tuple #[u,v])/\FR w2 u (vO t (pt l i))/\FR w2 v (vQ t (pt l i))/\zf w' w2:=fun i hi w' s=>by
  have ok:=yx cl i hi;have k:=av.ae s;exact Wc (pt l i).1 (pt l i).2 w' (KC w' s) (h0.af k) (h1.af k) (h2.af k) (h3.af k) ((ht 0 D5).mono D5) ((ht 1 D5).mono D5) ((ht 2 D5).mono D5) ((ht 3 D5).mono D5) ⟨ok.1,ok.2.1⟩ ⟨ok.2.2.1,ok.2.2.2⟩
 have RA:∀w',zf w w'->Ed Ec 66 #[Ek (some ⟨gc,0,none⟩),Ey Ew a9] w' fun e w2=>∃v,e = Eh v/\FR w2 v (a9:Rat)/\zf w' w2:=fun w' s=>UW a9 w' (KC w' s) D5 D5;have SA:=fun i (hi:i<l.length)=>Wp ht (yx cl i hi);have zr:sz (a9:Rat) 2:=zX ⟨by omega,by omega⟩;have DI:∀i,i<l.length->∀k,k<m.length->∀ (w':Ee) (u v:Ef),zf w w'->FR w' u (vO t (pt l i))->FR w' v (vQ t (pt l i))->Ed Ec 101 #[Ek (some ⟨gc,0,none⟩),u,v,Ej #[Ey Ew (pt m k).1,Ey Ew (pt m k).2]] w' fun e w2=>∃d,e = Eh d/\FR w2 d (yT (vO t (pt l i)) (vQ t (pt l i)) (pt m k))/\zf w' w2:=fun i hi k hk w' u v s hu hv=>Ho (pt m k).1 (pt m k).2 w' (KC w' s) hu hv ((SA i hi).1.mono D5) ((SA i hi).2.mono D5) (yx cm k hk);have CM:∀i,i<l.length->∀k,k<m.length->∀ (w':Ee) (u v:Ef),zf w w'->FR w' u (yT (vO t (pt l i)) (vQ t (pt l i)) (pt m k))->FR w' v (qV (vO t (pt l i)) (vQ t (pt l i)) (a9:Rat) m k).2->Ed Ec 67 #[Ek (some ⟨gc,0,none⟩),u,v] w' fun e w2=>e = Eh (Ey Ew (z8 (yT (vO t (pt l i)) (vQ t (pt l i)) (pt m k)) (qV (vO t (pt l i)) (vQ t (pt l i)) (a9:Rat) m k).2))/\zf w' w2:=fun i hi k hk w' u v s hu hv=>xL w' (KC w' s) hu hv (Y2 (SA i hi).1 (SA i hi).2 (yx cm k hk)) (Qg (SA i hi).1 (SA i hi).2 zr cm k D5) D5;have SP:=fun i k c (h:z8 (yT (vO t (pt l i)) (vQ t (pt l i)) (pt m k)) (qV (vO t (pt l i)) (vQ t (pt l i)) (a9:Rat) m k).2=c)=>XK h;have P0:∀i,qV (vO t (pt l i)) (vQ t (pt l i)) (a9:Rat) m 0=(-1,(a9:Rat)):=fun i=>rfl;have PS:∀i,yY t (a9:Rat) l m (i+1)=yY t (a9:Rat) l m i ++ [(qV (vO t (pt l i)) (vQ t (pt l i)) (a9:Rat) m m.length).1]:=fun i=>rfl;have gO:=jm t (a9:Rat) l m;have PZ:yY t (a9:Rat) l m 0 = []:=rfl;have kx:=y_ cl;have lk:=y_ cm;obtain⟨PA,i7⟩:∃f,yY t (a9:Rat) l m=f:=⟨_,rfl⟩;obtain⟨XX,gX⟩:∃f:Nat->Rat,∀i,vO t (pt l i)=f i:=⟨_,fun _=>rfl⟩;obtain⟨YY,ig⟩:∃f:Nat->Rat,∀i,vQ t (pt l i)=f i:=⟨_,fun _=>rfl⟩;simp only[gX,ig,i7]at AP DI CM SP P0 PS gO PZ|-;obtain⟨DD,iD⟩:∃f:Nat->Nat->Rat,∀i k,yT (XX i) (YY i) (pt m k)=f i k:=⟨_,fun _ _=>rfl⟩;obtain⟨PP,iK⟩:∃f:Nat->Nat->Int×Rat,∀i k,qV (XX i) (YY i) (a9:Rat) m k=f i k:=⟨_,fun _ _=>rfl⟩;simp only[iD,iK]at DI CM SP P0 PS;obtain⟨la,lc,rfl⟩:=hl.ak;obtain⟨ma,mc,rfl⟩:=hm.ak;have gY:=E6 hl;have gV:=E6 hm;obtain⟨N,hN⟩:∃n,l.length=n:=⟨_,rfl⟩;obtain⟨M,hM⟩:∃n,m.length=n:=⟨_,rfl⟩;have HN:=E6 hN;have HM:=E6 hM;rw[hN]at AP DI CM gY kx|-;rw[hM]at DI CM PS gV lk|-;have lQ:=Ud N D5;clear hc h0 h1 h2 h3 ht hl hm cl cm r0 r1 SA zr i7 gX ig iD iK hN hM
 go_enter Tryz.func61,Tryz.ntmps61
 have Y:=av.refl w;go_wp2_with fail
 go_loopw [29] (fun sl0 wr=>∃ (i:Nat) (CO:Array Ef),i<=N/\sl0 = Ey Ew i/\CO.size=N/\CO.toList.take i=ints (PA i)/\zU CO=true/\ai wr (w.heap.size+1) 3 CO/\ai wr w.heap.size 30 #[Ez be,Ex ci b9 ce,Ez br,Ex cn ah cg,Ez bt,Ex bg aX bh,Ez dc,Ex cN aY cU,Ez f7,Ex dP bi f8,Ez er,Ex ey d9 em,Ez dz,Ex ed co dl,Ez ek,Ex dy dk dx]/\Below w.heap.size w wr/\av w wr) (fun sl0 _=>N-(intOf sl0).toNat)
 case atStart=>exact⟨0,_,by omega,rfl,size_madeCells _ _,(by rw[PZ]; rfl),Ws _,zw,zw,zh,zj⟩
 case round=>
  rename Ee=>wo
  try clear B
  try clear Y
  obtain⟨i,CO,hi,rfl,hs,gK,gD,H,os,B,Y⟩:=hrel;obtain⟨iq,iT,iv,iX,iS,i5,it,iM,i8,ij,gG,gH,gF,gJ,gE,gI⟩:=os.eE;have ls:=os.lt
  rcases Ep i N with i4 | i4
  .
   have lO:decide ((i:Int)<(N:Int))=true:=E_ D5;obtain⟨b,of,rfl,gM,g8,ft⟩:=gY.out.at (a:=i) (by have:=HN.out; omega);have cx:wo.cell? ⟨b,of+i*2,none⟩=some (Ey Ew (pt l i).1):=(B.cell (p:=⟨b,_,none⟩) gM).trans g8;have cy:wo.cell? ⟨b,of+i*2+1,none⟩=some (Ey Ew (pt l i).2):=(B.cell (p:=⟨b,_,none⟩) gM).trans ft;have ap:=AP i i4;have di:=DI i i4;have lH:=CM i i4;have sp:=SP i;have p0:=P0 i;have ps:=PS i;clear g8 ft gM;have lK:w.heap.size+1<wo.heap.size:=H.lt;have lZ:=B.size;go_wp2_with fail
   refine(ap _ zh).mono ?_;rintro e w1 ⟨me,mn,rfl,gt,gn,st⟩;have sk:=bA wo st;replace B:=bS B sk;have J:ai w1 wo.heap.size 23 #[Ey Ew (pt l i).1,Ey Ew (pt l i).2]:=ai.au st;replace os:=os.ae sk;replace H:=H.ae sk;replace Y:=Y.aJ sk;clear st sk iq iT iv iX iS i5 it iM i8 ij gG gH gF gJ gE gI ls;obtain⟨iE,i6,im,iC,iP,gZ,iz,h9,rfl⟩:=FR.ak gt;have T:=E6 gt;clear gt;obtain⟨iO,gW,hE,iG,iB,gQ,iU,iJ,rfl⟩:=FR.ak gn;have X:=E6 gn;clear gn;have lh:wo.heap.size<w1.heap.size:=J.lt;have lW:=B.size;dsimp only;have lq:=H.lt;have fq:=H.fr;have lI:=B.size;have k7:w.heap.size+1≠w1.heap.size:=D5
   have iZ:w.heap.size+1≠w1.heap.size+1:=D5
   have lj:w.heap.size+1<w1.heap.size+1:=D5
   have lf:w1.cell? ⟨w.heap.size+1,i,none⟩=some (CO[i]'D5):=(H.cell i).trans (Array.getElem?_eq_getElem D5)
   repeat' (first | (with_reducible show wpList _ _ _ (⟨some 44,_,_,_,_,_⟩::_) _ _; generalize hZ : @wpList=Z) | go_values | go_skip | go_guarded | go_step | go_upon)
   subst hZ;clear lq fq lf lI k7 iZ lj;refine Gl (fun wz=>ai wz w.heap.size 30 #[Ez be,Ex ci b9 ce,Ez br,Ex cn ah cg,Ez bt,Ex bg aX bh,Ez dc,Ex cN aY cU,Ez f7,Ex dP bi f8,Ez er,Ex ey d9 em,Ez dz,Ex ed co dl,Ez ek,Ex dy dk dx]/\ai wz (w.heap.size+1) 3 (CO.setIfInBounds i (Ey Ew (-1)))/\ai wz wo.heap.size 23 #[Ey Ew (pt l i).1,Ey Ew (pt l i).2]/\ai wz w1.heap.size 28 #[Ez iE,Ex i6 im iC,Ez iP,Ex gZ iz h9]/\ai wz (w1.heap.size+1) 28 #[Ez iO,Ex gW hE iG,Ez iB,Ex gQ iU iJ]/\Below w.heap.size w wz/\av w1 wz) ⟨zw,((H.bL i _).alloc _).alloc _,zw,zw,zw,zh,((av.set (av.refl _) ⟨3,CO,H,gD⟩).alloc _).alloc _⟩ ?_;rintro wx ⟨ps,pq,iA,iy,iY,B2,k2⟩;clear os H J;clear B;have B:=B2;clear B2;have os:=ps;have H:=pq;have J:=iA;have bl:=iy;have I:=iY;clear ps pq iA iy iY;replace T:=E6 (T.out.af k2);replace X:=E6 (X.out.af k2);replace Y:=Y.trans k2;clear k2;go_wp2_with fail
   refine(RA _ zh).mono ?_;rintro e w2 ⟨mf,rfl,fe,st⟩;have sk:=bA wx st;replace B:=bS B sk;replace os:=os.ae sk;replace H:=H.ae sk;replace J:=J.ae sk;replace bl:=bl.ae sk;replace I:=I.ae sk;replace T:=E6 (T.out.ae sk);replace X:=E6 (X.out.ae sk);replace Y:=Y.aJ sk;clear st sk;obtain⟨m9,lY,lP,m8,ml,mg,mb,mh,rfl⟩:=fe.ak;have iW:=E6 fe;clear fe;have k8:w1.heap.size+1<w2.heap.size:=I.lt;have jb:=B.size;go_wp2_with fail
   go_loopw [49] (fun sl0 wr=>∃ (k:Nat) (y1:Bool) (y2:Option Addr) (y3 y4:Nat) (y5:Bool) (y6:Option Addr) (y7 y8:Nat),k<=M/\sl0 = Ey Ew k/\ai wr (w.heap.size+1) 3 (CO.setIfInBounds i (Ey Ew (PP i k).1))/\ai wr w2.heap.size 28 #[Ez y1,Ex y2 y3 y4,Ez y5,Ex y6 y7 y8]/\FR wr (Ej #[Ez y1,Ex y2 y3 y4,Ez y5,Ex y6 y7 y8]) (PP i k).2/\ai wr w.heap.size 30 #[Ez be,Ex ci b9 ce,Ez br,Ex cn ah cg,Ez bt,Ex bg aX bh,Ez dc,Ex cN aY cU,Ez f7,Ex dP bi f8,Ez er,Ex ey d9 em,Ez dz,Ex ed co dl,Ez ek,Ex dy dk dx]/\ai wr wo.heap.size 23 #[Ey Ew (pt l i).1,Ey Ew (pt l i).2]/\ai wr w1.heap.size 28 #[Ez iE,Ex i6 im iC,Ez iP,Ex gZ iz h9]/\ai wr (w1.heap.size+1) 28 #[Ez iO,Ex gW hE iG,Ez iB,Ex gQ iU iJ]/\Below w.heap.size w wr/\av w2 wr) (fun sl0 _=>M-(intOf sl0).toNat)
   case atStart=>exact⟨0,_,_,_,_,_,_,_,_,by omega,rfl,(by rw[p0]; exact zw),zw,(by rw[p0]; exact iW.out.af zj),zw,zw,zw,zw,zh,zj⟩
   case round=>
    clear os H J bl I
    try clear B
    have jd:=Y.trans zj
    try clear Y
    clear iW;obtain⟨k,y1,y2,y3,y4,y5,y6,y7,y8,hk,rfl,H,E,fy,os,J,bl,I,B,Y⟩:=hrel;replace T:=E6 (T.out.af Y);replace X:=E6 (X.out.af Y);have Fy:=E6 fy;clear fy;obtain⟨pk,eW⟩:∃z,(PP i k).1=z:=⟨_,rfl⟩;rw[eW]at H;obtain⟨iV,iL,iH,iF⟩:=bl.r3;have lC:=bl.lt;obtain⟨iQ,iN,gR,iR⟩:=I.r3;have lE:=I.lt
    rcases Ep k M with k4 | k4
    .
     have lN:decide ((k:Int)<(M:Int))=true:=E_ D5;obtain⟨b',ik,rfl,g9,g8,ft⟩:=gV.out.at (a:=k) (by have:=HM.out; omega);have cx:wr.cell? ⟨b',ik+k*2,none⟩=some (Ey Ew (pt m k).1):=(B.cell (p:=⟨b',_,none⟩) g9).trans g8;have cy:wr.cell? ⟨b',ik+k*2+1,none⟩=some (Ey Ew (pt m k).2):=(B.cell (p:=⟨b',_,none⟩) g9).trans ft;have lw:=di k k4;have ip:=lH k k4;obtain⟨c,gL⟩:∃c,z8 (DD i k) (PP i k).2=c:=⟨_,rfl⟩;rw[gL]at ip;have sq:=sp k c gL;rw[eW]at sq;clear g8 ft g9 gL;have ln:w2.heap.size<wr.heap.size:=E.lt;have jb:=B.size;go_wp2_with fail
     refine(lw _ _ _ zh (T.out.af zj) (X.out.af zj)).mono ?_;rintro e w3 ⟨m7,rfl,fd,st⟩;have sk:=bA wr st;replace B:=bS B sk;have gP:ai w3 wr.heap.size 23 #[Ey Ew (pt m k).1,Ey Ew (pt m k).2]:=ai.au st;replace os:=os.ae sk;replace J:=J.ae sk;replace bl:=bl.ae sk;replace I:=I.ae sk;replace H:=H.ae sk;replace E:=E.ae sk;replace T:=E6 (T.out.ae sk);replace X:=E6 (X.out.ae sk);replace Fy:=E6 (Fy.out.ae sk);replace Y:=Y.aJ sk;clear st sk iV iL iH iF lC iQ iN gR iR lE;obtain⟨gz,gA,gd,fl⟩:=E.r3;have gN:=E.lt;obtain⟨ja,l9,lF,km,l6,l3,ko,jc,rfl⟩:=fd.ak;have gB:=E6 fd;clear fd;have ks:wr.heap.size<w3.heap.size:=gP.lt;have mj:=B.size;go_wp2_with fail
     refine(ip _ _ _ zh (gB.out.af zj) (Fy.out.af zj)).mono ?_;rintro e w4 ⟨rfl,st⟩;have sk:=bA w3 st;replace B:=bS B sk;have gC:ai w4 w3.heap.size 28 #[Ez ja,Ex l9 lF km,Ez l6,Ex l3 ko jc]:=ai.au st;replace os:=os.ae sk;replace J:=J.ae sk;replace bl:=bl.ae sk;replace I:=I.ae sk;replace H:=H.ae sk;replace E:=E.ae sk;replace gP:=gP.ae sk;replace T:=E6 (T.out.ae sk);replace X:=E6 (X.out.ae sk);replace Fy:=E6 (Fy.out.ae sk);replace gB:=E6 (gB.out.ae sk);replace Y:=Y.aJ sk;clear st sk gz gA gd fl gN;dsimp only;have lq:=H.lt;have fq:=H.fr;have lX:w4.cell? ⟨w.heap.size+1,i,none⟩=some (Ey Ew pk):=(H.cell i).trans (Array.getElem?_setIfInBounds_self_of_lt D5)
     by_cases c1:c<0
     .
      have e0:=sq.1 D5;have l8:=gC.lt;have gN:=E.lt;have lG:=E.fr;obtain⟨ir,gT,iI,iu⟩:=gC.r3;obtain⟨gz,gA,gd,fl⟩:=E.r3;have kw:w.heap.size+1≠w2.heap.size:=D5
      have k6:w.heap.size+1≠w3.heap.size:=D5
      have ki:w2.heap.size≠w3.heap.size:=D5
      go_upto_region 15 with fail
      go_region
      have kq:av w4 (w4.setCell ⟨w.heap.size+1,i,none⟩ (Ey Ew (k:Int))):=av.set (av.refl _) ⟨_,_,H,Qh gD i pk⟩;have ky:ai (w4.setCell ⟨w.heap.size+1,i,none⟩ (Ey Ew (k:Int))) (w.heap.size+1) 3 (CO.setIfInBounds i (Ey Ew (k:Int))):=by have:=H.bL i (Ey Ew (k:Int)); rw[Array.setIfInBounds_setIfInBounds]at this; exact this
      go_wp2_with fail
      go_roundw
      case rel=>exact⟨k+1,_,_,_,_,_,_,_,_,by omega,by go_num,(by rw[e0]; exact zw),zw,(by rw[e0]; exact gB.out.af (kq.trans zj)),zw,zw,zw,zw,zh,Y.trans (kq.trans zj)⟩
      case measure=>simp[intOf]; omega
     .
      by_cases c2:c=0
      .
       by_cases c3:pk<0
       .
        have e0:=sq.2.1 D5 D5;subst c2;have l8:=gC.lt;have gN:=E.lt;have lG:=E.fr;obtain⟨ir,gT,iI,iu⟩:=gC.r3;obtain⟨gz,gA,gd,fl⟩:=E.r3;have kw:w.heap.size+1≠w2.heap.size:=D5
        have k6:w.heap.size+1≠w3.heap.size:=D5
        have ki:w2.heap.size≠w3.heap.size:=D5
        go_upto_region 15 with fail
        go_region
        have kq:av w4 (w4.setCell ⟨w.heap.size+1,i,none⟩ (Ey Ew (k:Int))):=av.set (av.refl _) ⟨_,_,H,Qh gD i pk⟩;have ky:ai (w4.setCell ⟨w.heap.size+1,i,none⟩ (Ey Ew (k:Int))) (w.heap.size+1) 3 (CO.setIfInBounds i (Ey Ew (k:Int))):=by have:=H.bL i (Ey Ew (k:Int)); rw[Array.setIfInBounds_setIfInBounds]at this; exact this
        go_wp2_with fail
        go_roundw
        case rel=>exact⟨k+1,_,_,_,_,_,_,_,_,by omega,by go_num,(by rw[e0]; exact zw),zw,(by rw[e0]; exact gB.out.af (kq.trans zj)),zw,zw,zw,zw,zh,Y.trans (kq.trans zj)⟩
        case measure=>simp[intOf]; omega
       .
        have e0:=sq.2.2 D5 (by first | omega | (intro h; omega) | (rintro ⟨h,g⟩; omega));subst c2;go_wp2_with fail
        go_roundw
        case rel=>exact⟨k+1,_,_,_,_,_,_,_,_,by omega,by go_num,(by rw[e0,eW]; exact zw),zw,(by rw[e0]; exact Fy.out.af zj),zw,zw,zw,zw,zh,Y.trans zj⟩
        case measure=>simp[intOf]; omega
      .
       have e0:=sq.2.2 D5 (by first | omega | (intro h; omega) | (rintro ⟨h,g⟩; omega));go_wp2_with fail
       go_roundw
       case rel=>exact⟨k+1,_,_,_,_,_,_,_,_,by omega,by go_num,(by rw[e0,eW]; exact zw),zw,(by rw[e0]; exact Fy.out.af zj),zw,zw,zw,zw,zh,Y.trans zj⟩
       case measure=>simp[intOf]; omega
    .
     have lM:decide ((k:Int)<(M:Int))=false:=E' D5;have eM:k=M:=D5
     rw[eM]at eW;go_wp2_with fail
     go_roundw
     case rel=>exact⟨i+1,CO.setIfInBounds i (Ey Ew pk),by omega,by go_num,by rw[Array.size_setIfInBounds]; exact hs,by rw[ps,eW]; exact Wq D5 (gO i) gK pk,Qh gD i pk,zw,zw,zh,jd.trans (Y.trans zj)⟩
     case measure=>simp[intOf]; omega
  .
   have eN:i=N:=D5
   have lJ:decide ((i:Int)<(N:Int))=false:=E' D5;rw[eN]at gK;go_wp2_with fail
   refine En (by simp[results,Tryz.results61,go_sem,iq,iT,iv,iX,iS,i5,it,iM,i8,ij,gG,gH,gF,gJ,gE,gI,ls]; rfl) rfl ?_;exact⟨_,rfl,Jw zw (gO N) (Eo _) gK,zh⟩
theorem Gm {t:Nat->Rat} {l:PL} (a9:Int) (w:Ee) (h0:FR w (Ej #[Ez be,Ex ci b9 ce,Ez br,Ex cn ah cg]) (t 0)) (h1:FR w (Ej #[Ez bt,Ex bg aX bh,Ez dc,Ex cN aY cU]) (t 1)) (h2:FR w (Ej #[Ez f7,Ex dP bi f8,Ez er,Ex ey d9 em]) (t 2)) (h3:FR w (Ej #[Ez dz,Ex ed co dl,Ez ek,Ex dy dk dx]) (t 3)) (ht:∀i,i<4->sz (t i) 16) (hl:bP w vl l) (hm:bP w vm m) (cl:z6 l=0) (cm:z6 m=0) (r0:1<=a9) (r1:a9<=65536) :
  Ed Ec 63 #[Ej #[Ez be,Ex ci b9 ce,Ez br,Ex cn ah cg,Ez bt,Ex bg aX bh,Ez dc,Ex cN aY cU,Ez f7,Ex dP bi f8,Ez er,Ex ey d9 em,Ez dz,Ex ed co dl,Ez ek,Ex dy dk dx],vl,vm,Ey Ew a9] w fun e w'=>∃u,e = Eh u/\aM w' u (yY t (a9:Rat) l m l.length)/\zf w w':=by
 have AP:∀i,i<l.length->∀w',zf w w'->Ed Ec 43 #[Ej #[Ez be,Ex ci b9 ce,Ez br,Ex cn ah cg,Ez bt,Ex bg aX bh,Ez dc,Ex cN aY cU,Ez f7,Ex dP bi f8,Ez er,Ex ey d9 em,Ez dz,Ex ed co dl,Ez ek,Ex dy dk dx],Ej #[Ey Ew (pt l i).1,Ey Ew (pt l i).2]] w' fun e w2=>∃u v,e = Eh (.tuple #[u,v])/\FR w2 u (vO t (pt l i))/\FR w2 v (vQ t (pt l i))/\zf w' w2:=fun i hi w' s=>by
  have ok:=yx cl i hi;have k:=av.ae s;exact Hn (pt l i).1 (pt l i).2 w' (h0.af k) (h1.af k) (h2.af k) (h3.af k) ((ht 0 D5).mono D5) ((ht 1 D5).mono D5) ((ht 2 D5).mono D5) ((ht 3 D5).mono D5) ⟨ok.1,ok.2.1⟩ ⟨ok.2.2.1,ok.2.2.2⟩
 have RA:∀w',Ed Ec 47 #[Ey Ew a9] w' fun e w2=>∃v,e = Eh v/\FR w2 v (a9:Rat)/\zf w' w2:=fun w'=>qt a9 w' D5 D5;have SA:=fun i (hi:i<l.length)=>Wp ht (yx cl i hi);have zr:sz (a9:Rat) 2:=zX ⟨by omega,by omega⟩;have DI:∀i,i<l.length->∀k,k<m.length->∀ (w':Ee) (u v:Ef),FR w' u (vO t (pt l i))->FR w' v (vQ t (pt l i))->Ed Ec 30 #[u,v,Ej #[Ey Ew (pt m k).1,Ey Ew (pt m k).2]] w' fun e w2=>∃d,e = Eh d/\FR w2 d (yT (vO t (pt l i)) (vQ t (pt l i)) (pt m k))/\zf w' w2:=fun i hi k hk w' u v hu hv=>Ge (pt m k).1 (pt m k).2 w' hu hv ((SA i hi).1.mono D5) ((SA i hi).2.mono D5) (yx cm k hk);have CM:∀i,i<l.length->∀k,k<m.length->∀ (w':Ee) (u v:Ef),FR w' u (yT (vO t (pt l i)) (vQ t (pt l i)) (pt m k))->FR w' v (qV (vO t (pt l i)) (vQ t (pt l i)) (a9:Rat) m k).2->Ed Ec 46 #[u,v] w' fun e w2=>e = Eh (Ey Ew (z8 (yT (vO t (pt l i)) (vQ t (pt l i)) (pt m k)) (qV (vO t (pt l i)) (vQ t (pt l i)) (a9:Rat) m k).2))/\zf w' w2:=fun i hi k hk w' u v hu hv=>Zw w' hu hv (Y2 (SA i hi).1 (SA i hi).2 (yx cm k hk)) (Qg (SA i hi).1 (SA i hi).2 zr cm k D5) D5;have SP:=fun i k c (h:z8 (yT (vO t (pt l i)) (vQ t (pt l i)) (pt m k)) (qV (vO t (pt l i)) (vQ t (pt l i)) (a9:Rat) m k).2=c)=>XK h;have P0:∀i,qV (vO t (pt l i)) (vQ t (pt l i)) (a9:Rat) m 0=(-1,(a9:Rat)):=fun i=>rfl;have PS:∀i,yY t (a9:Rat) l m (i+1)=yY t (a9:Rat) l m i ++ [(qV (vO t (pt l i)) (vQ t (pt l i)) (a9:Rat) m m.length).1]:=fun i=>rfl;have im:=jm t (a9:Rat) l m;have PZ:yY t (a9:Rat) l m 0 = []:=rfl;have lK:=y_ cl;have lX:=y_ cm;obtain⟨PA,iG⟩:∃f,yY t (a9:Rat) l m=f:=⟨_,rfl⟩;obtain⟨XX,iA⟩:∃f:Nat->Rat,∀i,vO t (pt l i)=f i:=⟨_,fun _=>rfl⟩;obtain⟨YY,iJ⟩:∃f:Nat->Rat,∀i,vQ t (pt l i)=f i:=⟨_,fun _=>rfl⟩;simp only[iA,iJ,iG]at AP DI CM SP P0 PS im PZ|-;obtain⟨DD,iZ⟩:∃f:Nat->Nat->Rat,∀i k,yT (XX i) (YY i) (pt m k)=f i k:=⟨_,fun _ _=>rfl⟩;obtain⟨PP,jd⟩:∃f:Nat->Nat->Int×Rat,∀i k,qV (XX i) (YY i) (a9:Rat) m k=f i k:=⟨_,fun _ _=>rfl⟩;simp only[iZ,jd]at DI CM SP P0 PS;obtain⟨la,lc,rfl⟩:=hl.ak;obtain⟨ma,mc,rfl⟩:=hm.ak;have iB:=E6 hl;have iz:=E6 hm;obtain⟨N,hN⟩:∃n,l.length=n:=⟨_,rfl⟩;obtain⟨M,hM⟩:∃n,m.length=n:=⟨_,rfl⟩;have HN:=E6 hN;have HM:=E6 hM;rw[hN]at AP DI CM iB lK|-;rw[hM]at DI CM PS iz lX|-;generalize (a9:Rat)=RQ at RA P0;have lQ:=E6 PS;have iE:=E6 im;clear h0 h1 h2 h3 ht hl hm cl cm r0 r1 SA zr iG iA iJ iZ jd hN hM PS im
 go_enter Tryz.func63,Tryz.ntmps63
 have kk:=av.refl w;go_wp2_with fail
 go_loopw [9,10] (fun ow sl0 wo=>∃ (i:Nat) (oa:Option Addr) (oc:Nat),i<=N/\sl0 = Ey Ew i/\ow = Ex oa (PA i).length oc/\aW wo (w.heap.size+1) 3 1 ow (PA i).length (ints (PA i))/\ai wo w.heap.size 30 #[Ez be,Ex ci b9 ce,Ez br,Ex cn ah cg,Ez bt,Ex bg aX bh,Ez dc,Ex cN aY cU,Ez f7,Ex dP bi f8,Ez er,Ex ey d9 em,Ez dz,Ex ed co dl,Ez ek,Ex dy dk dx]/\Below w.heap.size w wo/\av w wo) (fun _ sl0 _=>N-(intOf sl0).toNat)
 case atStart=>exact⟨0,none,0,by omega,rfl,by rw[PZ]; rfl,by rw[PZ]; exact aW.nil _ _ _ _,zw,zh,zj⟩
 case round=>
  rename Ee=>wo
  try clear kk
  try clear B
  try clear os
  obtain⟨i,oa,oc,hi,rfl,rfl,hr,os,Bw,kw⟩:=hrel;have HR:=E6 hr;clear hr
  rcases Ep i N with i4 | i4
  obtain⟨lF,mh,lI,mj,mf,l8,lH,m7,ln,lw,iO,iQ,iI,iV,iy,iT⟩:=os.eE;have ls:=os.lt
  .
   have iK:decide ((i:Int)<(N:Int))=true:=E_ D5;have mH:w.heap.size<wo.heap.size:=os.lt;obtain⟨b,of,rfl,iN,lN,lE⟩:=(iB.out.ae Bw).at (a:=i) (by have:=HN.out; omega);have lW:=E6 (iz.out.ae Bw);have ap:∀w',zf wo w'->_:=fun w' s=>AP i i4 w' (zt Bw (Eo _) s);have di:=DI i i4;have mg:=CM i i4;have sp:=SP i;have p0:=P0 i;have kk:=av.refl wo;have B:=Below.refl wo.heap.size wo;go_wp2_with fail
   go_upto_region 5 with fail
   refine aj.bZ (fun N0 D v W=>Below wo.heap.size wo W/\av wo W/\N0<=W.heap.size/\ai W w.heap.size 30 #[Ez be,Ex ci b9 ce,Ez br,Ex cn ah cg,Ez bt,Ex bg aX bh,Ez dc,Ex cN aY cU,Ez f7,Ex dP bi f8,Ez er,Ex ey d9 em,Ez dz,Ex ed co dl,Ez ek,Ex dy dk dx]/\(D 9=true->∃g:Nat,v 9 = Ek (some ⟨g,0,none⟩)/\N0<=g/\g<W.heap.size/\(D 11=false->ai W g 28 jp)/\(D 11=true->D 5=true/\∃cs,XD 0 (v 5) = Ej cs/\ai W g 28 cs))/\(D 10=true->∃g:Nat,v 10 = Ek (some ⟨g,0,none⟩)/\N0<=g/\g<W.heap.size/\(D 12=false->ai W g 28 jp)/\(D 12=true->D 5=true/\∃cs,XD 1 (v 5) = Ej cs/\ai W g 28 cs))/\(D 9=true->D 10=true->v 9≠v 10))
    (aj.inl [5,9,10,11,12]) (aj.gv [(5,By),(9,xI),(10,xI)]) (gw [(5,dV ((XX i)) ((YY i)))]) (fun _=>av) (fun _ _=>False) (aj.pl [(11,[(5,some 30),(9,some 11)]),(12,[(5,some 30),(10,some 12)]),(13,[(5,some 30),(9,some 11),(10,some 12)])]) (aj.pl [(9,[11]),(5,[11,12]),(10,[12])])
    D6 D6 D6 (aj.dI _ (by (repeat' refine List.forall_mem_cons.2 ⟨?_,?_⟩)<;>first | exact⟨_,false,none,0,0,false,none,0,0,false,none,0,0,false,none,0,0,rfl⟩ | exact⟨_,0,rfl⟩ | (intro p E; cases E))) (fun N0 gM=>⟨fun v=> ?_,fun D v v' W hv hj=> ?_,fun D v k j W W' x _ _ _ _ hk hg=>qT _ (by intro p hp; simp only[List.mem_cons,List.not_mem_nil,or_false]at hp; rcases hp with rfl<;>first | exact bc.af | exact cZ.af | exact dH.af | exact cz.af | exact eo.af | exact dV.af | exact dM.af) hk hg,fun _ _ _ _ h=>h.elim,fun gW Q' g9 hQ=> ?_⟩)
   . exact⟨zh,zj,Dq gM,zw,(fun h=>Bool.noConfusion h),(fun h=>Bool.noConfusion h),(fun h=>Bool.noConfusion h)⟩
   .
    obtain⟨j0,jk,jn,T,I,H,E⟩:=hj;exact⟨j0,jk,jn,T,fun h=>by obtain⟨g,e1,e2,e3,e4,e5⟩:=I h; exact⟨g,(hv 9 h)▸e1,e2,e3,e4,fun h=>by obtain⟨d,cs,e,hb⟩:=e5 h; exact⟨d,cs,(hv 5 d)▸e,hb⟩⟩,fun h=>by obtain⟨g,e1,e2,e3,e4,e5⟩:=H h; exact⟨g,(hv 10 h)▸e1,e2,e3,e4,fun h=>by obtain⟨d,cs,e,hb⟩:=e5 h; exact⟨d,cs,(hv 5 d)▸e,hb⟩⟩,fun h h'=>(hv 9 h)▸(hv 10 h')▸E h h'⟩
   have eN:=gM.out
   try simp only[World.size_alloc,World.size_setCell,World.size_drew,World.heap_drewN]at eN
   have my:w.heap.size<N0:=by first | omega | (have h:=os.lt; omega)
   have iw:wo.heap.size<=N0:=by first | omega | (have h:=B.size; omega)
   clear lF mh lI mj mf l8 lH m7 ln lw iO iQ iI iV iy iT ls;clear gM;refine aj.aO 25 (fun _ _ _ h=>h.2.2.2.1.eE) ?_
   repeat refine aj.aD _ ?_
   apply aj.RP rfl rfl rfl 29 rfl rfl
   .
    intro D v' W' hc hj Y K hK;obtain⟨j0,jk,jn,T,I,H,E⟩:=hj;have m9:W'.cell? ⟨b,of+i*2,none⟩=some (Ey Ew (pt l i).1):=(j0.cell (p:=⟨b,_,none⟩) iN).trans lN;have l6:W'.cell? ⟨b,of+i*2+1,none⟩=some (Ey Ew (pt l i).2):=(j0.cell (p:=⟨b,_,none⟩) iN).trans lE;go_step;exact hK.out
   . rfl
   refine aj.aC rfl (ZB rfl) rfl (fun D v' W' hc hj Y K hK=> ?_) ?_
   .
    obtain⟨j0,jk,jn,T,I,H,E⟩:=hj;clear Y;go_step;refine(ap W' j0).mono ?_;rintro e W2 ⟨u,u',rfl,hu,iC,J⟩;obtain⟨cx,fe,fl,ft,gt,gC,gE,gD,rfl⟩:=hu.ak;obtain⟨cy,eW,fd,g8,gd,gA,gG,gF,rfl⟩:=iC.ak;exact hK.out _ W2 (av.ae J) ⟨X1 j0 J,jk.aJ J,KQ jn J,T.ae J,fun h=>by obtain⟨g,e1,e2,e3,e4,e5⟩:=I h; exact⟨g,e1,e2,Nat.lt_of_lt_of_le e3 (J).size,fun h=>(e4 h).ae J,fun h=>Bool.noConfusion ((hc.2 11 D7).symm.trans h)⟩,fun h=>by obtain⟨g,e1,e2,e3,e4,e5⟩:=H h; exact⟨g,e1,e2,Nat.lt_of_lt_of_le e3 (J).size,fun h=>(e4 h).ae J,fun h=>Bool.noConfusion ((hc.2 12 D7).symm.trans h)⟩,E⟩ ⟨_,_,rfl,hu,iC⟩ ⟨_,_,_,_,_,_,_,_,_,_,_,_,_,_,_,_,rfl⟩
   rintro _ ⟨cx,fe,fl,ft,gt,gC,gE,gD,cy,eW,fd,g8,gd,gA,gG,gF,rfl⟩;refine aj.aB (b:=⟨#[_,_,_,_,_,_,_,_,_,_,_,_,_,_,_,_,_,_,_,_,_,_,_,_,_,_,_,_,_,_,_,_,_,_,_,_,_,_,_,_,_,_,_,_,_,_,_,_,_,_,_,_,_,_,_,_,_,_,_,_,_,_,_,_,_,_,_,_],_⟩) rfl ?_
   repeat refine aj.aD _ ?_
   refine aj.aC rfl (ZB rfl) rfl (fun D v' W' hc hj Y K hK=> ?_) ?_
   .
    obtain⟨j0,jk,jn,T,I,H,E⟩:=hj;go_step;have J:∀o:Obj,zf W' (W'.alloc o):=fun o=>(Below.refl _ _).alloc (Eo _) o;exact hK.out _ _ (av.ae (J _)) ⟨X1 j0 (J _),jk.aJ (J _),KQ jn (J _),T.ae (J _),fun _=>⟨W'.heap.size,rfl,jn,by rw[World.size_alloc]; omega,fun _=>ai.new _ _ _,fun h=>Bool.noConfusion ((hc.2 11 D7).symm.trans h)⟩,fun h=>by obtain⟨g,e1,e2,e3,e4,e5⟩:=H h; exact⟨g,e1,e2,Nat.lt_of_lt_of_le e3 ((J _)).size,fun h=>(e4 h).ae (J _),fun h=>by obtain⟨d,cs,e,hb⟩:=e5 h; exact⟨d,cs,e,hb.ae (J _)⟩⟩,fun _ h'=>by obtain⟨g,e1,e2,e3,e4,e5⟩:=H h'; exact fun e=>aj.du e3 (e.trans e1)⟩ trivial ⟨_,rfl⟩
   rintro _ ⟨p11,rfl⟩;refine aj.aB (b:=⟨#[_,_,_,_,_,_,_,_,_,_,_,_,_,_,_,_,_,_,_,_,_,_,_,_,_,_,_,_,_,_,_,_,_,_,_,_,_,_,_,_,_,_,_,_,_,_,_,_,_,_,_,_,_,_,_,_,_,_,_,_,_,_,_,_,_,_,_,_],_⟩) rfl ?_;refine aj.aC rfl (ZB rfl) rfl (fun D v' W' hc hj Y K hK=> ?_) ?_
   .
    obtain⟨j0,jk,jn,T,I,H,E⟩:=hj;go_step;have J:∀o:Obj,zf W' (W'.alloc o):=fun o=>(Below.refl _ _).alloc (Eo _) o;exact hK.out _ _ (av.ae (J _)) ⟨X1 j0 (J _),jk.aJ (J _),KQ jn (J _),T.ae (J _),fun h=>by obtain⟨g,e1,e2,e3,e4,e5⟩:=I h; exact⟨g,e1,e2,Nat.lt_of_lt_of_le e3 ((J _)).size,fun h=>(e4 h).ae (J _),fun h=>by obtain⟨d,cs,e,hb⟩:=e5 h; exact⟨d,cs,e,hb.ae (J _)⟩⟩,fun _=>⟨W'.heap.size,rfl,jn,by rw[World.size_alloc]; omega,fun _=>ai.new _ _ _,fun h=>Bool.noConfusion ((hc.2 12 D7).symm.trans h)⟩,fun h _=>by obtain⟨g,e1,e2,e3,e4,e5⟩:=I h; exact fun e=>aj.du e3 (e.symm.trans e1)⟩ trivial ⟨_,rfl⟩
   rintro _ ⟨p12,rfl⟩;refine aj.aB (b:=⟨#[_,_,_,_,_,_,_,_,_,_,_,_,_,_,_,_,_,_,_,_,_,_,_,_,_,_,_,_,_,_,_,_,_,_,_,_,_,_,_,_,_,_,_,_,_,_,_,_,_,_,_,_,_,_,_,_,_,_,_,_,_,_,_,_,_,_,_,_],_⟩) rfl ?_;refine aj.dL (fun D v' W' hc hj Y K hK=> ?_) (fun _ _=>aj.aB (b:=⟨_,_⟩) rfl ?_)
   .
    obtain⟨j0,jk,jn,T,I,H,E⟩:=hj;have f:=Y (9,some 11) (.tail _ (.head _)) rfl;have e6:v' 9 = Ek (some ⟨p11,0,none⟩):=f.2.1;obtain⟨g,e1,e2,e3,e4,e5⟩:=I f.1;obtain rfl:p11=g:=aj.bI (e6.symm.trans e1);have hb:=e4 hc.1;clear e4 e5;have fc:=Y (5,some 30) (.head _) rfl;have ec:XD 0 (v' 5) = Ej #[Ez cx,Ex fe fl ft,Ez gt,Ex gC gE gD]:=by rw[fc.2.1]; rfl
    have ff:=hb.fr;obtain⟨lk,lh,lM,me⟩:=hb.r3;go_step;exact hK.out undef _ (X8 hb rfl) ⟨(UV j0 (by show wo.heap.size<=p11; omega)),jk.trans (X8 hb rfl),by simpa using jn,(T).ew (show w.heap.size≠p11 by omega),fun _=>⟨p11,e1,e2,by simpa using e3,fun h=>Bool.noConfusion h,fun _=>⟨fc.1,_,ec,(ai.bF (cs':=#[Ez cx,Ex fe fl ft,Ez gt,Ex gC gE gD]) (ai.bF (cs':=#[Ez cx,Ex fe fl ft,Ez gt,Ex none 0 0]) (ai.bF (cs':=#[Ez cx,Ex fe fl ft,Ez false,Ex none 0 0]) (ai.bF (cs':=#[Ez cx,Ex none 0 0,Ez false,Ex none 0 0]) hb (i:=0) rfl) (i:=1) rfl) (i:=2) rfl) (i:=3) rfl)⟩⟩,fun h=>by obtain⟨g,k1,k2,k3,k4,k5⟩:=H h; have gL:g≠p11:=fun e=>(E f.1 h) (by rw[e6,k1,e]); exact⟨g,k1,k2,by simpa using k3,fun h=>(k4 h).ew gL,fun h=>by obtain⟨d,cs,e,ir⟩:=k5 h; exact⟨d,cs,e,(ir).ew gL⟩⟩,E⟩ trivial trivial
   refine aj.dL (fun D v' W' hc hj Y K hK=> ?_) (fun _ _=>aj.aB (b:=⟨_,_⟩) rfl ?_)
   .
    obtain⟨j0,jk,jn,T,I,H,E⟩:=hj;have f:=Y (10,some 12) (.tail _ (.head _)) rfl;have e6:v' 10 = Ek (some ⟨p12,0,none⟩):=f.2.1;obtain⟨g,e1,e2,e3,e4,e5⟩:=H f.1;obtain rfl:p12=g:=aj.bI (e6.symm.trans e1);have hb:=e4 hc.1;clear e4 e5;have fc:=Y (5,some 30) (.head _) rfl;have ec:XD 1 (v' 5) = Ej #[Ez cy,Ex eW fd g8,Ez gd,Ex gA gG gF]:=by rw[fc.2.1]; rfl
    have ff:=hb.fr;obtain⟨lk,lh,lM,me⟩:=hb.r3;go_step;exact hK.out undef _ (X8 hb rfl) ⟨(UV j0 (by show wo.heap.size<=p12; omega)),jk.trans (X8 hb rfl),by simpa using jn,(T).ew (show w.heap.size≠p12 by omega),fun h=>by obtain⟨g,k1,k2,k3,k4,k5⟩:=I h; have gL:g≠p12:=fun e=>(E h f.1) (by rw[e6,k1,e]); exact⟨g,k1,k2,by simpa using k3,fun h=>(k4 h).ew gL,fun h=>by obtain⟨d,cs,e,ir⟩:=k5 h; exact⟨d,cs,e,(ir).ew gL⟩⟩,fun _=>⟨p12,e1,e2,by simpa using e3,fun h=>Bool.noConfusion h,fun _=>⟨fc.1,_,ec,(ai.bF (cs':=#[Ez cy,Ex eW fd g8,Ez gd,Ex gA gG gF]) (ai.bF (cs':=#[Ez cy,Ex eW fd g8,Ez gd,Ex none 0 0]) (ai.bF (cs':=#[Ez cy,Ex eW fd g8,Ez false,Ex none 0 0]) (ai.bF (cs':=#[Ez cy,Ex none 0 0,Ez false,Ex none 0 0]) hb (i:=0) rfl) (i:=1) rfl) (i:=2) rfl) (i:=3) rfl)⟩⟩,E⟩ trivial trivial
   refine aj.aF (fun Dn v' l9 hd hj Y=> ?_);obtain⟨B,jk,jn,os,I,H,E⟩:=hj;have f:=Y (9,some 11) (.tail _ (.head _)) rfl;have gV:v' 9 = Ek (some ⟨p11,0,none⟩):=f.2.1;obtain⟨g,h9,mE,-,-,gN⟩:=I f.1;obtain rfl:p11=g:=aj.bI (gV.symm.trans h9);obtain⟨-,it,ee,bl⟩:=gN (hd 11 (Eb rfl));have ef:XD 0 (v' 5) = Ej #[Ez cx,Ex fe fl ft,Ez gt,Ex gC gE gD]:=by rw[(Y (5,some 30) (.head _) rfl).2.1]; rfl
   obtain rfl:#[Ez cx,Ex fe fl ft,Ez gt,Ex gC gE gD]=it:=by have:=ef.symm.trans ee; simpa only[Value.tuple.injEq,Value.agg.injEq,Array.mk.injEq,List.cons.injEq,and_true,true_and]using this
   clear ee ef f gN h9 gV;have f:=Y (10,some 12) (.tail _ (.tail _ (.head _))) rfl;have gV:v' 10 = Ek (some ⟨p12,0,none⟩):=f.2.1;obtain⟨g,h9,mr,-,-,gN⟩:=H f.1;obtain rfl:p12=g:=aj.bI (gV.symm.trans h9);obtain⟨-,it,ee,Z⟩:=gN (hd 12 (Eb rfl));have ef:XD 1 (v' 5) = Ej #[Ez cy,Ex eW fd g8,Ez gd,Ex gA gG gF]:=by rw[(Y (5,some 30) (.head _) rfl).2.1]; rfl
   obtain rfl:#[Ez cy,Ex eW fd g8,Ez gd,Ex gA gG gF]=it:=by have:=ef.symm.trans ee; simpa only[Value.tuple.injEq,Value.agg.injEq,Array.mk.injEq,List.cons.injEq,and_true,true_and]using this
   clear ee ef f gN h9 gV;have ky:p11≠p12:=fun e=>E (Y (9,some 11) (.tail _ (.head _)) rfl).1 (Y (10,some 12) (.tail _ (.tail _ (.head _))) rfl).1 (by have h1:=(Y (9,some 11) (.tail _ (.head _)) rfl).2.1; have h2:=(Y (10,some 12) (.tail _ (.tail _ (.head _))) rfl).2.1; rw[h1,h2]; show Value.pointer _ = Ek _; rw[e]);have i8:=dV.get (r:=(XX i)) (s:=(YY i)) (u:= Ej #[Ez cx,Ex fe fl ft,Ez gt,Ex gC gE gD]) (v:= Ej #[Ez cy,Ex eW fd g8,Ez gd,Ex gA gG gF]) (Y (5,some 30) (.head _) rfl).2.2;have gn:=E6 i8.1;have gz:=E6 i8.2;clear i8;replace kk:=kk.trans jk;clear hd Y jk E;refine hQ _ _ ?_;clear hQ g9 Q' gW;go_wp2_with fail
   refine(RA _).mono ?_;rintro e gH ⟨mz,rfl,gK,st⟩;have sk:=bA l9 st;replace B:=bS B sk;replace os:=os.ae sk;replace bl:=bl.ae sk;replace Z:=Z.ae sk;replace gn:=E6 (gn.out.ae sk);replace gz:=E6 (gz.out.ae sk);replace kk:=kk.aJ sk;clear st sk;obtain⟨mu,ms,mn,mt,mG,mA,mw,mD,rfl⟩:=gK.ak;have ks:=E6 gK;clear gK;have i6:p12<gH.heap.size:=Z.lt;have i5:p11<gH.heap.size:=bl.lt;have iD:=B.size;go_wp2_with fail
   go_loopw [13,15] (fun sp0 sl0 wr=>∃ (k:Nat) (y1:Bool) (y2:Option Addr) (y3 y4:Nat) (y5:Bool) (y6:Option Addr) (y7 y8:Nat),k<=M/\sl0 = Ey Ew k/\sp0 = Ey Ew (PP i k).1/\ai wr gH.heap.size 28 #[Ez y1,Ex y2 y3 y4,Ez y5,Ex y6 y7 y8]/\FR wr (Ej #[Ez y1,Ex y2 y3 y4,Ez y5,Ex y6 y7 y8]) (PP i k).2/\ai wr w.heap.size 30 #[Ez be,Ex ci b9 ce,Ez br,Ex cn ah cg,Ez bt,Ex bg aX bh,Ez dc,Ex cN aY cU,Ez f7,Ex dP bi f8,Ez er,Ex ey d9 em,Ez dz,Ex ed co dl,Ez ek,Ex dy dk dx]/\ai wr (p11) 28 #[Ez cx,Ex fe fl ft,Ez gt,Ex gC gE gD]/\ai wr (p12) 28 #[Ez cy,Ex eW fd g8,Ez gd,Ex gA gG gF]/\Below wo.heap.size wo wr/\av gH wr) (fun _ sl0 _=>M-(intOf sl0).toNat)
   case atStart=>exact⟨0,_,_,_,_,_,_,_,_,by omega,rfl,by rw[p0],zw,by rw[p0]; exact ks.out.af zj,zw,zw,zw,zh,zj⟩
   case round=>
    clear os bl Z
    try clear B
    have lj:=kk.trans zj
    try clear kk
    clear ks;obtain⟨k,y1,y2,y3,y4,y5,y6,y7,y8,hk,rfl,rfl,X,fy,os,bl,Z,B,kk⟩:=hrel;replace gn:=E6 (gn.out.af kk);replace gz:=E6 (gz.out.af kk);have Fy:=E6 fy;clear fy;obtain⟨pk,gI⟩:∃z,(PP i k).1=z:=⟨_,rfl⟩;rw[gI];obtain⟨km,k6,jc,jb⟩:=bl.r3;have lZ:=bl.lt;obtain⟨k8,kx,iv,ki⟩:=Z.r3;have mb:=Z.lt
    rcases Ep k M with k4 | k4
    .
     have iX:decide ((k:Int)<(M:Int))=true:=E_ D5;obtain⟨b',iM,rfl,i7,lf,lO⟩:=lW.out.at (a:=k) (by have:=HM.out; omega);have lY:=di k k4;have iP:=mg k k4;obtain⟨c,ik⟩:∃c,z8 (DD i k) (PP i k).2=c:=⟨_,rfl⟩;rw[ik]at iP;have sq:=sp k c ik;rw[gI]at sq;clear ik;go_wp2_with fail
     have l3:gH.heap.size<wr.heap.size:=X.lt;have i5:p11<wr.heap.size:=bl.lt;have i6:p12<wr.heap.size:=Z.lt;have iD:=B.size
     go_upto_region 10 with fail
     refine aj.cC wo wr [.o w.heap.size 30 #[Ez be,Ex ci b9 ce,Ez br,Ex cn ah cg,Ez bt,Ex bg aX bh,Ez dc,Ex cN aY cU,Ez f7,Ex dP bi f8,Ez er,Ex ey d9 em,Ez dz,Ex ed co dl,Ez ek,Ex dy dk dx],.o (p11) 28 #[Ez cx,Ex fe fl ft,Ez gt,Ex gC gE gD],.o (p12) 28 #[Ez cy,Ex eW fd g8,Ez gd,Ex gA gG gF],.o gH.heap.size 28 #[Ez y1,Ex y2 y3 y4,Ez y5,Ex y6 y7 y8],.n 7 28 #[Ez false,Ex none 0 0,Ez false,Ex none 0 0] 8 [6] aj.v1] [6,7,8] [(6,ym),(7,xI)] [(6,bc ((DD i k)))] [(8,[(6,some 47),(7,some 16)]),(9,[(6,some 47),(7,some 16)])] [(7,[8]),(6,[8])] (by simp only[aP]; exact⟨zh,zj,zw,zw,zw,zw,trivial⟩) (fun N0 gM gW Q' g9 hQ=> ?_);clear km k6 jc jb lZ k8 kx iv ki mb;clear gM;refine aj.aO 41 (fun _ _ _ h=>h.e.2.1.r3) ?_;refine aj.aO 42 (fun _ _ _ h=>h.e.2.2.1.r3) ?_
     repeat refine aj.aD _ ?_
     apply aj.RP rfl rfl rfl 46 rfl rfl
     .
      intro D v' W' hc hj Y K hK;have j0:=hj.b;have m9:W'.cell? ⟨b',iM+k*2,none⟩=some (Ey Ew (pt m k).1):=(j0.cell (p:=⟨b',_,none⟩) i7).trans lf;have l6:W'.cell? ⟨b',iM+k*2+1,none⟩=some (Ey Ew (pt m k).2):=(j0.cell (p:=⟨b',_,none⟩) i7).trans lO;go_step;exact hK.out
     . rfl
     refine aj.sC g9 (fun D v' W' h _=>lY W' _ _ (gn.out.af h.k) (gz.out.af h.k)) ?_;rintro _ ⟨iF,iY,ko,iR,iW,iU,iS,iH,rfl⟩;refine aj.aB (b:=⟨#[_,_,_,_,_,_,_,_,_,_,_,_,_,_,_,_,_,_,_,_,_,_,_,_,_,_,_,_,_,_,_,_,_,_,_,_,_,_,_,_,_,_,_,_,_,_,_,_,_,_,_,_,_,_,_,_,_,_,_,_,_,_,_,_,_,_,_,_],_⟩) rfl ?_;refine aj.sA g9 ?_;rintro _ ⟨p16,rfl⟩;refine aj.aB (b:=⟨#[_,_,_,_,_,_,_,_,_,_,_,_,_,_,_,_,_,_,_,_,_,_,_,_,_,_,_,_,_,_,_,_,_,_,_,_,_,_,_,_,_,_,_,_,_,_,_,_,_,_,_,_,_,_,_,_,_,_,_,_,_,_,_,_,_,_,_,_],_⟩) rfl ?_;refine aj.sN g9 ?_;refine aj.sE (fun _ v' ij B jk hl _ iu Y=> ?_);simp only[xx,xA,J2]at hl iu;obtain⟨os,bl,Z,X,gZ,-⟩:=hl;obtain⟨mF,gB⟩:N0<=p16/\ai ij p16 28 #[Ez iF,Ex iY ko iR,Ez iW,Ex iU iS iH]:=gZ p16 rfl;clear gZ;have hE:Hid (FR ij (Ej #[Ez iF,Ex iY ko iR,Ez iW,Ex iU iS iH]) ((DD i k))):=(Y (6,some 47) (.head _) rfl).2.2;replace gn:=E6 (gn.out.af jk);replace gz:=E6 (gz.out.af jk);replace Fy:=E6 (Fy.out.af jk);replace kk:=kk.trans jk;clear Y jk;refine hQ _ _ ?_;clear hQ g9 Q' gW;obtain⟨gP,gY,gO,gR⟩:=X.r3;have iq:=X.lt;obtain⟨gQ,gJ,gX,gT⟩:=gB.r3;have ip:=gB.lt;go_wp2_with fail
     refine(iP _ _ _ (hE.out.af zj) (Fy.out.af zj)).mono ?_;rintro e mC ⟨rfl,st⟩;have sk:=bA ij st;replace B:=bS B sk;replace os:=os.ae sk;replace bl:=bl.ae sk;replace Z:=Z.ae sk;replace X:=X.ae sk;replace gB:=gB.ae sk;replace gn:=E6 (gn.out.ae sk);replace gz:=E6 (gz.out.ae sk);replace Fy:=E6 (Fy.out.ae sk);replace hE:=E6 (hE.out.ae sk);replace kk:=kk.aJ sk;clear st sk gP gY gO gR iq gQ gJ gX gT ip;dsimp only
     by_cases c1:c<0
     .
      have e0:=sq.1 D5;have d1:decide (c<0)=true:=E_ D5;have ip:=gB.lt;have iq:=X.lt;have lC:=X.fr;obtain⟨gQ,gJ,gX,gT⟩:=gB.r3;obtain⟨gP,gY,gO,gR⟩:=X.r3
      go_upto_region 13 with fail
      go_region
      go_wp2_with fail
      go_roundw
      case rel=>exact⟨k+1,_,_,_,_,_,_,_,_,by omega,by go_num,by rw[e0],zw,by rw[e0]; exact hE.out.af zj,zw,zw,zw,zh,kk.trans zj⟩
      case measure=>simp[intOf]; omega
     .
      have d1:decide (c<0)=false:=E' c1
      by_cases c2:pk<0
      .
       have d2:decide (pk<0)=true:=E_ c2
       by_cases c3:c=0
       .
        have e0:=sq.2.1 D5 D5;subst c3;have ip:=gB.lt;have iq:=X.lt;have lC:=X.fr;obtain⟨gQ,gJ,gX,gT⟩:=gB.r3;obtain⟨gP,gY,gO,gR⟩:=X.r3
        go_upto_region 13 with fail
        go_region
        go_wp2_with fail
        go_roundw
        case rel=>exact⟨k+1,_,_,_,_,_,_,_,_,by omega,by go_num,by rw[e0],zw,by rw[e0]; exact hE.out.af zj,zw,zw,zw,zh,kk.trans zj⟩
        case measure=>simp[intOf]; omega
       .
        have e0:=sq.2.2 D5 (by rintro ⟨h,g⟩; omega);have d3:(c==0)=false:=by simpa using c3
        clear c1 c2 c3;go_wp2_with fail
        go_roundw
        case rel=>exact⟨k+1,_,_,_,_,_,_,_,_,by omega,by go_num,by rw[e0,gI],zw,by rw[e0]; exact Fy.out.af zj,zw,zw,zw,zh,kk.trans zj⟩
        case measure=>simp[intOf]; omega
      .
       have e0:=sq.2.2 D5 (by rintro ⟨h,g⟩; omega);have d2:decide (pk<0)=false:=E' c2;clear c1 c2;go_wp2_with fail
       go_roundw
       case rel=>exact⟨k+1,_,_,_,_,_,_,_,_,by omega,by go_num,by rw[e0,gI],zw,by rw[e0]; exact Fy.out.af zj,zw,zw,zw,zh,kk.trans zj⟩
       case measure=>simp[intOf]; omega
    .
     have iX:decide ((k:Int)<(M:Int))=false:=E' D5;have eM:k=M:=D5
     rw[eM]at gI;have iL:=E6 (HR.out.ae B);have lJ:PA (i+1)=PA i ++ [pk]:=by rw[lQ.out i,gI]
     have lG:=iE.out i;have lP:=iE.out (i+1);have lq:=os.lt;have mI:=B.size
     repeat' (first | ((with_reducible show wpList _ _ _ (⟨some 66,_,_,_,_,_⟩::_) _ _); refine Vh rfl (.tmp 63) (.tmp 65) rfl (w.heap.size+1) (PA i).length (Ex oa (PA i).length oc) (PA i) rfl (iL.out.alloc _) wr.heap.size pk rfl (ai.new _ _ _) D5 D9 (fun v' w7 ja ig=> ?_)) | go_values | go_skip | go_guarded | go_step | go_upon)
     obtain⟨mB,ml,rfl⟩:=ja.len;have r6:=iL.out.alloc (.cells #[Ey Ew pk] 3);have m8:=r6.bz ig (os.alloc _) D5;have B6:Below w.heap.size w wr:=zt Bw (Eo _) B;have B7:=r6.below ig (B6.alloc B6.size _) D5;have k7:av w w7:=((kw.trans (lj.trans kk)).alloc _).trans (r6.af ig)
     go_roundw
     case rel=>exact⟨i+1,_,_,by omega,by go_num,by rw[lP,lG],by rw[lJ,List.length_append]; exact ja,m8,B7,k7⟩
     case measure=>simp[intOf]; omega
  .
   have iK:decide ((i:Int)<(N:Int))=false:=E' D5;obtain rfl:i=N:=D5
   go_wp2_with fail
   go_returns
   exact⟨_,rfl,HR.out.ints,Bw⟩
def C3 (H I:Int) (E:Bool) (a9:Int):Int:=if H≠0 then H else if I≠0 then I else if E=false then 8 else if a9<1\/65536<a9 then 2 else 0
def C4 (e:Int) (l:List Int):List Int:=if e=0 then l else []
def ke (k n:Int):Bool:=(decide (k<n)&&decide (n<=200))||decide (210<n)
theorem GM {l:PL} (k:Int) (w:Ee) (H:bP w v l):Ed Ec 22 #[v,Ey Ew k] w fun e w'=>e = Eh (Ez (ke k l.length))/\zf w w':=by
 obtain⟨la,J,rfl⟩:=H.ak;unfold ke;obtain⟨n,E⟩:∃n,l.length=n:=⟨_,rfl⟩;rw[E];clear H E
 by_cases h1:k<(n:Int)
 .
  by_cases h2:(n:Int)<=200
  .
   have I:¬210<(n:Int):=D5
   rw[E_ h1,E_ h2,E' I]
   go_enter Tryz.func22,Tryz.ntmps22
   go_wp2
   go_returns
   exact⟨rfl,zh⟩
  .
   rw[E_ h1,E' h2]
   go_enter Tryz.func22,Tryz.ntmps22
   go_wp2
   go_returns
   exact⟨by simp,zh⟩
 .
  rw[E' h1]
  go_enter Tryz.func22,Tryz.ntmps22
  go_wp2
  go_returns
  exact⟨by simp,zh⟩
end Go.Proofs.YtffmbepfbienaaaGreat
