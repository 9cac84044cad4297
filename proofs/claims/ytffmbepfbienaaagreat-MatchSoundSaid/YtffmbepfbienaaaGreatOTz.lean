import Derived.Test.YtffmbepfbienaaaGreatONe
set_option linter.unusedVariables false
set_option linter.unusedSimpArgs false
set_option maxHeartbeats 6400000
set_option maxRecDepth 1000000
open Go.Value renaming slice->Ex,bool->Ez,int->Ey,agg->Ej,pointer->Ek,tuple->Ev
open Go.IntKind renaming i64->Ew
open Go.Ending renaming returned->Eh
open Go.Proofs.Tryz renaming prog->Ed
open Go renaming Calls->Ee,World->Ef,Value->Ei,TypeId->Em,undef->En,bodyPost_ret->Eo
open Nat renaming le_refl->Ep
open Go.World renaming cell?->Es,size_alloc->Et
namespace Go.Proofs.YtffmbepfbienaaaGreat
open Go.RowKit
variable {cs:Array Ei} {L g k p q x y:Int} {r:Nat} {t:Em} {v va vb:Ei} {w w':Ef}
theorem UH (gx gy:Bool) {sa sb:Ei} {la lb:List Int} (w:Ef) (ha:aA w sa la) (hb:aA w sb lb) :
  Ee Ed 58 #[Ej #[Ez gx,sa,Ez gy,sb]] w fun e w'=>e = Eh (Ey Ew (yT (xB gx la gy lb)))/\zf w w':=by
 have gb:¬(zU gx la/\zU gy lb)->∀w',zf w w'->Ee Ed 96 #[Ej #[Ez gx,sa],Ej #[Ez gy,sb]] w' fun e w2=>e = Eh (Ev #[Ej #[Ez false,Ex none 0 0],Ey Ew 8])/\zf w' w2:=fun hv w' h=>Gd gx gy w' (ha.ae h) (hb.ae h) hv
 have gc:zU gx la->zU gy lb->∀w',zf w w'->Ee Ed 96 #[Ej #[Ez gx,sa],Ej #[Ez gy,sb]] w' fun e w2=>∃v,e = Eh (Ev #[v,Ey Ew 0])/\az w2 v (yn (zv gx (zj la)) (zv gy (zj lb)))/\fits (yn (zv gx (zj la)) (zv gy (zj lb)))/\zf w' w2:=fun va vb w' h=>
  BI w' (qt (ha.ae h) va) (qt (hb.ae h) vb) (qu ha.ok va) (qu hb.ok vb)
 have zr:zU gy lb->∀w',zf w w'->Ee Ed 97 #[Ej #[Ez gy,sb]] w' fun e w2=>e = Eh (Ez (decide (zv gy (zj lb)=0)))/\zf w' w2:=fun vb w' h=>UF w' (qt (hb.ae h) vb)
 have dk:zU gy lb->(zv gy (zj lb)=0↔lb = []):=fun vb=>by
  have h1:=zG hb.ok;have h2:=yj hb.ok;rw[vb.2.1]at h2;have h3:=zY h1;rw[h2]at h3;rw[h3];unfold zv
  split<;>omega
 obtain⟨aa,ca,rfl⟩:=ha.ak;obtain⟨ab,cb,rfl⟩:=hb.ak;obtain⟨n,hn⟩:∃n,la.length=n:=⟨_,rfl⟩;obtain⟨m,hm⟩:∃m,lb.length=m:=⟨_,rfl⟩;rw[hn]at gb gc|-;rw[hm]at gb gc zr|-;have d9:m=0↔lb = []:=by rw[<- hm]; exact List.length_eq_zero_iff
 clear ha hb hn hm
 by_cases hv:zU gx la/\zU gy lb
 .
  obtain⟨h1,h2⟩:=hv;have br:=gc h1 h2;have bt:=zr h2;have hz:=dk h2;clear gc gb zr dk
  cases gy with
  | true=>
   have H:Hid (yT (xB gx la true lb)=8):=E_ (fun h=>by have:=h.2.2.1; cases this);clear h1 h2 d9 bt hz
   go_enter Tryz.func58,Tryz.ntmps58
   go_wp2_with fail
   refine(br _ zh).mono ?_;rintro e I ⟨vg,rfl,T,cx,cy⟩;have st:zf _ I:=cy;have M:=bA w st;have of:ai I w.heap.size 28 #[Ez gx,Ex aa n ca,Ez true,Ex ab m cb]:=ai.aw st;clear st;have B:=M;clear M;obtain⟨X,ah,Y,Z,ff,lf⟩:=of.s3;clear br;obtain⟨bg,ag,ng,cg,rfl⟩:=T.ak;have NG:=E7 T;clear T;have dt:w.heap.size<I.heap.size:=of.lt;go_wp2_with fail
   go_quiet (fail)
   go_wp2
   go_returns
   exact⟨yE H.out.symm,zh⟩
  | false=>
   by_cases h0:lb = []
   .
    have H:Hid (yT (xB gx la false lb)=8):=E_ (fun h=>h.2.2.2.1 h0);simp only[E' (hz.2 h0)]at bt;clear h1 h2 d9 hz h0
    go_enter Tryz.func58,Tryz.ntmps58
    go_wp2_with fail
    refine(br _ zh).mono ?_;rintro e I ⟨vg,rfl,T,cx,cy⟩;have st:zf _ I:=cy;have M:=bA w st;have of:ai I w.heap.size 28 #[Ez gx,Ex aa n ca,Ez false,Ex ab m cb]:=ai.aw st;clear st;have B:=M;clear M;obtain⟨X,ah,Y,Z,ff,lf⟩:=of.s3;clear br;obtain⟨bg,ag,ng,cg,rfl⟩:=T.ak;have NG:=E7 T;clear T;have dt:w.heap.size<I.heap.size:=of.lt;go_wp2_with fail
    go_region_with (go_at_call 97; refine(bt _ zh).mono ?_; rintro e E ⟨rfl,bh⟩; go_must (have st:zf _ E:=bh; have M:=bA w st; have nf:ai E w.heap.size 28 #[Ez gx,Ex aa n ca,Ez false,Ex ab m cb]:=ai.aw st; have ng:ai E I.heap.size 26 #[Ez bg,Ex ag ng cg]:=ai.aw st; clear B of X ah Y Z ff lf; clear st; have B:=M; clear M; have of:=nf; clear nf; have X:Es E ⟨w.heap.size,0,none⟩=some (Ez gx):=of.c 0 rfl; have ah:Es E ⟨w.heap.size,1,none⟩=some (Ex aa n ca):=of.c 1 rfl; have Y:Es E ⟨w.heap.size,2,none⟩=some (Ez false):=of.c 2 rfl; have Z:Es E ⟨w.heap.size,3,none⟩=some (Ex ab m cb):=of.c 3 rfl; have ff:=of.fr; have lf:=of.lt; have og:=ng; clear ng; have cN:Es E ⟨I.heap.size,0,none⟩=some (Ez bg):=og.c 0 rfl; have cZ:Es E ⟨I.heap.size,1,none⟩=some (Ex ag ng cg):=og.c 1 rfl; have fg:=og.fr; have lg:=og.lt))
    all_goals (go_wp2; go_returns; exact⟨yE H.out.symm,zh⟩)
   .
    have HV:yT (xB gx la false lb)=if yn (zv gx (zj la)) (zv false (zj lb))=1 then 0 else 8:=by
     by_cases hg:yn (zv gx (zj la)) (zv false (zj lb))=1
     . rw[E9 hg]; exact E9 ⟨h1,h2,rfl,h0,hg⟩
     . rw[E_ hg]; exact E_ (fun h=>hg h.2.2.2.2)
    simp only[Ea (fun e=>h0 (hz.1 e))]at bt;obtain⟨G,hG⟩:∃G,yn (zv gx (zj la)) (zv false (zj lb))=G:=⟨_,rfl⟩;rw[hG]at br HV;clear h1 h2 d9 hG h0 hz;have sm:∀w' va vb,az w' va G->az w' vb 1->fits G->Ee Ed 98 #[va,vb] w' fun e w2=>e = Eh (Ez (decide (G=1)))/\zf w' w2:=fun w' va vb h1 h2 h3=>BH w' h1 h2 h3 (xP (by unfold zi; omega))
    by_cases hg:G=1
    focus
     rw[E9 hg]at HV;have H:=E7 HV;simp only[E' hg]at sm
    rotate_left
    focus
     rw[E_ hg]at HV;have H:=E7 HV;simp only[Ea hg]at sm
    rotate_left
    all_goals
     clear HV hg
     go_enter Tryz.func58,Tryz.ntmps58
     go_wp2_with fail
     refine(br _ zh).mono ?_;rintro e I ⟨vg,rfl,T,cx,cy⟩;have st:zf _ I:=cy;have M:=bA w st;have of:ai I w.heap.size 28 #[Ez gx,Ex aa n ca,Ez false,Ex ab m cb]:=ai.aw st;clear st;have B:=M;clear M;obtain⟨X,ah,Y,Z,ff,lf⟩:=of.s3;clear br;obtain⟨bg,ag,ng,cg,rfl⟩:=T.ak;have NG:=E7 T;clear T;have dt:w.heap.size<I.heap.size:=of.lt;go_wp2_with fail
     go_region_held3 (fun w'=>w'.cell? ⟨w.heap.size,0,none⟩=some (Ez gx)/\w'.cell? ⟨w.heap.size,1,none⟩=some (Ex aa n ca)/\w'.cell? ⟨w.heap.size,2,none⟩=some (Ez false)/\w'.cell? ⟨w.heap.size,3,none⟩=some (Ex ab m cb)/\w'.cell? ⟨I.heap.size,0,none⟩=some (Ez bg)/\w'.cell? ⟨I.heap.size,1,none⟩=some (Ex ag ng cg))
      ((refine⟨ai.c (t:=28) (cs:=#[Ez gx,Ex aa n ca,Ez false,Ex ab m cb]) ?_ 0 rfl,ai.c (t:=28) (cs:=#[Ez gx,Ex aa n ca,Ez false,Ex ab m cb]) ?_ 1 rfl,ai.c (t:=28) (cs:=#[Ez gx,Ex aa n ca,Ez false,Ex ab m cb]) ?_ 2 rfl,ai.c (t:=28) (cs:=#[Ez gx,Ex aa n ca,Ez false,Ex ab m cb]) ?_ 3 rfl,ai.c (t:=26) (cs:=#[Ez bg,Ex ag ng cg]) ?_ 0 rfl,ai.c (t:=26) (cs:=#[Ez bg,Ex ag ng cg]) ?_ 1 rfl⟩<;>(repeat' first | with_reducible assumption | (with_reducible refine ai.bK ?_; first | with_reducible rfl | (simp only[Et,World.size_setCell,World.size_drew]; done)) | with_reducible refine ai.alloc ?_ _ | with_reducible refine ai.drew ?_ | with_reducible refine ai.drewN ?_ _ | with_reducible apply ai.both | with_reducible refine ai.aK ?_ ?_ | (show _≠_; omega))))
      (first
       | ((go_at_call 97; refine(bt _ zh).mono ?_; rintro e E ⟨rfl,bh⟩; go_must (have dx:=E7 (NG.out.ae (((Below.refl _ _).alloc (Ep _) _).drew.trans (bh.mono D9))); have st:zf _ E:=bh; have M:=bA w st; have nf:ai E w.heap.size 28 #[Ez gx,Ex aa n ca,Ez false,Ex ab m cb]:=ai.aw st; have ng:ai E I.heap.size 26 #[Ez bg,Ex ag ng cg]:=ai.aw st; clear B of X ah Y Z ff lf; clear st; have B:=M; clear M; have of:=nf; clear nf; have X:Es E ⟨w.heap.size,0,none⟩=some (Ez gx):=of.c 0 rfl; have ah:Es E ⟨w.heap.size,1,none⟩=some (Ex aa n ca):=of.c 1 rfl; have Y:Es E ⟨w.heap.size,2,none⟩=some (Ez false):=of.c 2 rfl; have Z:Es E ⟨w.heap.size,3,none⟩=some (Ex ab m cb):=of.c 3 rfl; have ff:=of.fr; have lf:=of.lt; have og:=ng; clear ng; have cN:Es E ⟨I.heap.size,0,none⟩=some (Ez bg):=og.c 0 rfl; have cZ:Es E ⟨I.heap.size,1,none⟩=some (Ex ag ng cg):=og.c 1 rfl; have fg:=og.fr; have lg:=og.lt; have Z1:=E7 (E8 bh trivial))))
       | ((go_at_call 99; refine(C7 _).mono ?_; rintro e E ⟨vo,rfl,dc,bh⟩; go_must (have dy:=E7 (dx.out.ae bh); have st:zf _ E:=bh; have M:=bA w st; have nf:ai E w.heap.size 28 #[Ez gx,Ex aa n ca,Ez false,Ex ab m cb]:=ai.aw st; have ng:ai E I.heap.size 26 #[Ez bg,Ex ag ng cg]:=ai.aw st; clear B of og X ah Y Z ff lf cN cZ fg lg; clear st; have B:=M; clear M; have of:=nf; clear nf; have X:Es E ⟨w.heap.size,0,none⟩=some (Ez gx):=of.c 0 rfl; have ah:Es E ⟨w.heap.size,1,none⟩=some (Ex aa n ca):=of.c 1 rfl; have Y:Es E ⟨w.heap.size,2,none⟩=some (Ez false):=of.c 2 rfl; have Z:Es E ⟨w.heap.size,3,none⟩=some (Ex ab m cb):=of.c 3 rfl; have ff:=of.fr; have lf:=of.lt; have og:=ng; clear ng; have cN:Es E ⟨I.heap.size,0,none⟩=some (Ez bg):=og.c 0 rfl; have cZ:Es E ⟨I.heap.size,1,none⟩=some (Ex ag ng cg):=og.c 1 rfl; have fg:=og.fr; have lg:=og.lt; obtain⟨ec,dP,ek,ed,rfl⟩:=dc.ak; have NO:=E7 dc; clear dc)))
       | ((go_at_call 98; refine(sm _ _ _ dy.out NO.out cx).mono ?_; rintro e E ⟨rfl,bh⟩; go_must (have st:zf _ E:=bh; have M:=bA w st; have nf:ai E w.heap.size 28 #[Ez gx,Ex aa n ca,Ez false,Ex ab m cb]:=ai.aw st; have ng:ai E I.heap.size 26 #[Ez bg,Ex ag ng cg]:=ai.aw st; clear B of og X ah Y Z ff lf cN cZ fg lg; clear st; have B:=M; clear M; have of:=nf; clear nf; have X:Es E ⟨w.heap.size,0,none⟩=some (Ez gx):=of.c 0 rfl; have ah:Es E ⟨w.heap.size,1,none⟩=some (Ex aa n ca):=of.c 1 rfl; have Y:Es E ⟨w.heap.size,2,none⟩=some (Ez false):=of.c 2 rfl; have Z:Es E ⟨w.heap.size,3,none⟩=some (Ex ab m cb):=of.c 3 rfl; have ff:=of.fr; have lf:=of.lt; have og:=ng; clear ng; have cN:Es E ⟨I.heap.size,0,none⟩=some (Ez bg):=og.c 0 rfl; have cZ:Es E ⟨I.heap.size,1,none⟩=some (Ex ag ng cg):=og.c 1 rfl; have fg:=og.fr; have lg:=og.lt))))
     go_wp2
     go_returns
     exact⟨yE H.out.symm,zh⟩
 .
  have H:Hid (yT (xB gx la gy lb)=8):=E_ (fun h=>hv ⟨h.1,h.2.1⟩);have dl:=gb hv;clear gb gc zr dk hv d9
  go_enter Tryz.func58,Tryz.ntmps58
  go_wp2_with fail
  refine(dl _ zh).mono ?_;rintro e I ⟨rfl,st⟩;have M:=bA w st;have of:ai I w.heap.size 28 #[Ez gx,Ex aa n ca,Ez gy,Ex ab m cb]:=ai.aw st;clear st;have B:=M;clear M;obtain⟨X,ah,Y,Z,ff,lf⟩:=of.s3;clear dl;go_wp2_with fail
  go_quiet (fail)
  go_wp2
  go_returns
  exact⟨yE H.out.symm,zh⟩
def bX (w:Ef) (v:Ei) (p q:Int):Prop:=∃H E,v = Ej #[Ez (decide (p<0)),H,Ez false,E]/\aA w H (zp (zi p))/\aA w E (zp q)/\0<q/\yn p q=1/\fits p/\fits q
theorem bX.ae (h:bX w v p q) (E:zf w w'):bX w' v p q:=by
 obtain⟨T,M,e,H,I,h⟩:=h;exact⟨T,M,e,H.ae E,I.ae E,h⟩
theorem Ge (p:Int):zv (decide (p<0)) (zi p)=p:=by
 unfold zv zi
 by_cases h:p<0
 . rw[E' h]; simp; omega
 . rw[Ea h]; simp; omega
theorem Xk (q0:0<q) (hg:yn p q=1) (I:fits p) (H:fits q):xB (decide (p<0)) (zp (zi p)) false (zp q):=by
 have E:=xy H;rw[Ea D6,qV D6]at E;refine⟨xy I,E,rfl,fun e=>by have:=(zY D6).1 e; omega,?_⟩;rw[zE (zD p),zE D6,Ge];exact hg
theorem bX.ep {gx gy:Bool} {T M:Ei} {la lb:List Int} (ha:aA w T la) (H:aA w M lb) (h:xB gx la gy lb):bX w (Ej #[Ez gx,T,Ez gy,M]) (zv gx (zj la)) (zj lb):=by
 obtain⟨h1,X,rfl,h4,h5⟩:=h;have n1:=qt ha h1;have n2:=qt H X;obtain⟨s1,E,l1⟩:=n1;obtain⟨s2,I,Y⟩:=n2;have Z:=zG H.ok
 have q0:0<zj lb:=by
  have h3:=yj H.ok;rw[X.2.1]at h3
  rcases Int.lt_or_le 0 (zj lb)with h | h
  . exact h
  . exfalso; apply h4; rw[<- h3,(zY Z).2 D6]
 have e0:zv false (zj lb)=zj lb:=rfl;rw[e0]at h5 Y I;rw[qV Z]at Y;simp only[Value.agg.injEq,Array.mk.injEq,List.cons.injEq,Value.bool.injEq,and_true]at E I;obtain⟨E,rfl⟩:=E;obtain⟨_,rfl⟩:=I;have f2:=qu H.ok X;rw[e0]at f2;exact⟨T,M,by rw[<- E],l1,Y,q0,h5,qu ha.ok h1,f2⟩
theorem VJ (w:Ef) (h:bX w v p q):Ee Ed 58 #[v] w fun e w'=>e = Eh (Ey Ew 0)/\zf w w':=by
 obtain⟨X,T,rfl,I,M,q0,hg,H,E⟩:=h;have:=UH (decide (p<0)) false w I M;rw[vK,E9 (Xk q0 hg H E)]at this;exact this
theorem JG (w:Ef) (h:bX w v p q):Ee Ed 86 #[v] w fun e w'=>e = Eh (Ey Ew 0)/\zf w w':=by
 obtain⟨X,T,rfl,I,M,q0,hg,H,E⟩:=h;have:=KH (decide (p<0)) false w I M;rw[vK,E9 (Xk q0 hg H E)]at this;exact this
def DY (p q:Int):Int×Int×Int:=md (xg (p*1099511627776) q) (xg (p*1099511627776) q+if 0<xv (p*1099511627776) q then 1 else 0)
def DZ (n:Int):Int×Int×Int:=if n < -2097152\/2097152<n then(0,0,16)else(n*1099511627776,n*1099511627776,0)
theorem VK {r:Int} (h0:0<=r) (E:r<y) (h:L*y+r=x):xg x y=L/\xv x y=r:=
 jR (by rw[Int.mul_comm]; exact h.symm) (.inl ⟨h0,E⟩)
def dY (p q:Int) (j:Nat) (L r S:Int):Prop:=0<=r/\r<q/\L*q+r=p*((2^(40-j):Nat):Int)/\S=L*((2^j:Nat):Int)/\-2305843009213693952<=S/\S+((2^j:Nat):Int)<=2305844108725321728
theorem dY.start {N E:Int} (H:N*q+E=p/\0<=E/\E<q) (M : -2097152<=N) (I:N<=2097152):dY p q 40 N E (N*1099511627776):=by
 refine⟨H.2.1,H.2.2,by simp; exact H.1,by simp,by omega,by simp; omega⟩
theorem dY.done {r S:Int} (I:dY p q 0 L r S):xg (p*1099511627776) q=S/\xv (p*1099511627776) q=r:=by
 obtain⟨a,b,c,d,e,f⟩:=I;simp at c d;rw[d];exact VK a b c
def rg (x y:Int):Int:=if y<0 then -yn x y else yn x y
def Xl (x y:Int):Int:=xg x (rg x y)
def Yp (x y:Int):Int:=xg y (rg x y)
theorem Yq (h:y≠0):0<yn x y:=by
 unfold yn;have:=Int.gcd_pos_of_ne_zero_right x h;omega
theorem Yr (h:g≠0):xg (k*g) g=k:=by
 unfold xg;exact Int.mul_fdiv_cancel k h
theorem Qs (h:y≠0):rg x y≠0:=by
 have:=Yq (x:=x) h;unfold rg
 split<;>omega
theorem UI (x y:Int):yn x y∣x/\yn x y∣y:=⟨Int.gcd_dvd_left x y,Int.gcd_dvd_right x y⟩
theorem Hj (x y:Int):rg x y∣x/\rg x y∣y:=by
 have:=UI x y;unfold rg
 split
 . exact⟨Int.neg_dvd.2 this.1,Int.neg_dvd.2 this.2⟩
 . exact this
theorem XK (h:y≠0):Xl x y*rg x y=x/\Yp x y*rg x y=y:=by
 obtain⟨⟨a,E⟩,⟨b,H⟩⟩:=Hj x y;have I:=Qs (x:=x) h;unfold Xl Yp
 have T:xg x (rg x y)=a:=by
  conv=>lhs; rw[E,Int.mul_comm]
  rw[show rg (a*rg x y) y=rg (a*rg x y) y from rfl];rw[Int.mul_comm a,<- E];have:=Yr (k:=a) I;rw[Int.mul_comm,<- E]at this;exact this
 have M:xg y (rg x y)=b:=by
  have:=Yr (k:=b) I;rw[Int.mul_comm,<- H]at this;exact this
 rw[T,M,Int.mul_comm a,Int.mul_comm b];exact⟨E.symm,H.symm⟩
theorem ZU (h:y≠0):0<Yp x y:=by
 have m:=(XK (x:=x) h).2;have g:=Yq (x:=x) h;obtain⟨G,E⟩:∃G,yn x y=G:=⟨_,rfl⟩;unfold rg at m;rw[E]at m g
 rcases Int.lt_or_le 0 (Yp x y)with k | k
 . exact k
 .
  exfalso
  split at m
  .
   have H:=Int.mul_nonneg_of_nonpos_of_nonpos k (show -G<=0 by omega);rw[m]at H;omega
  .
   have:=Int.mul_le_mul_of_nonneg_right k (show 0<=G by omega);rw[m]at this;omega
theorem Ys {a b:Int} (hg:0<g) (h:yn (a*g) (b*g)=g):yn a b=1:=by
 unfold yn at h|-;rw[Int.gcd_mul_right]at h;have e:((g.natAbs:Nat):Int)=g:=D6
 have k:((Int.gcd a b:Nat):Int)*g=1*g:=by
  rw[Int.one_mul]
  conv=>rhs; rw[<- h]
  rw[Int.natCast_mul,e]
 exact Int.eq_of_mul_eq_mul_right D6 k
theorem JH (h:y≠0):yn (Xl x y) (Yp x y)=1:=by
 have m:=XK (x:=x) h;have g:=Yq (x:=x) h;unfold rg at m
 split at m
 .
  rw[Int.mul_neg,Int.mul_neg]at m;refine Ys g ?_;have H:Xl x y*yn x y = -x:=D6
  have E:Yp x y*yn x y = -y:=D6
  rw[H,E];unfold yn;rw[Int.neg_gcd,Int.gcd_neg]
 .
  refine Ys g ?_;rw[m.1,m.2]
theorem kh {n m:Int} (h:Int.gcd k n=1) (hd:k∣n*m):k∣m:=by
 have:=(Int.dvd_gcd_mul_iff_dvd_mul (k:=k) (n:=n) (m:=m)).2 hd;rw[h]at this;simpa using this
theorem JI {p' E:Int} (q0:0<q) (H:0<E) (g:yn p q=1) (Y:yn p' E=1) (h:p*E=p'*q):p=p'/\q=E:=by
 unfold yn at g Y;have I:Int.gcd p q=1:=D6
 have X:Int.gcd p' E=1:=D6
 have T:q∣E:=by
  have:q∣p*E:=⟨p',by rw[h,Int.mul_comm]⟩;exact kh (by rw[Int.gcd_comm]; exact I) this
 have M:E∣q:=by
  have:E∣p'*q:=⟨p,by rw[<- h,Int.mul_comm]⟩;exact kh (by rw[Int.gcd_comm]; exact X) this
 have e:q=E:=by
  have Z:=Int.le_of_dvd H T;have l2:=Int.le_of_dvd q0 M;omega
 subst e;exact⟨Int.eq_of_mul_eq_mul_right D6 h,rfl⟩
theorem VL (E:y≠0) (q0:0<q) (g:yn p q=1) (h:p*y=x*q):Xl x y=p/\Yp x y=q:=by
 have m:=XK (x:=x) E;have H:=Qs (x:=x) E;refine JI (ZU E) q0 (JH E) g ?_
 have e:(Xl x y*q)*rg x y=(p*Yp x y)*rg x y:=by
  rw[Int.mul_right_comm,m.1,Int.mul_assoc,m.2]; exact h.symm
 exact Int.eq_of_mul_eq_mul_right H e
theorem JJ (h:y≠0):zi (Xl x y)<=zi x/\zi (Yp x y)<=zi y/\zi (rg x y)<=zi y:=by
 have m:=XK (x:=x) h;have E:=Qs (x:=x) h
 have key:∀a g:Int,g≠0->zi a<=zi (a*g):=fun a g hg=>by
  unfold zi;rw[Int.natAbs_mul];have:1<=g.natAbs:=D6
  have:=Nat.mul_le_mul_left a.natAbs this;omega
 have k1:=key (Xl x y) (rg x y) E;have k2:=key (Yp x y) (rg x y) E;have q0:=ZU (x:=x) h;have k3:=key (rg x y) (Yp x y) D6;rw[m.1]at k1;rw[m.2]at k2;rw[Int.mul_comm,m.2]at k3;exact⟨k1,k2,k3⟩
theorem bX.mk' {a b:Bool} {s t:Ei} (Z:az w (Ej #[Ez a,s]) p) (Y:az w (Ej #[Ez b,t]) q) (q0:0<q) (hg:yn p q=1) (T:fits p) (M:fits q):bX w (Ej #[Ez a,s,Ez b,t]) p q:=by
 obtain⟨s1,H,X⟩:=Z;obtain⟨s2,E,I⟩:=Y;simp only[Value.agg.injEq,Array.mk.injEq,List.cons.injEq,Value.bool.injEq,and_true]at H E;obtain⟨rfl,rfl⟩:=H;obtain⟨rfl,rfl⟩:=E;rw[qV D6]at I;exact⟨s,t,by rw[Ea (by omega:¬q<0)],X,I,q0,hg,T,M⟩
theorem bX.bU (h:bX w v p q):∃I np M E Z H,v = Ej #[Ez (decide (p<0)),Ex I np M,Ez false,Ex E Z H]/\az w (Ej #[Ez (decide (p<0)),Ex I np M]) p/\az w (Ej #[Ez false,Ex E Z H]) q:=by
 obtain⟨sp,sq,rfl,lp,X,q0,hg,fp,fq⟩:=h;obtain⟨I,M,Y⟩:=lp.ak;obtain⟨E,H,T⟩:=X.ak;refine⟨I,(zp (zi p)).length,M,E,(zp q).length,H,by rw[Y,T],⟨_,rfl,by rw[<- Y]; exact lp⟩,⟨_,by rw[Ea (by omega:¬q<0)],by rw[qV D6,<- T]; exact X⟩⟩
def bJ (r:Nat) (w w':Ef):Prop:=w'.heap.size=w.heap.size/\∀k,k≠r->w'.heap[k]? = w.heap[k]?
theorem bJ.refl (r:Nat) (w:Ef):bJ r w w:=⟨rfl,fun _ _=>rfl⟩
theorem bJ.set {i:Nat} {u:Ei} (h:bJ r w w'):bJ r w (w'.setCell ⟨r,i,none⟩ u):=
 ⟨by rw[World.size_setCell]; exact h.1,fun k E=>(Below.heap_setCell w' ⟨r,i,none⟩ u k E).trans (h.2 k E)⟩
def zV (cs:Array Ei):Bool:=cs.toList.all fun v=>match v with | Ey .u32 _=>false | _=>true
theorem Xm {k:Nat} (h:zV cs=true):cs[k]?≠some (Ey .u32 x):=by
 intro e;obtain⟨E,e⟩:=Array.getElem?_eq_some_iff.1 e;have:=List.all_eq_true.1 h cs[k] D9;rw[e]at this
 cases this
theorem aA.only {l:List Int} (h:aA w v l) (Y:ai w r t cs) (hn:zV cs=true) (M:bJ r w w'):aA w' v l:=by
 obtain⟨h0,I,cap,rfl,Z,h3,X⟩:=h;refine⟨h0,I,cap,rfl,Z,h3,fun E=> ?_⟩;obtain⟨b,o,rfl,H,hc⟩:=X E
 have T:b≠r:=by
  rintro rfl;have g:=hc 0 (List.length_pos_iff.2 E);rw[Y.cell]at g;exact Xm hn g
 exact⟨b,o,rfl,by rw[M.1]; exact H,fun t ht=>(World.cell?_of_block (a:=⟨b,o+t,none⟩) (M.2 b T)).trans (hc t ht)⟩
theorem az.only {z:Int} (h:az w v z) (I:ai w r t cs) (E:zV cs=true) (M:bJ r w w'):az w' v z:=by
 obtain⟨s,e,H⟩:=h;exact⟨s,e,H.only I E M⟩
theorem bX.only (h:bX w v p q) (H:ai w r t cs) (I:zV cs=true) (E:bJ r w w'):bX w' v p q:=by
 obtain⟨Y,X,e,M,T,h⟩:=h;exact⟨Y,X,e,M.only H I E,T.only H I E,h⟩
theorem bX.aP (h:bX w v p q) (o:Obj):bX (w.alloc o) v p q:=h.ae ((Below.refl _ _).alloc (Ep _) _)
theorem bX.ak (h:bX w v p q):∃a s n c b t m d,v = Ej #[Ez a,Ex s n c,Ez b,Ex t m d]:=by
 obtain⟨T,I,X,E,H,M,e,-⟩:=h.bU;exact⟨_,_,_,_,_,_,_,_,e⟩
theorem kj (h:fits x):fits (-x):=by
 unfold fits at *;rw[show zi (-x)=zi x by unfold zi; omega];exact h
theorem Hk (x:Int):zv (!decide (x<0)) (zi x) = -x:=by
 unfold zv zi
 by_cases h:x<0
 . rw[E' h]; simp; omega
 . rw[Ea h]; simp; omega
theorem BJ (w:Ef) (ha:az w va x) (fx:fits x) :
  Ee Ed 168 #[va] w fun e w'=>∃v,e = Eh (Ev #[v,Ey Ew 0])/\az w' v (-x)/\zf w w':=by
 have fn:=kj fx;obtain⟨aa,ca,rfl,pa⟩:=ha.parts
 have ck:∀w',zf w w'->Ee Ed 124 #[Ej #[Ez (decide (x<0)),Ex aa (zp (zi x)).length ca]] w' fun e w2=>e = Eh (Ey Ew 0)/\zf w' w2:=fun w' h=>by
  have:=qT (decide (x<0)) w' (pa.ae h);rw[show yT (zU (decide (x<0)) (zp (zi x)))=0 from E9 (xy fx)]at this;exact this
 have mk:∀w',zf w w'->Ee Ed 139 #[Ez (!decide (x<0)),Ex aa (zp (zi x)).length ca] w' fun e w2=>∃v',e = Eh (Ev #[v',Ey Ew 0])/\az w2 v' (-x)/\zf w' w2:=fun w' h=>by
  have:=qQ (!decide (x<0)) w' (pa.ae h) (by unfold fits at fx; unfold aD; omega);rw[zE (zD x),Hk,zQ fn,zJ fn]at this;exact this
 obtain⟨n,hn⟩:∃n,(zp (zi x)).length=n:=⟨_,rfl⟩;obtain⟨gx,Z⟩:∃b,decide (x<0)=b:=⟨_,rfl⟩;rw[hn,Z]at ck mk|-;clear ha pa hn Z fx fn
 go_enter Tryz.func168,Tryz.ntmps168
 go_wp2_with fail
 refine(ck _ zh).mono ?_;rintro e w1 ⟨rfl,st⟩;have X:=bA w st;have Y:ai w1 w.heap.size 26 #[Ez gx,Ex aa n ca]:=ai.aw st;have or:ai w1 (w.heap.size+1) 26 #[Ez false,Ex none 0 0]:=ai.aw st;clear st;have B:=X;clear X;obtain⟨E,M,fa,la⟩:=Y.s1;obtain⟨H,T,fr,lr⟩:=or.s1;clear ck;go_wp2_with fail
 refine(mk _ B).mono ?_;rintro e w2 ⟨v2,rfl,I,st⟩;have X:=bA w st;have na:=Y.aM st;have nr:=or.aM st;clear B Y or E M fa la H T fr lr;clear st;have B:=X;clear X;have Y:=na;clear na;obtain⟨E,M,fa,la⟩:=Y.s1;have or:=nr;clear nr;obtain⟨H,T,fr,lr⟩:=or.s1;clear mk;obtain⟨bb,ao,k,c,rfl⟩:=I.ak;have HV:=E7 I;clear I
 go_wp2
 refine Eo (by simp[results,Tryz.results168,go_sem,E,M,fa,la,H,T,fr,lr]; rfl) rfl ?_;exact⟨_,rfl,HV.out.aN or,zh⟩
theorem Qt (w:Ef) (ha:az w va x) (hb:az w vb y) (fx:fits x) (fy:fits y) (hy:y≠0) :
  Ee Ed 138 #[va,vb] w fun e w'=>∃v,e = Eh v/\bX w' v (Xl x y) (Yp x y)/\zf w w':=by
 have RA:=JJ (x:=x) hy;have fP:fits (Xl x y):=yA RA.1 fx;have fQ:fits (Yp x y):=yA RA.2.1 fy;have fG:fits (rg x y):=yA RA.2.2 fy;have g0:=Qs (x:=x) hy;have gc:=fun(w':Ef) (h:zf w w')=>BF w' (ha.ae h) (hb.ae h) fx fy;have d1:∀w' v,zf w w'->az w' v (rg x y)->Ee Ed 169 #[va,v] w' fun e w2=>∃q r,e = Eh (Ev #[q,r,Ey Ew 0])/\az w2 q (Xl x y)/\az w2 r (xv x (rg x y))/\zf w' w2:=fun w' v h hv=>KA w' (ha.ae h) hv fx fG g0;have d2:∀w' v,zf w w'->az w' v (rg x y)->Ee Ed 169 #[vb,v] w' fun e w2=>∃q r,e = Eh (Ev #[q,r,Ey Ew 0])/\az w2 q (Yp x y)/\az w2 r (xv y (rg x y))/\zf w' w2:=fun w' v h hv=>KA w' (hb.ae h) hv fy fG g0;have MK:=E7 (E8 (ZU (x:=x) hy) (E8 (JH (x:=x) hy) (E8 fP fQ)))
 have fg:fits (yn x y):=by
  unfold rg at fG
  split at fG
  . have:=kj fG; rwa[Int.neg_neg]at this
  . exact fG
 obtain⟨aa,ca,rfl,-⟩:=ha.parts;obtain⟨ab,cb,rfl,-⟩:=hb.parts;obtain⟨n,hn⟩:∃n,(zp (zi x)).length=n:=⟨_,rfl⟩;obtain⟨m,hm⟩:∃m,(zp (zi y)).length=m:=⟨_,rfl⟩;rw[hn]at gc d1|-;rw[hm]at gc d2|-;obtain⟨gx,dt⟩:∃b,decide (x<0)=b:=⟨_,rfl⟩;rw[dt]at gc d1|-;clear ha hb hn hm dt RA fP fQ fG g0 fx fy
 by_cases hs:y<0
 focus
  have e:=E' hs;rw[e]at gc d2|-;have HG:rg x y = -yn x y:=E9 hs;rw[HG]at d1 d2;have ng:∀w' v,az w' v (yn x y)->Ee Ed 168 #[v] w' fun e w2=>∃v',e = Eh (Ev #[v',Ey Ew 0])/\az w2 v' (-yn x y)/\zf w' w2:=fun w' v h=>BJ w' h fg;clear hs e HG fg hy
  go_enter Tryz.func138,Tryz.ntmps138
  go_wp2_with fail
  refine(gc _ zh).mono ?_;rintro e w1 ⟨vg,rfl,hg,fg,dP⟩;have st:zf _ w1:=dP;have Bn:=bA w st;have oa:ai w1 w.heap.size 26 #[Ez gx,Ex aa n ca]:=ai.aw st;have ob:ai w1 (w.heap.size+1) 26 #[Ez true,Ex ab m cb]:=ai.aw st;have or:ai w1 (w.heap.size+1+1) 28 jN:=ai.aw st;clear st;have B:=Bn;clear Bn;obtain⟨Z,T,fa,la⟩:=oa.s1;obtain⟨E,H,fb,lb⟩:=ob.s1;obtain⟨M,Y,X,I,fr,lr⟩:=or.s3;clear gc fg;obtain⟨bg,ag,dc,cg,rfl⟩:=hg.ak;have NG:=E7 hg;clear hg;have z1:w.heap.size+1+1<w1.heap.size:=or.lt;go_wp2_with fail
  refine(ng _ _ (NG.out.aP _)).mono ?_;rintro e w2 ⟨vh,rfl,hh,cN⟩;have st:zf _ w2:=cN;have Bn:=bA w st;have na:=oa.aM st;have nb:=ob.aM st;have nr:=or.aM st;have og:ai w2 w1.heap.size 26 #[Ez bg,Ex ag dc cg]:=ai.aw st;clear B oa ob or Z T fa la E H fb lb M Y X I fr lr;clear st;have B:=Bn;clear Bn;have oa:=na;clear na;obtain⟨Z,T,fa,la⟩:=oa.s1;have ob:=nb;clear nb;obtain⟨E,H,fb,lb⟩:=ob.s1;have or:=nr;clear nr;obtain⟨M,Y,X,I,fr,lr⟩:=or.s3;obtain⟨cy,cx,fg,lg⟩:=og.s1;clear ng NG;obtain⟨bh,ah,nh,ch,rfl⟩:=hh.ak;have NH:=E7 hh;clear hh;have d9:=og;go_wp2_with fail
  refine(d1 _ _ zh (NH.out.aN d9)).mono ?_;rintro e w3 ⟨vp,vr,rfl,hp,hr,dk⟩;have st:zf _ w3:=dk;have Bn:=bA w st;have na:=oa.aM st;have nb:=ob.aM st;have nr:=or.aM st;replace og:ai w3 w1.heap.size 26 #[Ez bh,Ex ah nh ch]:=ai.aw st;clear B oa ob or Z T fa la E H fb lb M Y X I fr lr cy cx fg lg;clear st;have B:=Bn;clear Bn;have oa:=na;clear na;obtain⟨Z,T,fa,la⟩:=oa.s1;have ob:=nb;clear nb;obtain⟨E,H,fb,lb⟩:=ob.s1;have or:=nr;clear nr;obtain⟨M,Y,X,I,fr,lr⟩:=or.s3;obtain⟨cy,cx,fg,lg⟩:=og.s1;clear d1;have cZ:=E7 ((NH.out.aN d9).ae dk);clear NH d9
 rotate_left
 focus
  have e:=Ea hs;rw[e]at gc d2|-;have HG:rg x y=yn x y:=E_ hs;rw[HG]at d1 d2;clear hs e HG fg hy
  go_enter Tryz.func138,Tryz.ntmps138
  go_wp2_with fail
  refine(gc _ zh).mono ?_;rintro e w1 ⟨vg,rfl,hg,fg,st⟩;have Bn:=bA w st;have oa:ai w1 w.heap.size 26 #[Ez gx,Ex aa n ca]:=ai.aw st;have ob:ai w1 (w.heap.size+1) 26 #[Ez false,Ex ab m cb]:=ai.aw st;have or:ai w1 (w.heap.size+1+1) 28 jN:=ai.aw st;clear st;have B:=Bn;clear Bn;obtain⟨Z,T,fa,la⟩:=oa.s1;obtain⟨E,H,fb,lb⟩:=ob.s1;obtain⟨M,Y,X,I,fr,lr⟩:=or.s3;clear gc fg;obtain⟨bg,ag,dc,cg,rfl⟩:=hg.ak;have NG:=E7 hg;clear hg;have z1:w.heap.size+1+1<w1.heap.size:=or.lt;go_wp2_with fail
  refine(d1 _ _ zh (NG.out.aP _)).mono ?_;rintro e w3 ⟨vp,vr,rfl,hp,hr,cN⟩;have st:zf _ w3:=cN;have Bn:=bA w st;have na:=oa.aM st;have nb:=ob.aM st;have nr:=or.aM st;have og:ai w3 w1.heap.size 26 #[Ez bg,Ex ag dc cg]:=ai.aw st;clear B oa ob or Z T fa la E H fb lb M Y X I fr lr;clear st;have B:=Bn;clear Bn;have oa:=na;clear na;obtain⟨Z,T,fa,la⟩:=oa.s1;have ob:=nb;clear nb;obtain⟨E,H,fb,lb⟩:=ob.s1;have or:=nr;clear nr;obtain⟨M,Y,X,I,fr,lr⟩:=or.s3;obtain⟨cy,cx,fg,lg⟩:=og.s1;clear d1;have cZ:=E7 ((NG.out.aP _).ae cN);clear NG
 rotate_left
 all_goals
  obtain⟨dy,ap,np,cp,rfl⟩:=hp.ak;have NP:=E7 hp;clear hp;obtain⟨br,ar,dl,cr,rfl⟩:=hr.ak;clear hr;have z2:w1.heap.size<w3.heap.size:=og.lt;go_wp2_with fail
  refine(d2 _ _ zh ((cZ.out.aP _).aP _)).mono ?_;rintro e w4 ⟨vq,vt,rfl,hq,ht,dx⟩;have st:zf _ w4:=dx;have Bn:=bA w st;have na:=oa.aM st;have nb:=ob.aM st;have nr:=or.aM st;have ng:=og.aM st;have op:ai w4 w3.heap.size 26 #[Ez dy,Ex ap np cp]:=ai.aw st;have os:ai w4 (w3.heap.size+1) 26 #[Ez br,Ex ar dl cr]:=ai.aw st;clear B oa ob or og Z T fa la E H fb lb M Y X I fr lr cy cx fg lg;clear st;have B:=Bn;clear Bn;have oa:=na;clear na;obtain⟨Z,T,fa,la⟩:=oa.s1;have ob:=nb;clear nb;obtain⟨E,H,fb,lb⟩:=ob.s1;have or:=nr;clear nr;obtain⟨M,Y,X,I,fr,lr⟩:=or.s3;have og:=ng;clear ng;obtain⟨cy,cx,fg,lg⟩:=og.s1;obtain⟨ec,ek,fp,lp⟩:=op.s1;obtain⟨em,er,fs,ls⟩:=os.s1;clear d2;have ed:=E7 (((NP.out.aP (.cells #[Ez dy,Ex ap np cp] 26)).aP (.cells #[Ez br,Ex ar dl cr] 26)).ae dx);clear NP cZ;obtain⟨bq,aq,nq,cq,rfl⟩:=hq.ak;have NQ:=E7 hq;clear hq;obtain⟨bt,ey,eM,ct,rfl⟩:=ht.ak;clear ht;dsimp only; repeat' (first | go_values | go_skip | go_guarded | go_step | go_upon)
  refine Eo (by simp[results,Tryz.results138,go_sem,Z,T,fa,la,E,H,fb,lb,M,Y,X,I,fr,lr,cy,cx,fg,lg,ec,ek,fp,lp,em,er,fs,ls]; rfl) rfl ?_;refine⟨_,rfl,?_,zh⟩;have HM:=MK.out;exact(((bX.mk' ed.out NQ.out HM.1 HM.2.1 HM.2.2.1 HM.2.2.2).only or rfl ((bJ.refl _ _).set.set.set.set)).aP _).aP _
theorem BK (w:Ef) (ha:az w va x) (hb:az w vb y) (fx:fits x) (fy:fits y) (hy:y≠0) :
  Ee Ed 103 #[va,vb] w fun e w'=>∃v,e = Eh (Ev #[v,Ey Ew 0])/\bX w' v (Xl x y) (Yp x y)/\zf w w':=by
 have bg:∀w',zf w w'->Ee Ed 124 #[va] w' fun e w2=>e = Eh (Ey Ew 0)/\zf w' w2:=fun w' h=>by
  obtain⟨sa,rfl,la⟩:=ha;have:=qT (decide (x<0)) w' (la.ae h);rw[show yT (zU (decide (x<0)) (zp (zi x)))=0 from E9 (xy fx)]at this;exact this
 have ah:∀w',zf w w'->Ee Ed 124 #[vb] w' fun e w2=>e = Eh (Ey Ew 0)/\zf w' w2:=fun w' h=>by
  obtain⟨sb,rfl,lb⟩:=hb;have:=qT (decide (y<0)) w' (lb.ae h);rw[show yT (zU (decide (y<0)) (zp (zi y)))=0 from E9 (xy fy)]at this;exact this
 have rd:=fun(w':Ef) (h:zf w w')=>Qt w' (ha.ae h) (hb.ae h) fx fy hy;have y0:0<(zp (zi y)).length:=List.length_pos_iff.2 (fun e=>by have:=(zY (zD y)).1 e; unfold zi at this; omega);obtain⟨aa,ca,rfl,-⟩:=ha.parts;obtain⟨ab,cb,rfl,-⟩:=hb.parts;obtain⟨n,hn⟩:∃n,(zp (zi x)).length=n:=⟨_,rfl⟩;obtain⟨m,hm⟩:∃m,(zp (zi y)).length=m:=⟨_,rfl⟩;rw[hn]at bg rd|-;rw[hm]at ah rd y0|-;obtain⟨gx,br⟩:∃b,decide (x<0)=b:=⟨_,rfl⟩;obtain⟨gy,bh⟩:∃b,decide (y<0)=b:=⟨_,rfl⟩;rw[br]at bg rd|-;rw[bh]at ah rd|-;clear ha hb hn hm br bh fx fy hy
 go_enter Tryz.func103,Tryz.ntmps103
 go_wp2_with fail
 refine(bg _ zh).mono ?_;rintro e w1 ⟨rfl,st⟩;have Bn:=bA w st;have oa:ai w1 w.heap.size 26 #[Ez gx,Ex aa n ca]:=ai.aw st;have ob:ai w1 (w.heap.size+1) 26 #[Ez gy,Ex ab m cb]:=ai.aw st;have or:ai w1 (w.heap.size+1+1) 28 jN:=ai.aw st;clear st;have B:=Bn;clear Bn;obtain⟨H,M,fa,la⟩:=oa.s1;obtain⟨T,X,fb,lb⟩:=ob.s1;obtain⟨I,Y,Z,E,fr,lr⟩:=or.s3;clear bg;go_wp2_with fail
 refine(ah _ B).mono ?_;rintro e w2 ⟨rfl,st⟩;have Bn:=bA w st;have na:=oa.aM st;have nb:=ob.aM st;have nr:=or.aM st;clear B oa ob or H M fa la T X fb lb I Y Z E fr lr;clear st;have B:=Bn;clear Bn;have oa:=na;clear na;obtain⟨H,M,fa,la⟩:=oa.s1;have ob:=nb;clear nb;obtain⟨T,X,fb,lb⟩:=ob.s1;have or:=nr;clear nr;obtain⟨I,Y,Z,E,fr,lr⟩:=or.s3;clear ah;go_wp2_with fail
 refine(rd _ B).mono ?_;rintro e w3 ⟨v3,rfl,hf,st⟩;have Bn:=bA w st;have na:=oa.aM st;have nb:=ob.aM st;have nr:=or.aM st;clear B oa ob or H M fa la T X fb lb I Y Z E fr lr;clear st;have B:=Bn;clear Bn;have oa:=na;clear na;obtain⟨H,M,fa,la⟩:=oa.s1;have ob:=nb;clear nb;obtain⟨T,X,fb,lb⟩:=ob.s1;have or:=nr;clear nr;obtain⟨I,Y,Z,E,fr,lr⟩:=or.s3;clear rd;obtain⟨k1,k2,k3,k4,k5,k6,k7,k8,rfl⟩:=hf.ak;have HF:=E7 hf;clear hf
 go_wp2
 refine Eo (by simp[results,Tryz.results103,go_sem,H,M,fa,la,T,X,fb,lb,I,Y,Z,E,fr,lr]; rfl) rfl ?_;exact⟨_,rfl,HF.out.only or rfl ((bJ.refl _ _).set.set.set.set),zh⟩
theorem DF (x y:Int) (w:Ef) (x0 : -9223372036854775808<=x) (x1:x<=9223372036854775807) (y0 : -9223372036854775808<=y) (y1:y<=9223372036854775807) (hy:y≠0) :
  Ee Ed 69 #[Ey Ew x,Ey Ew y] w fun e w'=>∃v,e = Eh (Ev #[v,Ey Ew 0])/\bX w' v (Xl x y) (Yp x y)/\zf w w':=by
 have fx:fits x:=xP (by unfold zi; omega);have fy:fits y:=xP (by unfold zi; omega)
 go_enter Tryz.func69,Tryz.ntmps69
 go_wp2_with fail
 refine(Xa x _ x0 x1).mono ?_;rintro e w1 ⟨va,rfl,na,st⟩;have T:=bA w st;have or:ai w1 w.heap.size 28 jN:=ai.aw st;clear st;have B:=T;clear T;obtain⟨H,I,M,E,fr,lr⟩:=or.s3;go_wp2_with fail
 refine(Xa y _ y0 y1).mono ?_;rintro e w2 ⟨vb,rfl,nb,Z⟩;have st:zf _ w2:=Z;have T:=bA w st;have Y:=or.aM st;clear B or H I M E fr lr;clear st;have B:=T;clear T;have or:=Y;clear Y;obtain⟨H,I,M,E,fr,lr⟩:=or.s3;have X:=na.ae Z;clear na;go_wp2_with fail
 refine(BK _ X nb fx fy hy).mono ?_;rintro e w3 ⟨v3,rfl,hf,st⟩;have T:=bA w st;have Y:=or.aM st;clear B or H I M E fr lr;clear st;have B:=T;clear T;have or:=Y;clear Y;obtain⟨H,I,M,E,fr,lr⟩:=or.s3;clear X nb;obtain⟨k1,k2,k3,k4,k5,k6,k7,k8,rfl⟩:=hf.ak;have HF:=E7 hf;clear hf
 go_wp2
 refine Eo (by simp[results,Tryz.results69,go_sem,H,I,M,E,fr,lr]; rfl) rfl ?_;exact⟨_,rfl,HF.out.only or rfl ((bJ.refl _ _).set.set.set.set),zh⟩
end Go.Proofs.YtffmbepfbienaaaGreat
/- Fractions in memory as rational numbers; their sizes. -/
namespace Go.Proofs.YtffmbepfbienaaaGreat
open Go.RowKit
variable {p q x y:Int} {i j k:Nat} {r s:Rat} {v:Ei} {w w':Ef}
def z9 (r s:Rat):Int:=if r=s then 0 else if r<s then -1 else 1
theorem KJ (r:Rat):yn r.num r.den=1:=by
 have h:=r.reduced;unfold yn Int.gcd;rw[Int.natAbs_natCast];have E:Nat.gcd r.num.natAbs r.den=1:=h;rw[E];rfl
theorem qM (r:Rat):(0:Int)<r.den:=by have:=r.den_nz; omega
theorem Hl (q0:0<q) (hg:yn p q=1):∃r:Rat,r.num=p/\(r.den:Int)=q:=by
 refine⟨⟨p,q.toNat,by omega,?_⟩,rfl,?_⟩
 .
  unfold yn Int.gcd at hg;have e:q.natAbs=q.toNat:=D6
  rw[e]at hg
  show Nat.gcd p.natAbs q.toNat=1
  omega
 .
  show ((q.toNat:Nat):Int)=q
  omega
theorem vM (r s:Rat):zM (r.num*s.den) (s.num*r.den)=z9 r s:=by
 unfold zM z9
 by_cases h:r=s
 . rw[E9 h,E9 (Rat.eq_iff_mul_eq_mul.1 h)]
 .
  rw[E_ h,E_ (fun e=>h (Rat.eq_iff_mul_eq_mul.2 e))]
  by_cases h2:r<s
  . rw[E9 h2,E9 ((Rat.lt_iff r s).1 h2)]
  . rw[E_ h2,E_ (fun e=>h2 ((Rat.lt_iff r s).2 e))]
theorem bj : z9 r s<0↔r<s:=by
 rw[<- vM,Uq,Rat.lt_iff]
theorem qW : 0<z9 r s↔s<r:=by
 rw[<- vM,Ur,Rat.lt_iff]
theorem ZV : z9 r s=0↔r=s:=by
 unfold z9
 by_cases h:r=s
 . simp[h]
 .
  rw[E_ h]
  constructor
  . intro e; split at e<;>omega
  . intro e; exact absurd e h
theorem JK (r s:Rat):(z9 r s=0/\r=s)\/(z9 r s = -1/\r<s)\/(z9 r s=1/\s<r):=by
 unfold z9
 by_cases h:r=s
 . left; exact⟨E9 h,h⟩
 .
  rw[E_ h]
  by_cases h2:r<s
  . right; left; exact⟨E9 h2,h2⟩
  .
   right; right
   refine⟨E_ h2,?_⟩
   rcases Rat.le_iff_lt_or_eq.1 (Rat.not_lt.1 h2)with g | g
   . exact g
   . exact absurd g.symm h
theorem Qu (x y:Int):(x:Rat) / (y:Rat)=Rat.divInt x y:=(Rat.divInt_eq_div x y).symm
theorem UJ (E:y≠0):((x:Rat) / (y:Rat)).num*y=x*(((x:Rat) / (y:Rat)).den:Int):=by
 have h:=Rat.num_divInt_den ((x:Rat) / (y:Rat))
 conv at h=>rhs; rw[Qu]
 exact(Rat.divInt_eq_divInt_iff (by have:=qM ((x:Rat) / (y:Rat)); omega) E).1 h
theorem XL (E:y≠0):Xl x y=((x:Rat) / (y:Rat)).num/\Yp x y=(((x:Rat) / (y:Rat)).den:Int):=
 VL E (qM _) (KJ _) (UJ E)
def sz (r:Rat) (k:Nat):Prop:=zi r.num<=bp k/\(r.den:Int)<=bp k
theorem sz.mono (h:sz r i) (E:i<=j):sz r j:=⟨Int.le_trans h.1 (kE E),Int.le_trans h.2 (kE E)⟩
theorem qH (H:y≠0) (I:zi x<=bp k) (E:zi y<=bp k):sz ((x:Rat) / (y:Rat)) k:=by
 have h:=JJ (x:=x) H;rw[(XL H).1,(XL H).2]at h;refine⟨Int.le_trans h.1 I,?_⟩;have:=h.2.1;rw[qV (by have:=qM ((x:Rat) / (y:Rat)); omega)]at this;exact Int.le_trans this E
theorem UK (x y:Int):zi (x*y)=zi x*zi y:=by unfold zi; rw[Int.natAbs_mul]; simp
theorem yK (H:zi x<=bp i) (E:zi y<=bp j):zi (x*y)<=bp (i+j):=by
 rw[UK,Jo];exact Int.mul_le_mul H E (zD y) (by have:=xO i; omega)
theorem xU (M:zi x<=bp i) (I:zi y<=bp i):zi (x+y)<=bp (i+1):=by
 have h:=xx i;have H:=xO i;have E:zi (x+y)<=zi x+zi y:=by unfold zi; omega
 omega
theorem vO (x:Int):zi (-x)=zi x:=by unfold zi; omega
theorem xY (r:Rat):zi (r.den:Int)=r.den:=qV (by have:=qM r; omega)
theorem yB {z:Int} (h:zi z<=bp k) (E:k<=4095):fits z:=by
 unfold fits;refine(xl (zD z) 4096).2 ?_;have M:=kE E;have I:bp 4096=4294967296*bp 4095:=xx 4095;have H:=xO 4095;omega
theorem yN (r:Rat):((r.den:Int):Rat)=(r.den:Rat):=Rat.intCast_natCast _
theorem jS (r:Rat):(r.den:Rat)≠0:=fun h=>r.den_nz (Rat.natCast_eq_zero_iff.1 h)
theorem UL (r:Rat):r=(r.num:Rat) / ((r.den:Int):Rat):=by rw[Qu,Rat.num_divInt_den]
theorem kl (r:Rat):(r.num:Rat)=r*(r.den:Rat):=by
 have:=UL r;rw[yN]at this;have h:=Rat.div_mul_cancel (a:=(r.num:Rat)) (jS r);rw[<- this]at h;exact h.symm
theorem qC {x y z:Rat} (E:y≠0) (h:x=z*y):x / y=z:=by rw[h]; exact Rat.mul_div_cancel E
theorem Qv (r s:Rat):((r.num*s.num:Int):Rat) / ((r.den*s.den:Int):Rat)=r*s:=by
 refine qC ?_ ?_
 .
  rw[Rat.intCast_mul,yN,yN];intro h
  rcases Rat.mul_eq_zero.1 h with h | h
  . exact jS r h
  . exact jS s h
 .
  rw[Rat.intCast_mul,Rat.intCast_mul,yN,yN,kl r,kl s]
  grind
theorem Yt (r s:Rat):((r.num*s.den+s.num*r.den:Int):Rat) / ((r.den*s.den:Int):Rat)=r+s:=by
 refine qC ?_ ?_
 .
  rw[Rat.intCast_mul,yN,yN];intro h
  rcases Rat.mul_eq_zero.1 h with h | h
  . exact jS r h
  . exact jS s h
 .
  rw[Rat.intCast_add,Rat.intCast_mul,Rat.intCast_mul,Rat.intCast_mul,yN,yN,kl r,kl s]
  grind
theorem Qw (r s:Rat):((r.num*s.den-s.num*r.den:Int):Rat) / ((r.den*s.den:Int):Rat)=r-s:=by
 refine qC ?_ ?_
 .
  rw[Rat.intCast_mul,yN,yN];intro h
  rcases Rat.mul_eq_zero.1 h with h | h
  . exact jS r h
  . exact jS s h
 .
  rw[Rat.intCast_sub,Rat.intCast_mul,Rat.intCast_mul,Rat.intCast_mul,yN,yN,kl r,kl s]
  grind
theorem UM (h:s≠0):s.num≠0:=fun e=>h (Rat.num_eq_zero.1 e)
theorem Qx (r:Rat) {s:Rat} (E:s≠0):((r.num*s.den:Int):Rat) / ((r.den*s.num:Int):Rat)=r / s:=by
 have T:=kl r;have H:=kl s;have X:=jS r;have M:=jS s;refine qC ?_ ?_
 .
  rw[Rat.intCast_mul,yN,H];intro h
  rcases Rat.mul_eq_zero.1 h with h | h
  . exact X h
  .
   rcases Rat.mul_eq_zero.1 h with h | h
   . exact E h
   . exact M h
 .
  rw[Rat.intCast_mul,Rat.intCast_mul,yN,yN,T,H];have e:=Rat.div_mul_cancel (a:=r) E;have I:r / s*(↑r.den*(s*↑s.den))=(r / s*s)*(↑r.den*↑s.den):=by grind
  rw[I,e]
  grind
theorem jT (r s:Rat):(r.den*s.den:Int)≠0:=by
 have:=Int.mul_pos (qM r) (qM s);omega
theorem sz.mul (E:sz r i) (H:sz s j):sz (r*s) (i+j):=by
 rw[<- Qv];exact qH (jT r s) (yK E.1 H.1) (yK (by rw[xY]; exact E.2) (by rw[xY]; exact H.2))
theorem jh (E:sz r i) (H:sz s j):zi (r.num*s.den)<=bp (i+j)/\zi (s.num*r.den)<=bp (i+j)/\zi (r.den*s.den:Int)<=bp (i+j):=by
 have T:zi (r.den:Int)<=bp i:=by rw[xY]; exact E.2
 have M:zi (s.den:Int)<=bp j:=by rw[xY]; exact H.2
 have I:=yK H.1 T;rw[Nat.add_comm]at I;exact⟨yK E.1 M,I,yK T M⟩
theorem sz.add (E:sz r i) (H:sz s j):sz (r+s) (i+j+1):=by
 obtain⟨M,I,T⟩:=jh E H;rw[<- Yt];exact qH (jT r s) (xU M I) (Int.le_trans T (kE D6))
theorem sz.sub (E:sz r i) (H:sz s j):sz (r-s) (i+j+1):=by
 obtain⟨M,I,T⟩:=jh E H;rw[<- Qw,Int.sub_eq_add_neg];exact qH (jT r s) (xU M (by rw[vO]; exact I)) (Int.le_trans T (kE D6))
theorem sz.neg (E:sz r i):sz (-r) i:=⟨by rw[Rat.neg_num,vO]; exact E.1,E.2⟩
theorem Qy (r:Rat) {s:Rat} (E:s≠0):(r.den*s.num:Int)≠0:=by
 intro h
 rcases Int.mul_eq_zero.1 h with h | h
 . have:=qM r; omega
 . exact UM E h
theorem sz.div (E:sz r i) (H:sz s j) (s0:s≠0):sz (r / s) (i+j):=by
 rw[<- Qx r s0];exact qH (Qy r s0) (yK E.1 (by rw[xY]; exact H.2)) (yK (by rw[xY]; exact E.2) H.1)
theorem Hm (h:zi x<=bp k):sz (x:Rat) k:=⟨h,by have:=xO k; simpa using this⟩
theorem sz.fits (h:sz r k) (E:k<=4095):Go.Proofs.YtffmbepfbienaaaGreat.fits r.num/\Go.Proofs.YtffmbepfbienaaaGreat.fits (r.den:Int):=⟨yB h.1 E,yB (by rw[xY]; exact h.2) E⟩
def FR (w:Ef) (v:Ei) (r:Rat):Prop:=bX w v r.num r.den
theorem FR.ae (h:FR w v r) (E:zf w w'):FR w' v r:=bX.ae h E
theorem bX.fr (h:bX w v p q):∃r:Rat,r.num=p/\(r.den:Int)=q/\FR w v r:=by
 have I:=h;obtain⟨_,_,_,_,_,q0,hg,_,_⟩:=I;obtain⟨r,H,E⟩:=Hl q0 hg;refine⟨r,H,E,?_⟩;unfold FR;rw[H,E];exact h
theorem FR.el (E:y≠0) (h:bX w v (Xl x y) (Yp x y)):FR w v ((x:Rat) / (y:Rat)):=by
 unfold FR;rw[<- (XL E).1,<- (XL E).2];exact h
theorem FR.only {q:Rat} {r:Nat} {t:Em} {cs:Array Ei} (h:FR w v q) (H:ai w r t cs) (E:zV cs=true) (I:bJ r w w'):FR w' v q:=bX.only h H E I
theorem FR.aP {q:Rat} (h:FR w v q) (o:Obj):FR (w.alloc o) v q:=bX.aP h o
end Go.Proofs.YtffmbepfbienaaaGreat
/- What reads as zp goes on to do so: 'Keeps'; drawn regions whose calls yield numbers and fractions. -/
namespace Go.Proofs.YtffmbepfbienaaaGreat
open Go.RowKit
variable {cs:Array Ei} {e z:Int} {p:List Int->Prop} {g i i0 i1 r:Nat} {t:Em} {a c d u u0 u1 v x:Ei} {W W2:Ef}
theorem ai.four {w:Ef} {b y z:Ei} (h:ai w g t #[a,b,c,d]) :
  ai ((((w.setCell ⟨g,0,none⟩ x).setCell ⟨g,1,none⟩ y).setCell ⟨g,2,none⟩ z).setCell ⟨g,3,none⟩ u) g t #[x,y,z,u]:=(((h.bH 0 x).bH 1 y).bH 2 z).bH 3 u
theorem ai.fo {w:Ef} {b:Ei} (h:ai w g t #[a,b,c,d]):ai (w.setCell ⟨g,0,none⟩ x) g t #[x,b,c,d]:=h.bH 0 x
theorem zC {w:World} (h:ai w g t cs:=by (repeat' first | with_reducible assumption | (with_reducible refine ai.bK ?_; first | with_reducible rfl | (simp only[World.size_alloc,World.size_setCell,World.size_drew]; done)) | with_reducible refine ai.alloc ?_ _ | with_reducible refine ai.drew ?_ | with_reducible refine ai.drewN ?_ _ | with_reducible apply ai.both | with_reducible apply ai.four | with_reducible apply ai.fo | with_reducible refine ai.aK ?_ ?_ | (show _≠_; omega))):ai w g t cs:=h
theorem ai.au {w w':World} (st:zf w w') (h:ai w g t cs:=by (repeat' first | with_reducible assumption | (with_reducible refine ai.bK ?_; first | with_reducible rfl | (simp only[World.size_alloc,World.size_setCell,World.size_drew]; done)) | with_reducible refine ai.alloc ?_ _ | with_reducible refine ai.drew ?_ | with_reducible refine ai.drewN ?_ _ | with_reducible apply ai.both | with_reducible apply ai.four | with_reducible apply ai.fo | with_reducible refine ai.aK ?_ ?_ | (show _≠_; omega))):ai w' g t cs:=h.ae st
theorem ai.dG {w0 w w':World} (E:ai w0 g t cs) (st:zf w w') (h:ai w g t cs:=by (repeat' first | with_reducible assumption | (with_reducible refine ai.bK ?_; first | with_reducible rfl | (simp only[World.size_alloc,World.size_setCell,World.size_drew]; done)) | with_reducible refine ai.alloc ?_ _ | with_reducible refine ai.drew ?_ | with_reducible refine ai.drewN ?_ _ | with_reducible apply ai.both | with_reducible apply ai.four | with_reducible apply ai.fo | with_reducible refine ai.aK ?_ ?_ | (show _≠_; omega))):ai w' g t cs:=h.ae st
def av (w w':Ef):Prop:=∀v l,aA w v l->aA w' v l
section
variable {w w' b9:Ef}
theorem av.refl (w:Ef):av w w:=fun _ _ h=>h
theorem av.trans (h:av w w') (E:av w' b9):av w b9:=fun v l x=>E v l (h v l x)
theorem av.ae (h:zf w w'):av w w':=fun _ _ x=>x.ae h
theorem av.aI (h:av w w') (E:zf w' b9):av w b9:=h.trans (av.ae E)
theorem av.alloc (h:av w w') (o:Obj):av w (w'.alloc o):=h.aI ((Below.refl _ _).alloc (Ep _) _)
theorem av.drew (h:av w w'):av w w'.drew:=fun v l x=>h v l x
theorem av.drewN (h:av w w') (n:Nat):av w (w'.drewN n):=fun v l x=>h v l x
def cM (w:Ef) (r:Nat):Prop:=∃t cs,ai w r t cs/\zV cs=true
def qR (v:Ei):Bool:=match v with | Ey .u32 _=>false | _=>true
theorem qZ (h:zV cs=true) (H:qR u=true):zV (cs.setIfInBounds i u)=true:=by
 unfold zV at *;rw[List.all_eq_true]at *;intro x E;rw[Array.toList_setIfInBounds]at E
 rcases List.mem_or_eq_of_mem_set E with g | g
 . exact h x g
 . subst g; exact H
theorem cM.of (h:ai w r t cs) (E:zV cs=true):cM w r:=⟨t,cs,h,E⟩
theorem cM.alloc (h:cM w r) (o:Obj):cM (w.alloc o) r:=by obtain⟨t,cs,h,e⟩:=h; exact⟨t,cs,h.alloc o,e⟩
theorem cM.drew (h:cM w r):cM w.drew r:=by obtain⟨t,cs,h,e⟩:=h; exact⟨t,cs,h.drew,e⟩
theorem cM.drewN (h:cM w r) (n:Nat):cM (w.drewN n) r:=by obtain⟨t,cs,h,e⟩:=h; exact⟨t,cs,h.drewN n,e⟩
theorem cM.set {b:Nat} (h:cM w r) (E:qR u=true):cM (w.setCell ⟨b,i,none⟩ u) r:=by
 obtain⟨t,cs,h,e⟩:=h
 by_cases hb:r=b
 . subst hb; exact⟨t,_,h.bH i u,qZ e E⟩
 . exact⟨t,cs,h.aK hb,e⟩
theorem cM.new (h:w.heap.size=r) (e:zV cs=true):cM (w.alloc (.cells cs t)) r:=⟨t,cs,ai.bK h,e⟩
theorem cM.ae (h:cM w r) (st:zf w w'):cM w' r:=by obtain⟨t,cs,h,e⟩:=h; exact⟨t,cs,h.ae st,e⟩
theorem av.set (h:av w w') (E:cM w' r):av w (w'.setCell ⟨r,i,none⟩ u):=by
 obtain⟨t,cs,H,e⟩:=E;exact fun v l x=>(h v l x).only H e ((bJ.refl _ _).set)
theorem av.only (H:ai w r t cs) (E:zV cs=true) (I:bJ r w w'):av w w':=fun _ _ x=>x.only H E I
theorem az.af (h:az w v z) (k:av w w'):az w' v z:=by
 obtain⟨s,e,E⟩:=h;exact⟨s,e,k _ _ E⟩
theorem bX.af {p q:Int} (h:bX w v p q) (k:av w w'):bX w' v p q:=by
 obtain⟨E,I,e,M,H,h⟩:=h;exact⟨E,I,e,k _ _ M,k _ _ H,h⟩
theorem FR.af {r:Rat} (h:FR w v r) (k:av w w'):FR w' v r:=bX.af h k
theorem aA.af {l:List Int} (h:aA w v l) (k:av w w'):aA w' v l:=k _ _ h
theorem FR.ak {r:Rat} (h:FR w v r):∃a s n c b t m d,v = Ej #[Ez a,Ex s n c,Ez b,Ex t m d]:=bX.ak h
theorem FR.bU {r:Rat} (h:FR w v r):∃I T M E Z H,v = Ej #[Ez (decide (r<0)),Ex I T M,Ez false,Ex E Z H]/\az w (Ej #[Ez (decide (r<0)),Ex I T M]) r.num/\az w (Ej #[Ez false,Ex E Z H]) (r.den:Int)/\(T=0↔r=0):=by
 have h2:=h;obtain⟨sp,sq,rfl,lp,lq,q0,hg,fp,fq⟩:=h;obtain⟨I,M,Y⟩:=lp.ak;obtain⟨E,H,X⟩:=lq.ak
 have e3:decide (r<0)=decide (r.num<0):=by
  have:r<0↔r.num<0:=by
   rw[<- Rat.not_le,<- Rat.num_nonneg]; omega
  simp[this]
 refine⟨I,(zp (zi r.num)).length,M,E,(zp (r.den:Int)).length,H,by rw[Y,X,e3],⟨_,by rw[e3],by rw[<- Y]; exact lp⟩,⟨_,by rw[Ea (by omega:¬(r.den:Int)<0)],by rw[qV D6,<- X]; exact lq⟩,?_⟩;rw[List.length_eq_zero_iff,zY (zD _),<- Rat.num_eq_zero];unfold zi; omega
theorem FR.fit {r:Rat} (h:FR w v r):fits r.num/\fits (r.den:Int):=by
 obtain⟨_,_,_,_,_,q0,_,H,E⟩:=h;exact⟨H,E⟩
end
theorem zw {w:World} (h:av w W:=by (repeat' first | with_reducible assumption | with_reducible exact av.refl _ | with_reducible refine av.alloc ?_ _ | with_reducible refine av.drew ?_ | with_reducible refine av.drewN ?_ _ | with_reducible refine av.set ?_ ?_ | ((with_reducible apply cM.of); (with_reducible assumption); exact Eq.refl true) | with_reducible refine cM.alloc ?_ _ | with_reducible refine cM.drew ?_ | with_reducible refine cM.drewN ?_ _ | refine cM.set ?_ (Eq.refl true) | (refine cM.new ?_ (Eq.refl true); first | with_reducible rfl | (simp only[World.size_alloc,World.size_setCell,World.size_drew]; done)))):av w W:=h
def gw:List (Nat×(Ei->Ef->Prop))->Nat->Ei->Ef->Prop
 | [],_,_,_=>True
 | (i,e)::r,k,x,W=>if k=i then e x W else gw r k x W
theorem qN (l:List (Nat×(Ei->Ef->Prop))) (h:∀p∈l,∀x W W',av W W'->p.2 x W->p.2 x W') {k:Nat} {x:Ei} {W W':Ef} (H:av W W') (hg:gw l k x W):gw l k x W':=by
 induction l with
 | nil=>exact hg
 | cons p r ih=>
  obtain⟨i,e⟩:=p;unfold gw at hg|-
  by_cases hi:k=i
  . rw[E9 hi]at hg|-; exact h _ (.head _) x W W' H hg
  . rw[E_ hi]at hg|-; exact ih (fun p E=>h p (.tail _ E)) hg
def xh (x:Ei):Prop:=∃a s n c b t m d,x = Ej #[Ez a,Ex s n c,Ez b,Ex t m d]
def UN (e:Int) (x:Ei):Prop:=∃a s n c b t m d,x = Ev #[Ej #[Ez a,Ex s n c,Ez b,Ex t m d],Ey Ew e]
def vQ (x:Ei):Prop:=∃a s n c,x = Ej #[Ez a,Ex s n c]
def vS (e:Int) (x:Ei):Prop:=∃a s n c,x = Ev #[Ej #[Ez a,Ex s n c],Ey Ew e]
def aj.cat (l:List (Array Ei)):Array Ei:=(l.flatMap Array.toList).toArray
def Hn (x:Ei):Prop:=∃s n c,x = Ex s n c
def dZ (p:List Int->Prop) (x:Ei) (W:Ef):Prop:=∃l,p l/\aA W x l
theorem dZ.af (x:Ei) (W W':Ef) (k:av W W') (h:dZ p x W):dZ p x W':=by obtain⟨l,H,E⟩:=h; exact⟨l,H,k _ _ E⟩
theorem dZ.ak (h:dZ p x W):∃s n c,x = Ex s n c:=by obtain⟨l,_,E⟩:=h; obtain⟨s,c,e⟩:=E.ak; exact⟨s,_,c,e⟩
def jE (x:Ei):Prop:=∃g:Nat,x = Ek (some ⟨g,0,none⟩)
def bV (r:Rat) (x:Ei) (W:Ef):Prop:=FR W x r
def cT (r:Rat) (e:Int) (x:Ei) (W:Ef):Prop:=∃v,x = Ev #[v,Ey Ew e]/\FR W v r
def dD (z:Int) (x:Ei) (W:Ef):Prop:=az W x z
def cD (z e:Int) (x:Ei) (W:Ef):Prop:=∃v,x = Ev #[v,Ey Ew e]/\az W v z
def fv (_:Ei) (_:Ef):Prop:=True
theorem bV.af {r:Rat} (x:Ei) (W W':Ef) (k:av W W') (h:bV r x W):bV r x W':=FR.af h k
theorem cT.af {r:Rat} (x:Ei) (W W':Ef) (k:av W W') (h:cT r e x W):cT r e x W':=by obtain⟨v,H,E⟩:=h; exact⟨v,H,E.af k⟩
theorem dD.af (x:Ei) (W W':Ef) (k:av W W') (h:dD z x W):dD z x W':=az.af h k
theorem cD.af (x:Ei) (W W':Ef) (k:av W W') (h:cD z e x W):cD z e x W':=by obtain⟨v,H,E⟩:=h; exact⟨v,H,E.af k⟩
theorem fv.af (x:Ei) (W W':Ef) (_:av W W') (_:fv x W):fv x W':=trivial
theorem cT.get {r:Rat} (h:cT r e (Ev #[v,Ey Ew e]) W):FR W v r:=by
 obtain⟨u,E,H⟩:=h;simp only[Value.tuple.injEq,Array.mk.injEq,List.cons.injEq,and_true]at E;rw[E]; exact H
theorem cD.get (h:cD z e (Ev #[v,Ey Ew e]) W):az W v z:=by
 obtain⟨u,E,H⟩:=h;simp only[Value.tuple.injEq,Array.mk.injEq,List.cons.injEq,and_true]at E;rw[E]; exact H
theorem aj.dB (l:List (Nat×(Value->Prop))) (h:∀p∈l,∃x,p.2 x:=by (repeat' refine List.forall_mem_cons.2 ⟨?_,?_⟩)<;>first | exact⟨_,rfl⟩ | exact⟨_,0,rfl⟩ | exact⟨_,none,0,0,rfl⟩ | exact⟨_,false,none,0,0,rfl⟩ | exact⟨_,false,none,0,0,false,none,0,0,rfl⟩ | (intro p E; cases E)):∀k,∃x,aj.gv l k x:=aj.aY l h
theorem YX {a:Ef} (h:Below a.heap.size a W) (E:zf W W2):Below a.heap.size a W2:=zA h (Ep _) E
theorem Jn {n:Nat} (h:n<=W.heap.size) (E:zf W W2):n<=W2.heap.size:=Nat.le_trans h E.size
theorem ve {x n:Nat} (h:Nat.ble (x+1) n=true):∀t,some x=some t->t<n:=by intro t ht; cases ht; exact Ec h
theorem kB (w:World) {W W':World} (st:zf W W') (h:av w W:=by (repeat' first | with_reducible assumption | with_reducible exact av.refl _ | with_reducible refine av.alloc ?_ _ | with_reducible refine av.drew ?_ | with_reducible refine av.drewN ?_ _ | with_reducible refine av.set ?_ ?_ | ((with_reducible apply cM.of); (with_reducible assumption); exact Eq.refl true) | with_reducible refine cM.alloc ?_ _ | with_reducible refine cM.drew ?_ | with_reducible refine cM.drewN ?_ _ | refine cM.set ?_ (Eq.refl true) | (refine cM.new ?_ (Eq.refl true); first | with_reducible rfl | (simp only[World.size_alloc,World.size_setCell,World.size_drew]; done)))):av w W':=av.aI h st
theorem Do {n:Nat} (h:Hid (n=W.heap.size)):n<=W.drew.heap.size:=Nat.le_of_eq h.out
/-- cells of one block written -/
structure Wr (r:Nat) (w w':Ef):Prop where
 os:w'.os=w.os
 tape:w'.tape=w.tape
 output:w'.output=w.output
 only:bJ r w w'
theorem Wr.refl (r:Nat) (w:Ef):Wr r w w:=⟨rfl,rfl,rfl,bJ.refl r w⟩
theorem Wr.set {w w':Ef} (h:Wr r w w'):Wr r w (w'.setCell ⟨r,i,none⟩ u):=⟨h.os,h.tape,h.output,h.only.set⟩
theorem Wr.b {n:Nat} {a w w':Ef} (h:Wr r w w') (j:Below n a w) (E:n<=r:=by omega):Below n a w':=j.trans ⟨h.os,h.tape,h.output,Nat.le_of_eq h.only.1.symm,fun k H=>h.only.2 k D6⟩
theorem Wr.n {n:Nat} {w w':Ef} (h:Wr r w w') (j:n<=w.heap.size):n<=w'.heap.size:=h.only.1▸j
theorem Wr.k {w w':Ef} (h:Wr r w w') (H:ai w r t cs) (E:zV cs=true:=by exact rfl):av w w':=av.only H E h.only
theorem Wr.f {w w':Ef} (h:Wr r w w') (b:ai w g t cs) (E:g≠r:=by omega):ai w' g t cs:=(h.only.2 g E).trans b
theorem ai.st {w:Ef} (h:ai w g t cs):ai (w.setCell ⟨g,i,none⟩ u) g t (cs.setIfInBounds i u):=h.bH i u
theorem aj.eP {P:Program} {ops:Array Oper} {Q:Exit->Act->Ef->Prop} {id:Nat} {E:Act} {w:Ef} (J:Nat->(Nat->Bool)->(Nat->Ei)->Ef->Prop) (cs:List Nat) (vs:List (Nat×(Ei->Prop))) (gs:List (Nat×(Ei->Ef->Prop))) (ps:List (Nat×List (Nat×Option Tmp))) (qs:List (Nat×List Nat))
  (h:∀I,Hid (I=w.heap.size)->(∀v,J I (fun _=>false) v w.drew)/\(∀D v v' W,(∀j,D j=true->v j=v' j)->J I D v W->J I D v' W)/\
   ∀H X,H=ops->(∀a W,Q .normal a W->X .normal a W)->aj.RC P H X (J I) (aj.inl cs) (aj.gv vs) (gw gs) (fun _=>av) (fun _ _=>False) (aj.pl ps) (aj.pl qs) 0 ops.toList E)
  (hm:P.follows .mixedOrders=true:=by kernel_rfl) (ht:aj.tidy ops E.tmps.size=true:=by kernel_rfl) (M:aj.cX ops (aj.inl cs) (aj.pl ps) (aj.pl qs)=true:=by kernel_rfl)
  (hv:∀p∈vs,∃x,p.2 x:=by ((repeat' refine List.forall_mem_cons.2 ⟨?_,?_⟩)<;>first | exact⟨_,rfl⟩ | exact⟨_,0,rfl⟩ | exact⟨_,none,0,rfl⟩ | exact⟨_,none,0,0,rfl⟩ | exact⟨_,false,none,0,0,rfl⟩ | exact⟨_,false,none,0,0,false,none,0,0,rfl⟩ | (intro p T; cases T))) (hg:∀p∈gs,∀x W W',av W W'->p.2 x W->p.2 x W':=by ((repeat' refine List.forall_mem_cons.2 ⟨?_,?_⟩)<;>first | exact bV.af | exact cT.af | exact dD.af | exact cD.af | exact dZ.af | (intro p T; cases T))):(Code.region id ops true).wp P Q E w:=
 aj.bW J (aj.inl cs) (aj.gv vs) (gw gs) (fun _=>av) (fun _ _=>False) (aj.pl ps) (aj.pl qs) hm ht M (aj.aY vs hv) fun I hn=>let ⟨h1,h2,h3⟩:=h I hn; ⟨h1,h2,fun _ _ _ _ _ _ _ _ _ _ _ Z Y=>qN gs hg Z Y,fun _ _ _ _ h=>h.elim,h3⟩
theorem cj {w:Ef} : Wr r w (World.setCell (World.setCell w ⟨r,i0,none⟩ u0) ⟨r,i1,none⟩ u1):=(Wr.refl r w).set.set
theorem eH {T H X M I E Y:Nat} {u2 u3 u4 u5 u6 u7 u8:Ei} {w:Ef} : Wr r w (World.setCell (World.setCell (World.setCell (World.setCell (World.setCell (World.setCell (World.setCell (World.setCell (World.setCell w ⟨r,i0,none⟩ u0) ⟨r,i1,none⟩ u1) ⟨r,T,none⟩ u2) ⟨r,H,none⟩ u3) ⟨r,X,none⟩ u4) ⟨r,M,none⟩ u5) ⟨r,I,none⟩ u6) ⟨r,E,none⟩ u7) ⟨r,Y,none⟩ u8):=(Wr.refl r w).set.set.set.set.set.set.set.set.set
end Go.Proofs.YtffmbepfbienaaaGreat
/- A drawn region's blocks as data: what each operation does to them is said once, by laws X7 a list of entries. -/
namespace Go.Proofs.YtffmbepfbienaaaGreat
open Go.RowKit
variable {J:(Nat->Bool)->(Nat->Ei)->Ef->Prop} {a':Act} {args c:Array Ei} {js:List Nat} {bi:List PanicEntry->Ef->Prop} {l:List Ei} {f:List Ei->Array Ei} {p p':List Ei->Nat->Ei} {G b g i j o0 o1 o2 o3 q0 q1 q2 q3:Nat} {a9:Nat->Bool} {pre:Nat->List (Nat×Option Tmp)} {post:Nat->List Nat} {v':Nat->Ei} {V:Nat->Ei->Prop} {Sx:Nat->Ef->Ef->Prop} {t:Em} {u x x0 x1 ce bf cn bl be ci x2 x3 x4 x5 x6 x7 x8 x9:Ei} {w:Ef}
/-- a block in a drawn region. o: it stands; s: operation i stores f of the values of js into it; n: operation k lays it, operation i stores into it; m: CZ operations store into it, each some cells -/
inductive aH
 | o (b:Nat) (t:Em) (c:Array Ei)
 | s (b:Nat) (t:Em) (c:Array Ei) (i:Nat) (js:List Nat) (f:List Ei->Array Ei)
 | n (k:Nat) (t:Em) (c:Array Ei) (i:Nat) (js:List Nat) (f:List Ei->Array Ei)
 | m (b:Nat) (t:Em) (c:Array Ei) (i:Nat) (js:List Nat) (f:List Ei->Array Ei->Array Ei) (i':Nat) (js':List Nat) (f':List Ei->Array Ei->Array Ei)
namespace aH
def dw (i:Nat) (js:List Nat) (f:List Ei->Array Ei) (c:Array Ei) (D:Nat->Bool) (v:Nat->Ei):Array Ei:=if D i=true then f (js.map v)else c
def app (i:Nat) (js:List Nat) (f:List Ei->Array Ei->Array Ei) (c:Array Ei) (D:Nat->Bool) (v:Nat->Ei):Array Ei:=if D i=true then f (js.map v) c else c
def B (N:Nat) (D:Nat->Bool) (v:Nat->Ei) (W:Ef):aH->Prop
 | .o b t c=>ai W b t c
 | .s b t c i js f=>ai W b t (dw i js f c D v)
 | .n k t c i js f=>D k=true->∃g:Nat,v k = Ek (some ⟨g,0,none⟩)/\N<=g/\ai W g t (dw i js f c D v)
 | .m b t c i js f i' js' f'=>ai W b t (app i js f (app i' js' f' c D v) D v)/\zV (app i js f (app i' js' f' c D v) D v)=true
def place:aH->Option Nat | .o b _ _=>some b | .s b _ _ _ _ _=>some b | .n .. =>none | .m b .. =>some b
def eS:aH->List (Nat×List Nat) | .o .. => [] | .s _ _ _ i js _=> [(i,js)] | .n _ _ _ i js _=> [(i,js)] | .m _ _ _ i js _ i' js' _=> [(i,js),(i',js')]
def lay:aH->Option Nat | .n k _ _ _ _ _=>some k | _=>none
/-- operation k neither lays nor stores into it -/
def fr (k:Nat):aH->Bool | .o .. =>true | .s _ _ _ i _ _=> !(i==k) | .n a _ _ i _ _=> !(a==k) && !(i==k) | .m _ _ _ i _ _ i' _ _=> !(i==k) && !(i'==k)
def ns (k:Nat):aH->Bool | .o .. =>true | .s _ _ _ i _ _=> !(i==k) | .n _ _ _ i _ _=> !(i==k) | .m _ _ _ i _ _ i' _ _=> !(i==k) && !(i'==k)
def nl (k:Nat):aH->Bool | .n a _ _ _ _ _=> !(a==k) | _=>true
end aH
def Bd (N:Nat) (D:Nat->Bool) (v:Nat->Ei) (W:Ef):List aH->Prop
 | []=>True
 | e::r=>e.B N D v W/\Bd N D v W r
theorem xH {N:Nat} {D:Nat->Bool} {v:Nat->Ei} {W:Ef} : ∀{L:List aH},Bd N D v W L↔∀x∈L,x.B N D v W
 | []=>⟨fun _ x h=>(by cases h),fun _=>trivial⟩
 | e::r=>by
  rw[List.forall_mem_cons,<- xH]; rfl
structure SJ (wb w0:Ef) (N:Nat) (L:List aH) (D:Nat->Bool) (v:Nat->Ei) (W:Ef):Prop where
 b:Below wb.heap.size wb W
 k:av w0 W
 n:N<=W.heap.size
 e:Bd N D v W L
 lt:∀x∈L,∀b,x.place=some b->b<N
 src:∀x∈L,∀p∈x.eS,D p.1=true->∀j∈p.2,D j=true
 dis:∀k k',(∃x∈L,x.lay=some k)->(∃x∈L,x.lay=some k')->k≠k'->D k=true->D k'=true->v k≠v k'
 iw:wb.heap.size<=N
theorem JL {k:Nat} {D:Nat->Bool} {v:Nat->Ei} {y:Ei} (T:i≠k) (E:D k=false) (H:D i=true->∀j∈js,D j=true):aH.dw i js f c (aj.upd D k) (aj.aT v k y)=aH.dw i js f c D v:=by
 have I:aj.upd D k i=D i:=by unfold aj.upd; rw[beq_eq_false_iff_ne.2 T,Bool.false_or]
 unfold aH.dw;rw[I]
 by_cases h:D i=true
 .
  rw[E9 h,E9 h]
  congr 1
  refine List.map_congr_left fun j M=> ?_;unfold aj.aT;rw[E_];rintro rfl;rw[H h _ M]at E; cases E
 . rw[E_ h,E_ h]
theorem XM {k:Nat} {f:List Ei->Array Ei->Array Ei} {D:Nat->Bool} {v:Nat->Ei} {y:Ei} (E:i≠k) (I:D k=false) (H:D i=true->∀j∈js,D j=true):aH.app i js f c (aj.upd D k) (aj.aT v k y)=aH.app i js f c D v:=JL (f:=fun l=>f l c) E I H
theorem UO {D:Nat->Bool} {v:Nat->Ei} (H:D i=true->∀j∈js,D j=true) (hv:∀j,D j=true->v j=v' j):aH.dw i js f c D v'=aH.dw i js f c D v:=by
 unfold aH.dw
 by_cases h:D i=true
 .
  rw[E9 h,E9 h]
  congr 1
  exact List.map_congr_left fun j E=>(hv j (H h j E)).symm
 . rw[E_ h,E_ h]
theorem GR {f:List Ei->Array Ei->Array Ei} {D:Nat->Bool} {v:Nat->Ei} (E:D i=true->∀j∈js,D j=true) (hv:∀j,D j=true->v j=v' j):aH.app i js f c D v'=aH.app i js f c D v:=UO (f:=fun l=>f l c) E hv
theorem qD {D:Nat->Bool} {k:Nat} (h:j≠k):aj.upd D k j=D j:=by unfold aj.upd; rw[beq_eq_false_iff_ne.2 h,Bool.false_or]
theorem km {D:Nat->Bool} {k:Nat} (h:D j=true):aj.upd D k j=true:=by unfold aj.upd; rw[h,Bool.or_true]
theorem qI {v:Nat->Ei} {k:Nat} {y:Ei} (h:j≠k):aj.aT v k y j=v j:=by unfold aj.aT; rw[E_ h]
theorem XN {v:Nat->Ei} {k:Nat} {y:Ei} : aj.aT v k y k=y:=by unfold aj.aT; rw[E9 rfl]
theorem XO {D:Nat->Bool} {k:Nat} : aj.upd D k k=true:=by unfold aj.upd; rw[beq_self_eq_true,Bool.true_or]
/-- an entry that operation k does not touch -/
theorem aH.dR {N k:Nat} {D:Nat->Bool} {v:Nat->Ei} {y:Ei} {W W':Ef} {x:aH} (T:x.fr k=true) (M:D k=false) (H:∀p∈x.eS,D p.1=true->∀j∈p.2,D j=true)
  (I:∀g t c,(x.place=some g\/∃a,x.lay=some a/\D a=true/\v a = Ek (some ⟨g,0,none⟩)/\N<=g)->ai W g t c->ai W' g t c) (h:x.B N D v W):x.B N (aj.upd D k) (aj.aT v k y) W':=by
 cases x with
 | o b t c=>exact I _ _ _ (.inl rfl) h
 | s b t c i js f=>
  have E:i≠k:=by simpa[aH.fr]using T
  show ai W' b t _
  rw[JL E M (H _ (.head _))];exact I _ _ _ (.inl rfl) h
 | m b t c i js f i' js' f'=>
  have E:i≠k/\i'≠k:=by simpa[aH.fr]using T
  show ai W' b t _/\zV _=true
  rw[XM E.2 M (H _ (.tail _ (.head _))),XM E.1 M (H _ (.head _))];exact⟨I _ _ _ (.inl rfl) h.1,h.2⟩
 | n a t c i js f=>
  have E:a≠k/\i≠k:=by simpa[aH.fr]using T
  intro X;rw[qD E.1]at X;obtain⟨g,Z,Y,e3⟩:=h X;refine⟨g,by rw[qI E.1]; exact Z,Y,?_⟩;rw[JL E.2 M (H _ (.head _))];exact I _ _ _ (.inr ⟨a,rfl,X,Z,Y⟩) e3
theorem aH.dU {k:Nat} {x:aH} (h:x.fr k=true):∀p∈x.eS,p.1≠k:=fun p E=>by
 cases x with
 | o b t c=>cases E
 | s b t c i js f=>
           have:i≠k:=by simpa[aH.fr]using h
           rw[List.mem_singleton.1 E]; exact this
 | n a t c i js f=>
           have:a≠k/\i≠k:=by simpa[aH.fr]using h
           rw[List.mem_singleton.1 E]; exact this.2
 | m b t c i js f i' js' f'=>
  have:i≠k/\i'≠k:=by simpa[aH.fr]using h
  rcases List.mem_cons.1 E with rfl | E
  . exact this.1
  . rw[List.mem_singleton.1 E]; exact this.2
section
variable {wb w0:Ef} {N k:Nat} {L L1 L2:List aH} {D:Nat->Bool} {v:Nat->Ei} {y:Ei} {W W':Ef}
theorem SJ.vv (h:SJ wb w0 N L D v W) {v':Nat->Ei} (hv:∀j,D j=true->v j=v' j):SJ wb w0 N L D v' W:=by
 refine⟨h.b,h.k,h.n,xH.2 fun x E=> ?_,h.lt,h.src,fun k T h1 h2 H M I=>by rw[<- hv k M,<- hv T I]; exact h.dis k T h1 h2 H M I,h.iw⟩;have:=xH.1 h.e x E
 cases x with
 | o b t c=>exact this
 | s b t c i js f=>show ai W b t _; rw[UO (h.src _ E _ (.head _)) hv]; exact this
 | m b t c i js f i' js' f'=>show ai W b t _/\zV _=true; rw[GR (h.src _ E _ (.tail _ (.head _))) hv,GR (h.src _ E _ (.head _)) hv]; exact this
 | n a t c i js f=>
  intro X;obtain⟨g,Z,Y,e3⟩:=this X;exact⟨g,by rw[<- hv a X]; exact Z,Y,by rw[UO (h.src _ E _ (.head _)) hv]; exact e3⟩
theorem SJ.call (h:SJ wb w0 N L D v W) (hk:D k=false) (I:L.all (aH.fr k)=true) (M:zf W W'):SJ wb w0 N L (aj.upd D k) (aj.aT v k y) W':=by
 rw[List.all_eq_true]at I
 have nl:∀x∈L,∀a,x.lay=some a->a≠k:=fun x E a ha=>by
  have:=I x E
  cases x<;>simp[aH.lay,aH.fr]at ha this
  subst ha; exact this.1
 have T:∀x∈L,∀p∈x.eS,p.1≠k:=fun x E=>aH.dU (I x E);refine⟨zA h.b (Ep _) M,h.k.aI M,Nat.le_trans h.n M.size,xH.2 fun x E=>aH.dR (I x E) hk (h.src x E) (fun _ _ _ _ b=>b.ae M) (xH.1 h.e x E),h.lt,fun x E p hp d=> ?_,fun a a' h1 h2 X d1 Y=> ?_,h.iw⟩
 .
  rw[qD (T x E p hp)]at d;exact fun j hj=>km (h.src x E p hp d j hj)
 .
  obtain⟨x,E,Z⟩:=h1;obtain⟨x',H,e2⟩:=h2;have n1:=nl x E a Z;have n2:=nl x' H a' e2;rw[qD n1]at d1;rw[qD n2]at Y;rw[qI n1,qI n2];exact h.dis a a' ⟨x,E,Z⟩ ⟨x',H,e2⟩ X d1 Y
theorem SJ.alloc (h:SJ wb w0 N L D v W) (hL:L=L1 ++ .n k t c i js f::L2) (hk:D k=false) (hi:D i=false) (M:i≠k) (h1:(L1.all (aH.fr k)&&L2.all (aH.fr k))=true) :
  SJ wb w0 N L (aj.upd D k) (aj.aT v k (Ek (some ⟨W.heap.size,0,none⟩))) (W.alloc (.cells c t)):=by
 rw[Bool.and_eq_true,List.all_eq_true,List.all_eq_true]at h1;have hs:zf W (W.alloc (.cells c t)):=(Below.refl _ _).alloc (Ep _) _
 have Y:∀x∈L,x = .n k t c i js f\/x.fr k=true:=fun x E=>by
  rw[hL,List.mem_append,List.mem_cons]at E
  rcases E with g | g | g
  . exact .inr (h1.1 x g)
  . exact .inl g
  . exact .inr (h1.2 x g)
 have ah:∀x∈L,∀p∈x.eS,p.1≠k:=fun x E p Z=>by
  rcases Y x E with rfl | this
  . rw[List.mem_singleton.1 Z]; exact M
  . exact aH.dU this p Z
 have old:∀x∈L,∀a,x.lay=some a->a≠k->D a=true->∃g,v a = Ek (some ⟨g,0,none⟩)/\g<W.heap.size:=fun x E a ha I d=>by
  have:=xH.1 h.e x E
  cases x<;>simp[aH.lay]at ha
  subst ha;obtain⟨g,e1,_,X⟩:=this d;exact⟨g,e1,X.lt⟩
 refine⟨zA h.b (Ep _) hs,h.k.aI hs,Nat.le_trans h.n hs.size,xH.2 fun x E=> ?_,h.lt,fun x E p Z d=> ?_,fun a a' g1 g2 I d1 d2=> ?_,h.iw⟩
 .
  rcases Y x E with rfl | hf
  .
   intro _;refine⟨W.heap.size,XN,h.n,?_⟩;unfold aH.dw;rw[qD M,hi,E_ Bool.false_ne_true];exact ai.new _ _ _
  . exact aH.dR hf hk (h.src x E) (fun _ _ _ _ b=>b.ae hs) (xH.1 h.e x E)
 .
  rw[qD (ah x E p Z)]at d;exact fun j hj=>km (h.src x E p Z d j hj)
 .
  obtain⟨x,E,e1⟩:=g1;obtain⟨x',T,e2⟩:=g2
  by_cases n1:a=k
  .
   subst n1;have H:a'≠a:=fun e=>I e.symm;rw[qD H]at d2;rw[XN,qI H];obtain⟨g,X,e4⟩:=old x' T a' e2 H d2;rw[X]; exact aj.dH e4
  .
   rw[qD n1]at d1;rw[qI n1]
   by_cases H:a'=k
   .
    subst H;rw[XN];obtain⟨g,X,e4⟩:=old x E a e1 n1 d1;rw[X]; exact(aj.dH e4).symm
   .
    rw[qD H]at d2;rw[qI H];exact h.dis a a' ⟨x,E,e1⟩ ⟨x',T,e2⟩ I d1 d2
/-- a store: e is the entry that operation k stores into, at place G -/
theorem SJ.store {e:aH} (h:SJ wb w0 N L D v W) (hL:L=L1++e::L2) (hk:D k=false) (h1:(L1.all (aH.fr k)&&L2.all (aH.fr k))=true) (T:∀a,e.lay=some a->a≠k)
  (ah:∀p∈e.eS,p.1=k->∀j∈p.2,D j=true) (hG:wb.heap.size<=G) (hb:ai W G t c) (hu:zV c=true)
  (I:∀x,x∈L1\/x∈L2->∀g,(x.place=some g\/∃a,x.lay=some a/\D a=true/\v a = Ek (some ⟨g,0,none⟩)/\N<=g)->g≠G) (hw:Wr G W W') (he:e.B N (aj.upd D k) (aj.aT v k y) W') :
  SJ wb w0 N L (aj.upd D k) (aj.aT v k y) W'/\av W W':=by
 rw[Bool.and_eq_true,List.all_eq_true,List.all_eq_true]at h1;have kp:av W W':=av.only hb hu hw.only
 have H:∀x∈L,x=e\/((x∈L1\/x∈L2)/\x.fr k=true):=fun x E=>by
  rw[hL,List.mem_append,List.mem_cons]at E
  rcases E with g | g | g
  . exact .inr ⟨.inl g,h1.1 x g⟩
  . exact .inl g
  . exact .inr ⟨.inr g,h1.2 x g⟩
 have nl:∀x∈L,∀a,x.lay=some a->a≠k:=fun x E a ha=>by
  rcases H x E with rfl | ⟨_,this⟩
  . exact T a ha
  .
   cases x<;>simp[aH.lay,aH.fr]at ha this
   subst ha; exact this.1
 refine⟨⟨h.b.trans ⟨hw.os,hw.tape,hw.output,Nat.le_of_eq hw.only.1.symm,fun j Z=>hw.only.2 j D6⟩,h.k.trans kp,hw.only.1▸h.n,xH.2 fun x E=> ?_,h.lt,fun x E p Y d j Z=> ?_,fun a a' g1 g2 I d1 d2=> ?_,h.iw⟩,kp⟩
 .
  rcases H x E with rfl | ⟨hm,hf⟩
  . exact he
  . exact aH.dR hf hk (h.src x E) (fun g _ _ hg b=>hw.f b (I x hm g hg)) (xH.1 h.e x E)
 .
  rcases H x E with rfl | ⟨_,this⟩
  .
   by_cases X:p.1=k
   . exact km (ah p Y X j Z)
   .
    rw[qD X]at d;exact km (h.src x E p Y d j Z)
  .
   rw[qD (aH.dU this p Y)]at d;exact km (h.src x E p Y d j Z)
 .
  obtain⟨x,E,X⟩:=g1;obtain⟨x',M,e2⟩:=g2;have n1:=nl x E a X;have n2:=nl x' M a' e2;rw[qD n1]at d1;rw[qD n2]at d2;rw[qI n1,qI n2];exact h.dis a a' ⟨x,E,X⟩ ⟨x',M,e2⟩ I d1 d2
end
def ZO:List (Nat×Option Tmp)->Nat->Option Tmp
 | [],_=>none
 | (i,t)::r,j=>if i=j then t else ZO r j
def jA (a:Act) (l:List (Nat×Option Tmp)) (js:List Nat):List Ei:=js.map fun j=>aj.at_ a (ZO l j)
def kP (a9:Nat->Bool) (l:List (Nat×Option Tmp)) (js:List Nat):Bool:=js.all fun j=>a9 j&&l.any fun p=>p.1==j
theorem Qz : ∀{l:List (Nat×Option Tmp)},(l.any fun p=>p.1==j)=true->(j,ZO l j)∈l
 | [],h=>by cases h
 | (i,t)::r,h=>by
  unfold ZO
  by_cases e:i=j
  . rw[E9 e,e]; exact .head _
  .
   rw[E_ e];rw[List.any_cons,show (i==j)=false from beq_eq_false_iff_ne.2 e,Bool.false_or]at h;exact .tail _ (Qz h)
theorem xn {G:Nat->Ei->Ef->Prop} {k:Nat} {a:Act} {D:Nat->Bool} {v:Nat->Ei} {W:Ef} (I:aj.aL a9 G pre k a D v W) (E:kP a9 (pre k) js=true) :
  ∀j∈js,D j=true/\v j=aj.at_ a (ZO (pre k) j):=fun j H=>by
 unfold kP at E;have h:=List.all_eq_true.1 E j H;rw[Bool.and_eq_true]at h;have:=I _ (Qz h.2) h.1;exact⟨this.1,this.2.1⟩
theorem jw {v:Nat->Ei} {a:Act} {l:List (Nat×Option Tmp)} (h:∀j∈js,v j=aj.at_ a (ZO l j)):js.map v=jA a l js:=List.map_congr_left h
namespace aj
def v1:List Ei->Array Ei:=fun l=>match l with | [Ej c]=>c | _=>#[]
def vT (i:Nat):List Ei->Array Ei:=fun l=>match l with | [Ev t]=>(match t[i]? with | some (Ej c)=>c | _=>#[]) | _=>#[]
def vx (c:Array Ei):List Ei->Array Ei:=fun _=>c
def vN:List Ei->Array Ei:=fun l=>(l.flatMap fun x=>match x with | Ej c=>c.toList | _=> []).toArray
end aj
def aV (W:Ef):List aH->Prop
 | []=>True
 | .o b t c::r=>ai W b t c/\aV W r
 | .s b t c _ _ _::r=>ai W b t c/\aV W r
 | .m b t c _ _ _ _ _ _::r=>(ai W b t c/\zV c=true)/\aV W r
 | .n .. :: r=>aV W r
theorem aV.mem {W:Ef} : ∀{L:List aH},aV W L->∀x∈L,match x with | .o b t c=>ai W b t c | .s b t c _ _ _=>ai W b t c | .m b t c _ _ _ _ _ _=>ai W b t c/\zV c=true | .n .. =>True
 | [],_,x,h=>by cases h
 | e::r,h,x,hx=>by
  rw[List.mem_cons]at hx
  rcases hx with rfl | hx
  .
   cases x with
   | o b t c=>exact h.1
   | s b t c i js f=>exact h.1
   | m b t c i js f i' js' f'=>exact h.1
   | n k t c i js f=>trivial
  .
   cases e with
   | o b t c=>exact aV.mem h.2 x hx
   | s b t c i js f=>exact aV.mem h.2 x hx
   | m b t c i js f i' js' f'=>exact aV.mem h.2 x hx
   | n k t c i js f=>exact aV.mem (L:=r) h x hx
theorem SJ.start {wb w0 W:Ef} {L:List aH} (E:Below wb.heap.size wb W/\av w0 W/\aV W L) (v:Nat->Ei):SJ wb w0 W.heap.size L (fun _=>false) v W:=by
 refine⟨E.1,E.2.1,Ep _,xH.2 fun x I=> ?_,fun x I b H=> ?_,fun _ _ _ _ h=>(by cases h),fun _ _ _ _ _ h=>(by cases h),E.1.size⟩
 .
  have:=E.2.2.mem x I
  cases x with
  | o b t c=>exact this
  | s b t c i js f=>exact this
  | m b t c i js f i' js' f'=>exact this
  | n k t c i js f=>intro h; cases h
 .
  have:=E.2.2.mem x I
  cases x with
  | o b' t c=>cases H; exact this.lt
  | s b' t c i js f=>cases H; exact this.lt
  | m b' t c i js f i' js' f'=>cases H; exact this.1.lt
  | n k t c i js f=>cases H
theorem aj.c_ {P:Program} {ops:Array Oper} {Q:Exit->Act->Ef->Prop} {id:Nat} {E:Act} (wb w0:Ef) (L:List aH) (cs:List Nat) (vs:List (Nat×(Ei->Prop))) (gs:List (Nat×(Ei->Ef->Prop))) (ps:List (Nat×List (Nat×Option Tmp))) (qs:List (Nat×List Nat))
  (hi:Below wb.heap.size wb w.drew/\av w0 w.drew/\aV w.drew L)
  (h:∀I,Hid (I=w.heap.size)->∀H Z,H=ops->(∀a W,Q .normal a W->Z .normal a W)->aj.RC P H Z (SJ wb w0 I L) (aj.inl cs) (aj.gv vs) (gw gs) (fun _=>av) (fun _ _=>False) (aj.pl ps) (aj.pl qs) 0 ops.toList E)
  (hm:P.follows .mixedOrders=true:=by kernel_rfl) (ht:aj.tidy ops E.tmps.size=true:=by kernel_rfl) (M:aj.cX ops (aj.inl cs) (aj.pl ps) (aj.pl qs)=true:=by kernel_rfl)
  (hv:∀p∈vs,∃x,p.2 x:=by ((repeat' refine List.forall_mem_cons.2 ⟨?_,?_⟩)<;>first | exact⟨_,rfl⟩ | exact⟨_,0,rfl⟩ | exact⟨_,none,0,rfl⟩ | exact⟨_,none,0,0,rfl⟩ | exact⟨_,false,none,0,0,rfl⟩ | exact⟨_,false,none,0,0,false,none,0,0,rfl⟩ | exact⟨_,false,none,0,0,false,none,0,0,false,none,0,0,false,none,0,0,rfl⟩ | (intro p T; cases T))) (hg:∀p∈gs,∀x W W',av W W'->p.2 x W->p.2 x W':=by ((repeat' refine List.forall_mem_cons.2 ⟨?_,?_⟩)<;>first | exact bV.af | exact cT.af | exact dD.af | exact cD.af | exact dZ.af | (intro p T; cases T))):(Code.region id ops true).wp P Q E w:=
 aj.bW (SJ wb w0 · L) (aj.inl cs) (aj.gv vs) (gw gs) (fun _=>av) (fun _ _=>False) (aj.pl ps) (aj.pl qs) hm ht M (aj.aY vs hv) fun I Y=>
  ⟨fun v=>by have e:I=w.drew.heap.size:=Y.out; rw[e]; exact SJ.start hi v,fun _ _ _ _ X hj=>hj.vv X,fun _ _ _ _ _ _ _ _ _ _ _ hk hx=>qN gs hg hk hx,fun _ _ _ _ h=>h.elim,h I Y⟩
/-- the region from operation k on -/
abbrev RJ (P:Program) (ops:Array Oper) (Q:Exit->Act->Ef->Prop) (wb w0:Ef) (N:Nat) (L:List aH) (cs:List Nat) (vs:List (Nat×(Ei->Prop))) (gs:List (Nat×(Ei->Ef->Prop))) (ps:List (Nat×List (Nat×Option Tmp))) (qs:List (Nat×List Nat)):Nat->List Oper->Act->Prop:=
 aj.RC P ops Q (SJ wb w0 N L) (aj.inl cs) (aj.gv vs) (gw gs) (fun _=>av) (fun _ _=>False) (aj.pl ps) (aj.pl qs)
theorem vU {o:Oper} {t:Tmp} (h:o.dst=some t):aj.dv o x=x:=by unfold aj.dv; rw[h]
theorem Yu {o:Oper} {t:Tmp} {a:Act} (h:o.dst=some t) (ht:Nat.ble (t+1) a.tmps.size=true):∀s,o.dst=some s->s<a.tmps.size:=fun s E=>by rw[h]at E; cases E; exact Ec ht
section
variable {P:Program} {ops LL:Array Oper} {Q:Exit->Act->Ef->Prop} {wb w0:Ef} {N:Nat} {L:List aH} {cs:List Nat} {vs:List (Nat×(Ei->Prop))} {gs:List (Nat×(Ei->Ef->Prop))} {ps:List (Nat×List (Nat×Option Tmp))} {qs:List (Nat×List Nat)} {k:Nat} {o:Oper} {rest:List Oper} {a:Act}
theorem aj.sC {f:FuncId} {m:Ei->Ei} {F:Ef->Ei->Prop} {t:Tmp} (hL:ops=LL) (M:∀D v W,SJ wb w0 N L D v W->aj.aL (aj.inl cs) (gw gs) (aj.pl ps) k a D v W->Ee P f args W fun e E=>∃u,e = Eh (m u)/\F E u/\zf W E)
  (Z:∀x,aj.gv vs k x->RJ P ops Q wb w0 N L cs vs gs ps qs (k+1) rest (a.put o.dst x)) (hd:o.dst=some t:=by exact rfl) (ht:Nat.ble (t+1) a.tmps.size=true:=by exact rfl) (hc:aj.inl cs k=true:=by exact rfl) (hw:Region.wanted o (yielded LL a.tmps)=true:=by exact rfl) (hn:L.all (aH.fr k)=true:=by exact rfl)
  (hv:∀W u,F W u->aj.gv vs k (m u):=by (intro W u h; first | exact FR.ak h | exact az.ak h | (obtain⟨a,s,n,c,b,t,m,d,e⟩:=FR.ak h; exact⟨a,s,n,c,b,t,m,d,by rw[e]⟩) | (obtain⟨a,s,n,c,e⟩:=az.ak h; exact⟨a,s,n,c,by rw[e]⟩) | exact dZ.ak h)) (hg:∀W u,F W u->gw gs k (m u) W:=by (intro W u h; first | exact h | exact⟨_,rfl,h⟩))
  (h:∀W,(Ee P f args W fun e E=>∃u,e = Eh (m u)/\F E u/\zf W E)->∀K:Act->Ef->Prop,Hid (∀u W2,F W2 u->zf W W2->K (a.put o.dst (m u)) W2)->o.wp P a W K (fun e _ _=>match e with | .panic _=>False | _=>False):=by (intro W M K T; go_step; refine M.mono ?_; rintro e W2 ⟨u,rfl,I,H⟩; exact T.out u W2 I H)):RJ P ops Q wb w0 N L cs vs gs ps qs k (o::rest) a:=
 aj.aC hc (Yu hd ht) (by rw[hL]; exact hw) (fun D v W X Y hf K T=>h W (M D v W Y hf) K (E7 fun u W2 I H=>T.out _ W2 (av.ae H) (Y.call X.1 hn H) (by rw[vU hd]; exact hg _ _ I) (by rw[vU hd]; exact hv _ _ I))) Z
theorem aj.sV {f:FuncId} {yX:Ei} {t:Tmp} (hL:ops=LL) (I:∀D v W,SJ wb w0 N L D v W->aj.aL (aj.inl cs) (gw gs) (aj.pl ps) k a D v W->Ee P f args W fun e T=>e = Eh yX/\zf W T)
  (Z:RJ P ops Q wb w0 N L cs vs gs ps qs (k+1) rest (a.put o.dst yX)) (hd:o.dst=some t:=by exact rfl) (ht:Nat.ble (t+1) a.tmps.size=true:=by exact rfl) (hc:aj.inl cs k=true:=by exact rfl) (hw:Region.wanted o (yielded LL a.tmps)=true:=by exact rfl) (hn:L.all (aH.fr k)=true:=by exact rfl)
  (hv:aj.gv vs k yX:=by exact rfl) (H:∀x,aj.gv vs k x->x=yX:=by exact fun _ h=>h) (hg:∀u W,gw gs k u W:=by exact fun _ _=>trivial)
  (h:∀W,(Ee P f args W fun e T=>e = Eh yX/\zf W T)->∀K:Act->Ef->Prop,Hid (∀W2,zf W W2->K (a.put o.dst yX) W2)->o.wp P a W K (fun e _ _=>match e with | .panic _=>False | _=>False):=by (intro W I K M; go_step; refine I.mono ?_; rintro e W2 ⟨rfl,E⟩; exact M.out W2 E)):RJ P ops Q wb w0 N L cs vs gs ps qs k (o::rest) a:=
 aj.aC hc (Yu hd ht) (by rw[hL]; exact hw) (fun D v W X Y hf K M=>h W (I D v W Y hf) K (E7 fun W2 E=>M.out _ W2 (av.ae E) (Y.call X.1 hn E) (hg _ _) (by rw[vU hd]; exact hv))) (fun x hx=>H x hx▸Z)
theorem aj.sA {ty:Em} {c:Array Ei} {i:Nat} {js:List Nat} {f:List Ei->Array Ei} {t:Tmp} (X:ops=LL) (M:∀x,aj.gv vs k x->RJ P ops Q wb w0 N L cs vs gs ps qs (k+1) rest (a.put o.dst x)) (hd:o.dst=some t:=by exact rfl) (ht:Nat.ble (t+1) a.tmps.size=true:=by exact rfl) (hc:aj.inl cs k=true:=by exact rfl) (hw:Region.wanted o (yielded LL a.tmps)=true:=by exact rfl)
  (Y:L=L.takeWhile (aH.nl k) ++ .n k ty c i js f::(L.dropWhile (aH.nl k)).tail:=by exact rfl) (T:((L.takeWhile (aH.nl k)).all (aH.fr k)&&(L.dropWhile (aH.nl k)).tail.all (aH.fr k))=true:=by exact rfl) (H:((aj.pl qs k).contains i && !(i==k))=true:=by exact rfl)
  (hv:∀u,jE u->aj.gv vs k u:=by exact fun _ h=>h) (hg:∀u W,gw gs k u W:=by exact fun _ _=>trivial)
  (h:∀W,∀K:Act->Ef->Prop,Hid (K (a.put o.dst (Ek (some ⟨W.heap.size,0,none⟩))) (W.alloc (.cells c ty)))->o.wp P a W K (fun e _ _=>match e with | .panic _=>False | _=>False):=by (intro W K I; go_step; exact I.out)):RJ P ops Q wb w0 N L cs vs gs ps qs k (o::rest) a:=by
 rw[Bool.and_eq_true,List.contains_iff_mem,Bool.not_eq_true',beq_eq_false_iff_ne]at H;exact aj.aC hc (Yu hd ht) (by rw[X]; exact hw) (fun D v W E Z hf K I=>h W K (E7 (I.out _ _ (av.ae ((Below.refl _ _).alloc (Ep _) _)) (by rw[vU hd]; exact Z.alloc Y E.1 (E.2 i H.1) H.2 T) (hg _ _) (by rw[vU hd]; exact hv _ ⟨_,rfl⟩)))) M
theorem ai.sl (h:ai w g t l.toArray):ai (w.setCell ⟨g,i,none⟩ u) g t (l.set i u).toArray:=by
 have:=h.bH i u
 rwa[List.setIfInBounds_toArray]at this
theorem ai.b1 (h:ai w g t #[x0]):w.cell? ⟨g,0,none⟩=some x0/\True:=⟨h.c 0 rfl,trivial⟩
theorem ai.b2 (h:ai w g t #[x0,x1]):w.cell? ⟨g,0,none⟩=some x0/\w.cell? ⟨g,1,none⟩=some x1:=⟨h.c 0 rfl,h.c 1 rfl⟩
theorem ai.b3 (h:ai w g t #[x0,x1,x2]):w.cell? ⟨g,0,none⟩=some x0/\w.cell? ⟨g,1,none⟩=some x1/\w.cell? ⟨g,2,none⟩=some x2:=⟨h.c 0 rfl,h.c 1 rfl,h.c 2 rfl⟩
theorem ai.b4 (h:ai w g t #[x0,x1,x2,x3]):w.cell? ⟨g,0,none⟩=some x0/\w.cell? ⟨g,1,none⟩=some x1/\w.cell? ⟨g,2,none⟩=some x2/\w.cell? ⟨g,3,none⟩=some x3:=⟨h.c 0 rfl,h.c 1 rfl,h.c 2 rfl,h.c 3 rfl⟩
theorem ai.b5 (h:ai w g t #[x0,x1,x2,x3,x4]):w.cell? ⟨g,0,none⟩=some x0/\w.cell? ⟨g,1,none⟩=some x1/\w.cell? ⟨g,2,none⟩=some x2/\w.cell? ⟨g,3,none⟩=some x3/\w.cell? ⟨g,4,none⟩=some x4:=⟨h.c 0 rfl,h.c 1 rfl,h.c 2 rfl,h.c 3 rfl,h.c 4 rfl⟩
theorem ai.b6 (h:ai w g t #[x0,x1,x2,x3,x4,x5]):w.cell? ⟨g,0,none⟩=some x0/\w.cell? ⟨g,1,none⟩=some x1/\w.cell? ⟨g,2,none⟩=some x2/\w.cell? ⟨g,3,none⟩=some x3/\w.cell? ⟨g,4,none⟩=some x4/\w.cell? ⟨g,5,none⟩=some x5:=⟨h.c 0 rfl,h.c 1 rfl,h.c 2 rfl,h.c 3 rfl,h.c 4 rfl,h.c 5 rfl⟩
theorem ai.b7 (h:ai w g t #[x0,x1,x2,x3,x4,x5,x6]):w.cell? ⟨g,0,none⟩=some x0/\w.cell? ⟨g,1,none⟩=some x1/\w.cell? ⟨g,2,none⟩=some x2/\w.cell? ⟨g,3,none⟩=some x3/\w.cell? ⟨g,4,none⟩=some x4/\w.cell? ⟨g,5,none⟩=some x5/\w.cell? ⟨g,6,none⟩=some x6:=⟨h.c 0 rfl,h.c 1 rfl,h.c 2 rfl,h.c 3 rfl,h.c 4 rfl,h.c 5 rfl,h.c 6 rfl⟩
theorem ai.b8 (h:ai w g t #[x0,x1,x2,x3,x4,x5,x6,x7]):w.cell? ⟨g,0,none⟩=some x0/\w.cell? ⟨g,1,none⟩=some x1/\w.cell? ⟨g,2,none⟩=some x2/\w.cell? ⟨g,3,none⟩=some x3/\w.cell? ⟨g,4,none⟩=some x4/\w.cell? ⟨g,5,none⟩=some x5/\w.cell? ⟨g,6,none⟩=some x6/\w.cell? ⟨g,7,none⟩=some x7:=⟨h.c 0 rfl,h.c 1 rfl,h.c 2 rfl,h.c 3 rfl,h.c 4 rfl,h.c 5 rfl,h.c 6 rfl,h.c 7 rfl⟩
theorem ai.f_ (h:ai w g t #[x0,x1,x2,x3,x4,x5,x6,x7,x8,x9,ce,bf,cn,bl,be,ci]):w.cell? ⟨g,0,none⟩=some x0/\w.cell? ⟨g,1,none⟩=some x1/\w.cell? ⟨g,2,none⟩=some x2/\w.cell? ⟨g,3,none⟩=some x3/\w.cell? ⟨g,4,none⟩=some x4/\w.cell? ⟨g,5,none⟩=some x5/\w.cell? ⟨g,6,none⟩=some x6/\w.cell? ⟨g,7,none⟩=some x7/\w.cell? ⟨g,8,none⟩=some x8/\w.cell? ⟨g,9,none⟩=some x9/\w.cell? ⟨g,10,none⟩=some ce/\w.cell? ⟨g,11,none⟩=some bf/\w.cell? ⟨g,12,none⟩=some cn/\w.cell? ⟨g,13,none⟩=some bl/\w.cell? ⟨g,14,none⟩=some be/\w.cell? ⟨g,15,none⟩=some ci:=⟨h.c 0 rfl,h.c 1 rfl,h.c 2 rfl,h.c 3 rfl,h.c 4 rfl,h.c 5 rfl,h.c 6 rfl,h.c 7 rfl,h.c 8 rfl,h.c 9 rfl,h.c 10 rfl,h.c 11 rfl,h.c 12 rfl,h.c 13 rfl,h.c 14 rfl,h.c 15 rfl⟩
theorem ai.fY {M E H I:Ei} (h:ai w g t #[x0,x1,x2,x3,x4,x5,x6,x7,x8,x9,ce,bf,cn,bl,be,ci,M,E,H,I]):w.cell? ⟨g,0,none⟩=some x0/\w.cell? ⟨g,1,none⟩=some x1/\w.cell? ⟨g,2,none⟩=some x2/\w.cell? ⟨g,3,none⟩=some x3/\w.cell? ⟨g,4,none⟩=some x4/\w.cell? ⟨g,5,none⟩=some x5/\w.cell? ⟨g,6,none⟩=some x6/\w.cell? ⟨g,7,none⟩=some x7/\w.cell? ⟨g,8,none⟩=some x8/\w.cell? ⟨g,9,none⟩=some x9/\w.cell? ⟨g,10,none⟩=some ce/\w.cell? ⟨g,11,none⟩=some bf/\w.cell? ⟨g,12,none⟩=some cn/\w.cell? ⟨g,13,none⟩=some bl/\w.cell? ⟨g,14,none⟩=some be/\w.cell? ⟨g,15,none⟩=some ci/\w.cell? ⟨g,16,none⟩=some M/\w.cell? ⟨g,17,none⟩=some E/\w.cell? ⟨g,18,none⟩=some H/\w.cell? ⟨g,19,none⟩=some I:=⟨h.c 0 rfl,h.c 1 rfl,h.c 2 rfl,h.c 3 rfl,h.c 4 rfl,h.c 5 rfl,h.c 6 rfl,h.c 7 rfl,h.c 8 rfl,h.c 9 rfl,h.c 10 rfl,h.c 11 rfl,h.c 12 rfl,h.c 13 rfl,h.c 14 rfl,h.c 15 rfl,h.c 16 rfl,h.c 17 rfl,h.c 18 rfl,h.c 19 rfl⟩
theorem ai.cast {c':Array Ei} (h:ai w g t c) (e:c=c'):ai w g t c':=e▸h
theorem aj.fH {X:Prop} (h:X:=by (intro W E K hK; have ff:=E.fr; (first | obtain⟨H,I,M,T⟩:=ai.b4 E | obtain⟨H,I⟩:=ai.b2 E | obtain⟨H,-⟩:=ai.b1 E | obtain⟨H,I,M,T,Y,Z,c6,c7⟩:=ai.b8 E | obtain⟨H,I,M⟩:=ai.b3 E | obtain⟨H,I,M,T,Y,Z,c6,c7,c8,c9,cg,br,bh,bg,ah,bt⟩:=ai.f_ E | obtain⟨H,I,M,T,Y⟩:=ai.b5 E | obtain⟨H,I,M,T,Y,Z⟩:=ai.b6 E | obtain⟨H,I,M,T,Y,Z,c6⟩:=ai.b7 E | obtain⟨H,I,M,T,Y,Z,c6,c7,c8,c9,cg,br,bh,bg,ah,bt,cx,cZ,cN,cy⟩:=ai.fY E); go_step; refine hK.out _ ?_ ?_; (repeat' with_reducible apply Wr.set); exact Wr.refl _ _; apply ai.cast; (repeat' with_reducible apply ai.sl); exact E; rfl)):X:=h
theorem ZW {k:Nat} {D:Nat->Bool} {v:Nat->Ei} {y:Ei} (E:D k=false) (h:∀j∈js,D j=true):js.map (aj.aT v k y)=js.map v:=
 List.map_congr_left fun j H=>by rw[qI]; rintro rfl; rw[h _ H]at E; cases E
theorem aj.sN {al G:Nat} {ty:Em} {c:Array Ei} {js:List Nat} {f:List Ei->Array Ei} (hL:ops=LL) (hr:RJ P ops Q wb w0 N L cs vs gs ps qs (k+1) rest a) (hd:o.dst=none:=by exact rfl) (hc:aj.inl cs k=true:=by exact rfl) (hw:Region.wanted o (yielded LL a.tmps)=true:=by exact rfl)
  (Y:L=L.takeWhile (aH.ns k)++(.n al ty c k js f)::(L.dropWhile (aH.ns k)).tail:=by exact rfl) (h1:((L.takeWhile (aH.ns k)).all (aH.fr k)&&(L.dropWhile (aH.ns k)).tail.all (aH.fr k))=true:=by exact rfl) (X:((L.takeWhile (aH.ns k)).all (aH.nl al)&&(L.dropWhile (aH.ns k)).tail.all (aH.nl al) && !(al==k))=true:=by exact rfl) (hG:aj.at_ a (ZO (aj.pl ps k) al) = Ek (some ⟨G,0,none⟩):=by exact rfl) (hk:kP (aj.inl cs) (aj.pl ps k) (al::js)=true:=by exact rfl) (nu:zV c=true:=by exact rfl)
  (hv:∀u,aj.gv vs k u:=by exact fun _=>trivial) (hg:∀u W,gw gs k u W:=by exact fun _ _=>trivial)
  (h:∀W,ai W G ty c->∀K:Act->Ef->Prop,Hid (∀W',Wr G W W'->ai W' G ty (f (jA a (aj.pl ps k) js))->K (a.put o.dst En) W')->o.wp P a W K (fun e _ _=>match e with | .panic _=>False | _=>False):=by exact aj.fH):RJ P ops Q wb w0 N L cs vs gs ps qs k (o::rest) a:=by
 refine aj.aC hc (fun s hs=>by rw[hd]at hs; cases hs) (by rw[hL]; exact hw) (fun D v W M I hf K hK=> ?_) (fun x _=>by rw[show a.put o.dst x=a by rw[hd]; rfl]; exact hr);have F:=xn hf hk;obtain⟨da,Z⟩:=F al (.head _);rw[hG]at Z;have Fj:∀j∈js,D j=true/\v j=aj.at_ a (ZO (aj.pl ps k) j):=fun j I=>F j (.tail _ I);rw[Bool.and_eq_true,Bool.and_eq_true,Bool.not_eq_true',beq_eq_false_iff_ne,List.all_eq_true,List.all_eq_true]at X;have hm:(.n al ty c k js f:aH)∈L:=by rw[Y]; exact List.mem_append_right _ (.head _)
 obtain⟨g,e1,e2,e3⟩:=xH.1 I.e _ hm da;obtain rfl:G=g:=aj.bM (Z.symm.trans e1);have e4:aH.dw k js f c D v=c:=by unfold aH.dw; rw[M.1,E_ Bool.false_ne_true]
 rw[e4]at e3;refine h W e3 K (E7 fun W' ah bg=> ?_);have S:=I.store (y:=aj.dv o En) Y M.1 h1 (fun x T=>by cases T; exact X.2) (fun p hp _ j E=>by rw[List.mem_singleton.1 hp]at E; exact(Fj j E).1) (Nat.le_trans I.iw e2) e3 nu (fun x T g hg=> ?_) ah ?_
 . exact hK.out _ _ S.2 S.1 (hg _ _) (hv _)
 .
  rcases hg with hp | ⟨x1,hl,d1,v1,_⟩
  .
   have H:x∈L:=by
    rw[Y,List.mem_append,List.mem_cons]
    rcases T with m | m
    . exact .inl m
    . exact .inr (.inr m)
   have:=I.lt x H g hp;omega
  .
   have H:x∈L:=by
    rw[Y,List.mem_append,List.mem_cons]
    rcases T with m | m
    . exact .inl m
    . exact .inr (.inr m)
   have bh:x1≠al:=by
    have:=T.elim (X.1.1 x) (X.1.2 x)
    cases x<;>simp[aH.lay,aH.nl]at hl this
    subst hl; exact this
   intro e;exact I.dis x1 al ⟨x,H,hl⟩ ⟨_,hm,rfl⟩ bh d1 da (by rw[v1,Z,e])
 .
  intro _;refine⟨G,by rw[qI X.2]; exact Z,e2,?_⟩;unfold aH.dw;rw[XO,E9 rfl,ZW M.1 fun j E=>(Fj j E).1,jw fun j E=>(Fj j E).2];exact bg
/-- the places of the others -/
def aH.apart (k G:Nat):List aH->Prop
 | []=>True
 | .o b _ _::r=>b≠G/\aH.apart k G r
 | .s b _ _ i _ _::r=>(i=k\/b≠G)/\aH.apart k G r
 | .m b _ _ i _ _ i' _ _::r=>(i=k\/i'=k\/b≠G)/\aH.apart k G r
 | .n .. :: r=>aH.apart k G r
theorem aH.apart_spec {k:Nat} : ∀{L:List aH},aH.apart k G L->∀x∈L,x.fr k=true->∀b,x.place=some b->b≠G
 | [],_,x,h,_,_,_=>by cases h
 | e::r,h,x,hx,hf,b,hb=>by
  rw[List.mem_cons]at hx
  rcases hx with rfl | hx
  .
   cases x with
   | o b' t c=>cases hb; exact h.1
   | s b' t c i js f=>
    cases hb
    have:i≠k:=by simpa[aH.fr]using hf
    exact h.1.resolve_left this
   | m b' t c i js f i' js' f'=>
    cases hb
    have:i≠k/\i'≠k:=by simpa[aH.fr]using hf
    exact(h.1.resolve_left this.1).resolve_left this.2
   | n k' t c i js f=>cases hb
  .
   cases e with
   | o b' t c=>exact aH.apart_spec h.2 x hx hf b hb
   | s b' t c i js f=>exact aH.apart_spec h.2 x hx hf b hb
   | m b' t c i js f i' js' f'=>exact aH.apart_spec h.2 x hx hf b hb
   | n k' t c i js f=>exact aH.apart_spec (L:=r) h x hx hf b hb
theorem aj.sS {b:Nat} {ty:Em} {c:Array Ei} {js:List Nat} {f:List Ei->Array Ei} (hL:ops=LL) (hr:RJ P ops Q wb w0 N L cs vs gs ps qs (k+1) rest a) (hd:o.dst=none:=by exact rfl) (hc:aj.inl cs k=true:=by exact rfl) (hw:Region.wanted o (yielded LL a.tmps)=true:=by exact rfl)
  (X:L=L.takeWhile (aH.ns k)++(.s b ty c k js f)::(L.dropWhile (aH.ns k)).tail:=by exact rfl) (I:((L.takeWhile (aH.ns k)).all (aH.fr k)&&(L.dropWhile (aH.ns k)).tail.all (aH.fr k))=true:=by exact rfl) (hk:kP (aj.inl cs) (aj.pl ps k) js=true:=by exact rfl) (hb:wb.heap.size<=b:=by omega) (ap:aH.apart k b L:=by ((repeat' apply E8)<;>first | trivial | omega | exact .inl rfl | exact .inr (.inl rfl) | (right; omega) | (right; right; omega))) (nu:zV c=true:=by exact rfl)
  (hv:∀u,aj.gv vs k u:=by exact fun _=>trivial) (hg:∀u W,gw gs k u W:=by exact fun _ _=>trivial)
  (h:∀W,ai W b ty c->∀K:Act->Ef->Prop,Hid (∀W',Wr b W W'->ai W' b ty (f (jA a (aj.pl ps k) js))->K (a.put o.dst En) W')->o.wp P a W K (fun e _ _=>match e with | .panic _=>False | _=>False):=by exact aj.fH):RJ P ops Q wb w0 N L cs vs gs ps qs k (o::rest) a:=by
 refine aj.aC hc (fun s hs=>by rw[hd]at hs; cases hs) (by rw[hL]; exact hw) (fun D v W H hj hf K hK=> ?_) (fun x _=>by rw[show a.put o.dst x=a by rw[hd]; rfl]; exact hr);have Fj:=xn hf hk;have hm:(.s b ty c k js f:aH)∈L:=by rw[X]; exact List.mem_append_right _ (.head _)
 have T:ai W b ty (aH.dw k js f c D v):=xH.1 hj.e _ hm;have e4:aH.dw k js f c D v=c:=by unfold aH.dw; rw[H.1,E_ Bool.false_ne_true]
 rw[e4]at T;have bg:=hj.lt _ hm b rfl;refine h W T K (E7 fun W' Z ah=> ?_);have S:=hj.store (y:=aj.dv o En) X H.1 I (fun x M=>by cases M) (fun p hp _ j E=>by rw[List.mem_singleton.1 hp]at E; exact(Fj j E).1) hb T nu (fun x M g hg=> ?_) Z ?_
 . exact hK.out _ _ S.2 S.1 (hg _ _) (hv _)
 .
  have Y:x∈L:=by
   rw[X,List.mem_append,List.mem_cons]
   rcases M with m | m
   . exact .inl m
   . exact .inr (.inr m)
  rw[Bool.and_eq_true,List.all_eq_true,List.all_eq_true]at I
  rcases hg with hp | ⟨x1,hl,d1,v1,hN⟩
  . exact aH.apart_spec ap x Y (M.elim (I.1 x) (I.2 x)) g hp
  . omega
 .
  show ai W' b ty (aH.dw k js f c (aj.upd D k) (aj.aT v k _))
  unfold aH.dw;rw[XO,E9 rfl,ZW H.1 fun j E=>(Fj j E).1,jw fun j E=>(Fj j E).2];exact ah
def aH.dM (a9:Nat->Bool) (l:List (Nat×Option Tmp)) (n:Nat):aH->Bool
 | .o .. =>true
 | .s _ _ _ i js _=>Nat.ble (i+1) n&&a9 i&&kP a9 l js
 | .n k _ _ i js _=>Nat.ble (i+1) n&&a9 i&&kP a9 l (k::js)
 | .m _ _ _ i js _ i' js' _=>Nat.ble (i+1) n&&a9 i&&kP a9 l js&&(Nat.ble (i'+1) n&&a9 i'&&kP a9 l js')
/-- what has become of a block when the region is through -/
def qk (N:Nat) (a:Act) (l:List (Nat×Option Tmp)) (W:Ef):aH->Prop
 | .o b t c=>ai W b t c
 | .s b t _ _ js f=>ai W b t (f (jA a l js))
 | .m b t c _ js f _ js' f'=>ai W b t (f (jA a l js) (f' (jA a l js') c))
 | .n k t _ _ js f=>∀g:Nat,aj.at_ a (ZO l k) = Ek (some ⟨g,0,none⟩)->N<=g/\ai W g t (f (jA a l js))
def xZ (N:Nat) (a:Act) (l:List (Nat×Option Tmp)) (W:Ef):List aH->Prop
 | []=>True
 | e::r=>qk N a l W e/\xZ N a l W r
theorem KM {N:Nat} {a:Act} {l:List (Nat×Option Tmp)} {W:Ef} : ∀{L:List aH},(∀x∈L,qk N a l W x)->xZ N a l W L
 | [],_=>trivial
 | e::_,h=>⟨h e (.head _),KM fun x E=>h x (.tail _ E)⟩
/-- where the old blocks lie -/
def WX (N:Nat):List aH->Prop
 | []=>True
 | .o b _ _::r=>b<N/\WX N r
 | .s b _ _ _ _ _::r=>b<N/\WX N r
 | .m b _ _ _ _ _ _ _ _::r=>b<N/\WX N r
 | .n .. :: r=>WX N r
theorem Yv {N:Nat} : ∀{L:List aH},(∀x∈L,∀b,x.place=some b->b<N)->WX N L
 | [],_=>trivial
 | .o _ _ _::_,h=>⟨h _ (.head _) _ rfl,Yv fun x E=>h x (.tail _ E)⟩
 | .s _ _ _ _ _ _::_,h=>⟨h _ (.head _) _ rfl,Yv fun x E=>h x (.tail _ E)⟩
 | .m _ _ _ _ _ _ _ _ _::_,h=>⟨h _ (.head _) _ rfl,Yv fun x E=>h x (.tail _ E)⟩
 | .n .. :: r,h=>Yv (L:=r) fun x E=>h x (.tail _ E)
theorem aj.sE (h:∀D v W,Below wb.heap.size wb W->av w0 W->xZ N a (aj.pl ps k) W L->(∀k1 k2 (g1 g2:Nat),(!(k1==k2)&&(!(L.all (aH.nl k1)) && !(L.all (aH.nl k2))))=true->aj.at_ a (ZO (aj.pl ps k) k1) = Ek (some ⟨g1,0,none⟩)->aj.at_ a (ZO (aj.pl ps k) k2) = Ek (some ⟨g2,0,none⟩)->g1≠g2)->wb.heap.size<=N/\WX N L->aj.aL (aj.inl cs) (gw gs) (aj.pl ps) k a D v W->Q .normal a W)
  (hk:L.all (aH.dM (aj.inl cs) (aj.pl ps k) k)=true:=by exact rfl):RJ P ops Q wb w0 N L cs vs gs ps qs k [] a:=by
 refine aj.aE fun D v W hd Y T=>h D v W Y.b Y.k (KM fun x X=> ?_) (fun k1 k2 g1 g2 hn e1 e2 e=> ?_) ⟨Y.iw,Yv Y.lt⟩ T
 .
  have E:=List.all_eq_true.1 hk x X;have h2:=xH.1 Y.e x X
  cases x with
  | o b t c=>exact h2
  | s b t c i js f=>
   simp only[aH.dM,Bool.and_eq_true]at E;have Fj:=xn T E.2;have di:D i=true:=(hd i (Ec E.1.1)).trans E.1.2;have M:ai W b t (aH.dw i js f c D v):=h2;unfold aH.dw at M;rw[E9 di,jw fun j H=>(Fj j H).2]at M;exact M
  | m b t c i js f i' js' f'=>
   simp only[aH.dM,Bool.and_eq_true]at E;have Fj:=xn T E.1.2;have bg:=xn T E.2.2;have di:D i=true:=(hd i (Ec E.1.1.1)).trans E.1.1.2;have br:D i'=true:=(hd i' (Ec E.2.1.1)).trans E.2.1.2;have M:ai W b t (aH.app i js f (aH.app i' js' f' c D v) D v):=h2.1;unfold aH.app at M;rw[E9 di,E9 br,jw fun j H=>(Fj j H).2,jw fun j H=>(bg j H).2]at M;exact M
  | n I t c i js f=>
   simp only[aH.dM,Bool.and_eq_true]at E;have F:=xn T E.2;have di:D i=true:=(hd i (Ec E.1.1)).trans E.1.2;intro g hg;obtain⟨dk,ek⟩:=F I (.head _);obtain⟨g',e1,e2,e3⟩:=h2 dk;obtain rfl:g=g':=aj.bM ((hg.symm.trans ek.symm).trans e1);unfold aH.dw at e3;rw[E9 di,jw fun j H=>(F j (.tail _ H)).2]at e3;exact⟨e2,e3⟩
 .
  rw[Bool.and_eq_true,Bool.and_eq_true,Bool.not_eq_true',beq_eq_false_iff_ne,Bool.not_eq_true',Bool.not_eq_true']at hn
  have ah:∀I,L.all (aH.nl I)=false->∃x∈L,x.lay=some I:=fun I bh=>by
   obtain⟨x,X,Z⟩:=List.all_eq_false.1 bh;refine⟨x,X,?_⟩
   cases x<;>simp[aH.nl]at Z
   subst Z; rfl
  have yX:∀I,(∃x∈L,x.lay=some I)->D I=true/\v I=aj.at_ a (ZO (aj.pl ps k) I):=fun I ⟨x,X,hl⟩=>by
   have E:=List.all_eq_true.1 hk x X
   cases x<;>simp only[aH.lay,reduceCtorEq,Option.some.injEq]at hl
   subst hl;simp only[aH.dM,Bool.and_eq_true]at E;exact xn T E.2 _ (.head _)
  have a1:=ah k1 hn.2.1;have a2:=ah k2 hn.2.2;exact Y.dis k1 k2 a1 a2 hn.1 (yX k1 a1).1 (yX k2 a2).1 (by rw[(yX k1 a1).2,(yX k2 a2).2,e1,e2,e])
theorem aH.un {W:Ef} {D:Nat->Bool} {v:Nat->Ei} (h:ai W b t (aH.dw i js f c D v)) (E:D i=false):ai W b t c:=by
 unfold aH.dw at h
 rwa[E,E_ Bool.false_ne_true]at h
theorem aj.b_ {P:Program} {ops LL:Array Oper} {Q:Exit->Act->Ef->Prop} {G:Nat->Ei->Ef->Prop} {k:Nat} {o:Oper} {rest:List Oper} {a:Act} {x:Ei} {Φ:Ef->Prop} (T:ops=LL) (t:Tmp) (φ : ∀D v W,aj.bC post k D->J D v W->Φ W) (I:aj.RC P ops Q J a9 V G Sx bi pre post (k+1) rest a')
  (hc:a9 k=false:=by exact rfl) (hst:j9 o.op=true:=by exact rfl) (hw:Region.wanted o (yielded LL a.tmps)=true:=by exact rfl) (hd:o.dst=some t:=by exact rfl) (ht:Nat.ble (t+1) a.tmps.size=true:=by exact rfl)
  (h:∀W,Φ W->∀K:Act->World->Prop,Hid (K a' W)->o.wp P a W K (fun _ _ _=>False):=by (intro W' Y K E; go_step; exact E.out)) (M:a'=a.put o.dst x:=by exact rfl):aj.RC P ops Q J a9 V G Sx bi pre post k (o::rest) a:=
 aj.bD a' x hc hst (by rw[T]; exact hw) (fun D v W H X _ K E=>h W (φ D v W H X) K E) t hd (Ec ht) M I
/-- a call's cells, one by one -/
def aj.ca (l:List Ei) (n:Nat):Ei:=match l with | [Ej c]=>c.toList.getD n En | _=>En
def aj.ct (i:Nat) (l:List Ei) (n:Nat):Ei:=match l with | [Ev t]=>(match t.toList.getD i En with | Ej c=>c.toList.getD n En | _=>En) | _=>En
def aj.fw (o0 o1 o2 o3:Nat) (p:List Ei->Nat->Ei) (l:List Ei) (c:Array Ei):Array Ei:=((((c.toList.set o0 (p l 0)).set o1 (p l 1)).set o2 (p l 2)).set o3 (p l 3)).toArray
theorem ZD : aj.fw o0 o1 o2 o3 p l c=(((c.setIfInBounds o0 (p l 0)).setIfInBounds o1 (p l 1)).setIfInBounds o2 (p l 2)).setIfInBounds o3 (p l 3):=by
 apply Array.ext'
 unfold aj.fw;simp only[Array.toList_setIfInBounds]
theorem ai.dN {cs:Array Ei} (h:ai w g t cs) (E:i<cs.size):∃v,w.cell? ⟨g,i,none⟩=some v:=⟨cs[i],h.c i (by rw[Array.getElem?_eq_getElem E])⟩
theorem UP (h:zV c=true) (E:∀n,qR (p l n)=true):zV (aj.fw o0 o1 o2 o3 p l c)=true:=
 ZD▸qZ (qZ (qZ (qZ h (E 0)) (E 1)) (E 2)) (E 3)
theorem XP {o:Nat} (h:([q0,q1,q2,q3].all fun y=> !(o==y))=true):(aj.fw q0 q1 q2 q3 p l c).setIfInBounds o u=aj.fw q0 q1 q2 q3 p l (c.setIfInBounds o u):=by
 simp only[List.all_cons,List.all_nil,Bool.and_true,Bool.and_eq_true,Bool.not_eq_true',beq_eq_false_iff_ne]at h;rw[ZD,ZD];rw[Array.setIfInBounds_comm _ _ (Ne.symm h.2.2.2),Array.setIfInBounds_comm _ _ (Ne.symm h.2.2.1),Array.setIfInBounds_comm _ _ (Ne.symm h.2.1),Array.setIfInBounds_comm _ _ (Ne.symm h.1)]
theorem Gf {x y:List Ei} (h:([o0,o1,o2,o3].all fun x=> [q0,q1,q2,q3].all fun y=> !(x==y))=true):aj.fw o0 o1 o2 o3 p x (aj.fw q0 q1 q2 q3 p' y c)=aj.fw q0 q1 q2 q3 p' y (aj.fw o0 o1 o2 o3 p x c):=by
 have E:=List.all_eq_true.1 h;rw[ZD,ZD (o0:=o0)]
 show (((Array.setIfInBounds _ _ _).setIfInBounds _ _).setIfInBounds _ _).setIfInBounds _ _=_
 rw[XP (E o0 D9),XP (E o1 D9),XP (E o2 D9),XP (E o3 D9)]
theorem KO : (aj.fw o0 o1 o2 o3 p l c).size=c.size:=by rw[ZD]; simp only[Array.size_setIfInBounds]
theorem aj.sM {b:Nat} {ty:Em} {c:Array Ei} {js E:List Nat} {M:Nat} {p p':List Ei->Nat->Ei} {o0 o1 o2 o3 q0 q1 q2 q3:Nat} (hL:ops=LL) (hr:RJ P ops Q wb w0 N L cs vs gs ps qs (k+1) rest a) (hd:o.dst=none:=by exact rfl) (hc:aj.inl cs k=true:=by exact rfl) (hw:Region.wanted o (yielded LL a.tmps)=true:=by exact rfl)
  (he:L=L.takeWhile (aH.ns k) ++ .m b ty c k js (aj.fw o0 o1 o2 o3 p) M E (aj.fw q0 q1 q2 q3 p')::(L.dropWhile (aH.ns k)).tail:=by exact rfl) (h1:((L.takeWhile (aH.ns k)).all (aH.fr k)&&(L.dropWhile (aH.ns k)).tail.all (aH.fr k))=true:=by exact rfl) (h2:(!(M==k))=true:=by exact rfl) (hk:kP (aj.inl cs) (aj.pl ps k) js=true:=by exact rfl) (hb:wb.heap.size<=b:=by omega)
  (ap:aH.apart k b L:=by ((repeat' apply E8)<;>first | trivial | omega | exact .inl rfl | exact .inr (.inl rfl) | (right; omega) | (right; right; omega))) (s0:Nat.ble (o0+1) c.size=true:=by exact rfl) (s1:Nat.ble (o1+1) c.size=true:=by exact rfl) (s2:Nat.ble (o2+1) c.size=true:=by exact rfl) (s3:Nat.ble (o3+1) c.size=true:=by exact rfl)
  (bh:∀n,qR (p (jA a (aj.pl ps k) js) n)=true:=by (intro n; match n with | 0=>rfl | 1=>rfl | 2=>rfl | 3=>rfl | _+4=>rfl)) (hv:∀u,aj.gv vs k u:=by exact fun _=>trivial) (hg:∀u W,gw gs k u W:=by exact fun _ _=>trivial)
  (h:∀W (z:Array Ei) v0 Z v2 v3,ai W b ty z->W.cell? ⟨b,o0,none⟩=some v0->W.cell? ⟨b,o1,none⟩=some Z->W.cell? ⟨b,o2,none⟩=some v2->W.cell? ⟨b,o3,none⟩=some v3->∀K:Act->Ef->Prop,Hid (∀W',Wr b W W'->ai W' b ty ((((z.setIfInBounds o0 (p (jA a (aj.pl ps k) js) 0)).setIfInBounds o1 (p (jA a (aj.pl ps k) js) 1)).setIfInBounds o2 (p (jA a (aj.pl ps k) js) 2)).setIfInBounds o3 (p (jA a (aj.pl ps k) js) 3))->K (a.put o.dst En) W')->o.wp P a W K (fun e _ _=>match e with | .panic _=>False | _=>False):=by (intro W z v0 Z v2 v3 hb c0 c1 c2 c3 K hK; have ff:=hb.fr; go_step; exact hK.out _ (Wr.set (Wr.set (Wr.set (Wr.set (Wr.refl _ _))))) (ai.st (ai.st (ai.st (ai.st hb)))))):RJ P ops Q wb w0 N L cs vs gs ps qs k (o::rest) a:=by
 refine aj.aC hc (fun s hs=>by rw[hd]at hs; cases hs) (by rw[hL]; exact hw) (fun D v W I hj hf K hK=> ?_) (fun x _=>by rw[show a.put o.dst x=a by rw[hd]; rfl]; exact hr);have Fj:=xn hf hk;have hm:(.m b ty c k js (aj.fw o0 o1 o2 o3 p) M E (aj.fw q0 q1 q2 q3 p'):aH)∈L:=by rw[he]; exact List.mem_append_right _ (.head _)
 obtain⟨e3,cg⟩:=xH.1 hj.e _ hm;have cx:=hj.lt _ hm b rfl
 have ez:∃z:Array Ei,z.size=c.size/\ai W b ty z/\zV z=true/\z=aH.app M E (aj.fw q0 q1 q2 q3 p') c D v:=by
  refine⟨_,?_,?_,?_,rfl⟩
  .
   unfold aH.app; split
   . exact KO
   . rfl
  . have:=e3; unfold aH.app at this|-; rwa[I.1,E_ Bool.false_ne_true]at this
  . have:=cg; unfold aH.app at this|-; rwa[I.1,E_ Bool.false_ne_true]at this
 obtain⟨z,zs,T,zu,zd⟩:=ez;obtain⟨v0,c0⟩:=T.dN (i:=o0) (by rw[zs]; exact Ec s0);obtain⟨Z,c1⟩:=T.dN (i:=o1) (by rw[zs]; exact Ec s1);obtain⟨v2,c2⟩:=T.dN (i:=o2) (by rw[zs]; exact Ec s2);obtain⟨v3,c3⟩:=T.dN (i:=o3) (by rw[zs]; exact Ec s3);refine h W z v0 Z v2 v3 T c0 c1 c2 c3 K (E7 fun W' bt X=> ?_);rw[<- ZD]at X
 have S:=hj.store (y:=aj.dv o En) he I.1 h1 (fun x hx=>by cases hx) (fun p hp Y j H=>by
  rcases List.mem_cons.1 hp with rfl | hp; · exact(Fj j H).1
  . rw[List.mem_singleton.1 hp]at Y; exact absurd Y (by simpa using h2)) hb T zu (fun x hx g hg=> ?_) bt ?_
 . exact hK.out _ _ S.2 S.1 (hg _ _) (hv _)
 .
  have br:x∈L:=by
   rw[he,List.mem_append,List.mem_cons]
   rcases hx with m | m
   . exact .inl m
   . exact .inr (.inr m)
  rw[Bool.and_eq_true,List.all_eq_true,List.all_eq_true]at h1
  rcases hg with hp | ⟨x1,hl,d1,Z,hN⟩
  . exact aH.apart_spec ap x br (hx.elim (h1.1 x) (h1.2 x)) g hp
  . omega
 .
  have ah:D M=true->∀j∈E,D j=true:=hj.src _ hm (M,E) (by exact .tail _ (.head _));have bg:M≠k:=by simpa using h2
  show ai W' b ty (aH.app k js (aj.fw o0 o1 o2 o3 p) (aH.app M E (aj.fw q0 q1 q2 q3 p') c (aj.upd D k) (aj.aT v k _)) (aj.upd D k) (aj.aT v k _))/\zV _=true
  rw[XM bg I.1 ah,<- zd]
  have ea:aH.app k js (aj.fw o0 o1 o2 o3 p) z (aj.upd D k) (aj.aT v k (aj.dv o En))=aj.fw o0 o1 o2 o3 p (jA a (aj.pl ps k) js) z:=by
   unfold aH.app;rw[XO,E9 rfl,ZW I.1 fun j H=>(Fj j H).1,jw fun j H=>(Fj j H).2]
  rw[ea];exact⟨X,UP zu (fun n=>bh n)⟩
theorem aj.fu {b:Nat} {ty:Em} {c:Array Ei} {js E:List Nat} {M:Nat} {p p':List Ei->Nat->Ei} {o0 o1 o2 o3 q0 q1 q2 q3:Nat} (hL:ops=LL) (hr:RJ P ops Q wb w0 N L cs vs gs ps qs (k+1) rest a) (hd:o.dst=none:=by exact rfl) (hc:aj.inl cs k=true:=by exact rfl) (hw:Region.wanted o (yielded LL a.tmps)=true:=by exact rfl)
  (he:L=L.takeWhile (aH.ns k) ++ .m b ty c M E (aj.fw q0 q1 q2 q3 p') k js (aj.fw o0 o1 o2 o3 p)::(L.dropWhile (aH.ns k)).tail:=by exact rfl) (h1:((L.takeWhile (aH.ns k)).all (aH.fr k)&&(L.dropWhile (aH.ns k)).tail.all (aH.fr k))=true:=by exact rfl) (h2:(!(M==k))=true:=by exact rfl) (hk:kP (aj.inl cs) (aj.pl ps k) js=true:=by exact rfl) (hb:wb.heap.size<=b:=by omega)
  (ap:aH.apart k b L:=by ((repeat' apply E8)<;>first | trivial | omega | exact .inl rfl | exact .inr (.inl rfl) | (right; omega) | (right; right; omega))) (s0:Nat.ble (o0+1) c.size=true:=by exact rfl) (s1:Nat.ble (o1+1) c.size=true:=by exact rfl) (s2:Nat.ble (o2+1) c.size=true:=by exact rfl) (s3:Nat.ble (o3+1) c.size=true:=by exact rfl)
  (bg:∀n,qR (p (jA a (aj.pl ps k) js) n)=true:=by (intro n; match n with | 0=>rfl | 1=>rfl | 2=>rfl | 3=>rfl | _+4=>rfl)) (cx:([o0,o1,o2,o3].all fun x=> [q0,q1,q2,q3].all fun y=> !(x==y))=true:=by exact rfl) (hv:∀u,aj.gv vs k u:=by exact fun _=>trivial) (hg:∀u W,gw gs k u W:=by exact fun _ _=>trivial)
  (h:∀W (z:Array Ei) v0 Y v2 v3,ai W b ty z->W.cell? ⟨b,o0,none⟩=some v0->W.cell? ⟨b,o1,none⟩=some Y->W.cell? ⟨b,o2,none⟩=some v2->W.cell? ⟨b,o3,none⟩=some v3->∀K:Act->Ef->Prop,Hid (∀W',Wr b W W'->ai W' b ty ((((z.setIfInBounds o0 (p (jA a (aj.pl ps k) js) 0)).setIfInBounds o1 (p (jA a (aj.pl ps k) js) 1)).setIfInBounds o2 (p (jA a (aj.pl ps k) js) 2)).setIfInBounds o3 (p (jA a (aj.pl ps k) js) 3))->K (a.put o.dst En) W')->o.wp P a W K (fun e _ _=>match e with | .panic _=>False | _=>False):=by (intro W z v0 Y v2 v3 hb c0 c1 c2 c3 K hK; have ff:=hb.fr; go_step; exact hK.out _ (Wr.set (Wr.set (Wr.set (Wr.set (Wr.refl _ _))))) (ai.st (ai.st (ai.st (ai.st hb)))))):RJ P ops Q wb w0 N L cs vs gs ps qs k (o::rest) a:=by
 refine aj.aC hc (fun s hs=>by rw[hd]at hs; cases hs) (by rw[hL]; exact hw) (fun D v W I hj hf K hK=> ?_) (fun x _=>by rw[show a.put o.dst x=a by rw[hd]; rfl]; exact hr);have Fj:=xn hf hk;have hm:(.m b ty c M E (aj.fw q0 q1 q2 q3 p') k js (aj.fw o0 o1 o2 o3 p):aH)∈L:=by rw[he]; exact List.mem_append_right _ (.head _)
 obtain⟨e3,cg⟩:=xH.1 hj.e _ hm;have cy:=hj.lt _ hm b rfl
 have ez:∃z:Array Ei,z.size=c.size/\ai W b ty z/\zV z=true/\z=aH.app M E (aj.fw q0 q1 q2 q3 p') c D v:=by
  refine⟨_,?_,?_,?_,rfl⟩
  .
   unfold aH.app; split
   . exact KO
   . rfl
  . have:=e3; rwa[show aH.app k js (aj.fw o0 o1 o2 o3 p) c D v=c by unfold aH.app; rw[I.1,E_ Bool.false_ne_true]]at this
  . have:=cg; rwa[show aH.app k js (aj.fw o0 o1 o2 o3 p) c D v=c by unfold aH.app; rw[I.1,E_ Bool.false_ne_true]]at this
 obtain⟨z,zs,T,zu,zd⟩:=ez;obtain⟨v0,c0⟩:=T.dN (i:=o0) (by rw[zs]; exact Ec s0);obtain⟨Y,c1⟩:=T.dN (i:=o1) (by rw[zs]; exact Ec s1);obtain⟨v2,c2⟩:=T.dN (i:=o2) (by rw[zs]; exact Ec s2);obtain⟨v3,c3⟩:=T.dN (i:=o3) (by rw[zs]; exact Ec s3);refine h W z v0 Y v2 v3 T c0 c1 c2 c3 K (E7 fun W' br X=> ?_);rw[<- ZD]at X
 have S:=hj.store (y:=aj.dv o En) he I.1 h1 (fun x hx=>by cases hx) (fun p hp bt j H=>by
  rcases List.mem_cons.1 hp with rfl | hp; · exact absurd bt (by simpa using h2)
  . rw[List.mem_singleton.1 hp]at H; exact(Fj j H).1) hb T zu (fun x hx g hg=> ?_) br ?_
 . exact hK.out _ _ S.2 S.1 (hg _ _) (hv _)
 .
  have bh:x∈L:=by
   rw[he,List.mem_append,List.mem_cons]
   rcases hx with m | m
   . exact .inl m
   . exact .inr (.inr m)
  rw[Bool.and_eq_true,List.all_eq_true,List.all_eq_true]at h1
  rcases hg with hp | ⟨x1,hl,d1,Y,hN⟩
  . exact aH.apart_spec ap x bh (hx.elim (h1.1 x) (h1.2 x)) g hp
  . omega
 .
  have Z:D M=true->∀j∈E,D j=true:=hj.src _ hm (M,E) (by exact .head _);have ah:M≠k:=by simpa using h2
  show ai W' b ty (aH.app M E (aj.fw q0 q1 q2 q3 p') (aH.app k js (aj.fw o0 o1 o2 o3 p) c (aj.upd D k) (aj.aT v k _)) (aj.upd D k) (aj.aT v k _))/\zV _=true
  have ea:aH.app k js (aj.fw o0 o1 o2 o3 p) c (aj.upd D k) (aj.aT v k (aj.dv o En))=aj.fw o0 o1 o2 o3 p (jA a (aj.pl ps k) js) c:=by
   unfold aH.app;rw[XO,E9 rfl,ZW I.1 fun j H=>(Fj j H).1,jw fun j H=>(Fj j H).2]
  rw[ea,XM ah I.1 Z]
  have eb:aj.fw o0 o1 o2 o3 p (jA a (aj.pl ps k) js) z=aH.app M E (aj.fw q0 q1 q2 q3 p') (aj.fw o0 o1 o2 o3 p (jA a (aj.pl ps k) js) c) D v:=by
   rw[zd];unfold aH.app
   split
   . exact Gf cx
   . rfl
  rw[<- eb];exact⟨X,UP zu (fun n=>bg n)⟩
def aj.fi (_:List Ei) (c:Array Ei):Array Ei:=c
end
theorem aj.RQ {P:Program} {ops LL:Array Oper} {Q:Exit->Act->Ef->Prop} {G:Nat->Ei->Ef->Prop} {k:Nat} {o:Oper} {rest:List Oper} {a:Act} {x:Ei} (I:ops=LL) (t:Tmp) (H:aj.RC P ops Q J a9 V G Sx bi pre post (k+1) rest a')
  (hc:a9 k=false:=by exact rfl) (hst:j9 o.op=true:=by exact rfl) (hw:Region.wanted o (yielded LL a.tmps)=true:=by exact rfl) (hd:o.dst=some t:=by exact rfl) (ht:Nat.ble (t+1) a.tmps.size=true:=by exact rfl)
  (h:∀W,∀K:Act->World->Prop,Hid (K a' W)->o.wp P a W K (fun _ _ _=>False):=by (intro W' K E; go_step; exact E.out)) (M:a'=a.put o.dst x:=by exact rfl):aj.RC P ops Q J a9 V G Sx bi pre post k (o::rest) a:=
 aj.bD a' x hc hst (by rw[I]; exact hw) (fun _ _ W _ _ _ K E=>h W K E) t hd (Ec ht) M H
end Go.Proofs.YtffmbepfbienaaaGreat
/- Four points: the arrangement that comes before all others (plain Lean). -/
namespace Go.Proofs.YtffmbepfbienaaaGreat
def jF:List Int->List Int->Int
 | x::xs,y::ys=>if x=y then jF xs ys else if x<y then -1 else 1
 | _,_=>0
theorem kI:∀l:List Int,jF l l=0
 | []=>rfl
 | x::xs=>by rw[jF,E9 rfl]; exact kI xs
theorem Xn:∀a b:List Int,jF b a = - jF a b
 | [],[]=>rfl
 | [],_::_=>rfl
 | _::_,[]=>rfl
 | x::xs,y::ys=>by
  unfold jF
  by_cases h:x=y
  . rw[E9 h,E9 h.symm]; exact Xn xs ys
  .
   rw[E_ h,E_ (Ne.symm h)]
   by_cases g:x<y
   . rw[E9 g,E_ D6]; rfl
   . rw[E_ g,E9 D6]
theorem Xo:∀a b:List Int,a.length=b.length->jF a b=0->a=b
 | [],[],_,_=>rfl
 | [],_::_,h,_=>by simp at h
 | _::_,[],h,_=>by simp at h
 | x::xs,y::ys,h,e=>by
  unfold jF at e
  by_cases g:x=y
  .
   rw[E9 g]at e;rw[g,Xo xs ys (by simpa using h) e]
  .
   rw[E_ g]at e
   split at e<;>cases e
theorem kY:∀a b c:List Int,jF a b<0->jF b c<0->jF a c<0
 | [],_,_,h,_=>by simp[jF]at h
 | _::_,[],_,h,_=>by simp[jF]at h
 | _::_,_::_,[],_,h=>by simp[jF]at h
 | x::xs,y::ys,z::zs,h,k=>by
  unfold jF at h k|-
  by_cases g:x=y
  .
   subst g;rw[E9 rfl]at h
   by_cases g2:x=z
   . rw[E9 g2]at k|-; exact kY xs ys zs h k
   . rw[E_ g2]at k|-; exact k
  .
   rw[E_ g]at h
   have E:x<y:=by
    by_cases q:x<y
    . exact q
    . rw[E_ q]at h; omega
   by_cases g2:y=z
   .
    subst g2;rw[E_ g,E9 E]; decide
   .
    rw[E_ g2]at k
    have H:y<z:=by
     by_cases q:y<z
     . exact q
     . rw[E_ q]at k; omega
    rw[E_ D6,E9 D6]; decide
structure aU where
 k0:Int
 k1:Int
 k2:Int
 k3:Int
 a1:Int
 a2:Int
 b1:Int
 b2:Int
 n:Int
deriving DecidableEq
def aU.key (a:aU):List Int:= [a.a1+a.b1,a.a1,a.a2,a.b1,a.b2,a.k0,a.k1,a.k2,a.k3]
def jj (a b:aU):Int:=jF a.key b.key
def zH:aU:=⟨0,0,0,0,0,0,0,0,0⟩
def aU.aO (a b:aU):Bool:=decide (b.n<a.n)||(a.n==b.n&&(decide (0<a.n)&&decide (jj a b<0)))
theorem yR {a b:aU} : a.aO b=true↔b.n<a.n\/(a.n=b.n/\0<a.n/\jj a b<0):=by
 unfold aU.aO;simp only[Bool.or_eq_true,decide_eq_true_eq,Bool.and_eq_true,beq_iff_eq]
theorem QA {a b c:aU} (h:a.aO b=true) (k:b.aO c=true):a.aO c=true:=by
 rw[yR]at *
 rcases h with h | ⟨I,H,E⟩<;>rcases k with k | ⟨k1,k2,k3⟩
 . exact .inl D6
 . exact .inl D6
 . exact .inl D6
 . exact .inr ⟨by omega,H,kY _ _ _ E k3⟩
theorem JM (a:aU):a.aO a=false:=by
 cases h:a.aO a
 . rfl
 .
  rw[yR]at h;unfold jj at h;rw[kI]at h;omega
def xE (l:List aU):aU:=l.foldl (fun b a=>if a.aO b then a else b) zH
theorem ZE (l:List aU) (a:aU):xE (l ++ [a])=if a.aO (xE l)then a else xE l:=by unfold xE; rw[List.foldl_append]; rfl
theorem Zn (l:List aU) (h0:∀a∈l,0<=a.n):(xE l=zH/\∀a∈l,a.n=0)\/(xE l∈l/\0<(xE l).n/\∀a∈l,a.aO (xE l)=false):=by
 have key:∀l r:List aU,l=r.reverse->(∀a∈l,0<=a.n)->(xE l=zH/\∀a∈l,a.n=0)\/(xE l∈l/\0<(xE l).n/\∀a∈l,a.aO (xE l)=false):=by
  intro l r
  induction r generalizing l with
  | nil=>rintro rfl _; exact .inl ⟨rfl,fun a h=>by simp at h⟩
  | cons x r ih=>
   rintro rfl h0;rw[List.reverse_cons]at h0|-;rw[ZE];have H:=h0 x D9
   cases hb:x.aO (xE r.reverse)
   .
    rw[E_ D9]
    rcases ih _ rfl (fun a E=>h0 a (List.mem_append_left _ E))with⟨h1,h2⟩ | ⟨h1,h2,h3⟩
    .
     refine .inl ⟨h1,fun a E=> ?_⟩
     rcases List.mem_append.1 E with g | g
     . exact h2 a g
     .
      rw[List.mem_singleton]at g; subst g;rw[h1]at hb;have:¬a.aO zH=true:=by simp[hb]
      rw[yR]at this;simp only[zH]at this;omega
    .
     refine .inr ⟨List.mem_append_left _ h1,h2,fun a E=> ?_⟩
     rcases List.mem_append.1 E with g | g
     . exact h3 a g
     . rw[List.mem_singleton]at g; subst g; exact hb
   .
    rw[E9 rfl];refine .inr ⟨by simp,?_,fun a E=> ?_⟩
    .
     rcases ih _ rfl (fun a E=>h0 a (List.mem_append_left _ E))with⟨h1,h2⟩ | ⟨h1,h2,h3⟩
     .
      rw[h1]at hb;rw[yR]at hb;simp only[zH]at hb;omega
     . rw[yR]at hb; omega
    .
     rcases List.mem_append.1 E with g | g
     .
      rcases ih _ rfl (fun a E=>h0 a (List.mem_append_left _ E))with⟨h1,h2⟩ | ⟨h1,h2,h3⟩
      .
       cases hc:a.aO x
       . rfl
       .
        rw[yR]at hc;have:=h2 a g;omega
      .
       cases hc:a.aO x
       . rfl
       .
        have:=QA hc hb;rw[h3 a g]at this; cases this
     . rw[List.mem_singleton]at g; subst g; exact JM a
 exact key l l.reverse (by rw[List.reverse_reverse]) h0
def jx (N:Int) (l:List aU):Option aU:=l.foldl (fun b a=>if a.n=N then(match b with | none=>some a | some c=>if jj a c<0 then some a else some c)else b) none
theorem jU (N:Int) (l:List aU) (a:aU):jx N (l ++ [a])=if a.n=N then(match jx N l with | none=>some a | some c=>if jj a c<0 then some a else some c)else jx N l:=by unfold jx; rw[List.foldl_append]; rfl
theorem Yw (N:Int) (l:List aU):(jx N l=none/\∀a∈l,a.n≠N)\/∃c,jx N l=some c/\c∈l/\c.n=N/\∀a∈l,a.n=N->¬jj a c<0:=by
 have key:∀l r:List aU,l=r.reverse->(jx N l=none/\∀a∈l,a.n≠N)\/∃c,jx N l=some c/\c∈l/\c.n=N/\∀a∈l,a.n=N->¬jj a c<0:=by
  intro l r
  induction r generalizing l with
  | nil=>rintro rfl; exact .inl ⟨rfl,fun a h=>by simp at h⟩
  | cons x r ih=>
   rintro rfl;rw[List.reverse_cons];rw[jU]
   by_cases hx:x.n=N
   .
    rw[E9 hx]
    rcases ih _ rfl with⟨h1,h2⟩ | ⟨c,h1,h2,h3,h4⟩
    .
     rw[h1];refine .inr ⟨x,rfl,by simp,hx,fun a E H=> ?_⟩
     rcases List.mem_append.1 E with g | g
     . exact absurd H (h2 a g)
     . rw[List.mem_singleton]at g; subst g; unfold jj; rw[kI]; omega
    .
     rw[h1];dsimp only
     by_cases hc:jj x c<0
     .
      rw[E9 hc];refine .inr ⟨x,rfl,by simp,hx,fun a E H I=> ?_⟩
      rcases List.mem_append.1 E with g | g
      . exact h4 a g H (kY _ _ _ I hc)
      . rw[List.mem_singleton]at g; subst g; unfold jj at I; rw[kI]at I; omega
     .
      rw[E_ hc];refine .inr ⟨c,rfl,List.mem_append_left _ h2,h3,fun a E H=> ?_⟩
      rcases List.mem_append.1 E with g | g
      . exact h4 a g H
      . rw[List.mem_singleton]at g; subst g; exact hc
   .
    rw[E_ hx]
    rcases ih _ rfl with⟨h1,h2⟩ | ⟨c,h1,h2,h3,h4⟩
    .
     refine .inl ⟨h1,fun a E=> ?_⟩
     rcases List.mem_append.1 E with g | g
     . exact h2 a g
     . rw[List.mem_singleton]at g; subst g; exact hx
    .
     refine .inr ⟨c,h1,List.mem_append_left _ h2,h3,fun a E H=> ?_⟩
     rcases List.mem_append.1 E with g | g
     . exact h4 a g H
     . rw[List.mem_singleton]at g; subst g; exact absurd H hx
 exact key l l.reverse (by rw[List.reverse_reverse])
theorem Gg {a b:aU} (h:a.key=b.key) (hn:a.n=b.n):a=b:=by
 unfold aU.key at h;simp only[List.cons.injEq,and_true]at h;obtain⟨-,Y,I,Z,X,M,T,H,E⟩:=h
 cases a; cases b
 simp_all
theorem VM (l H:List aU) (h0:∀a∈l,0<=a.n) (X:∀a,a∈l↔a∈H) (N:Int) (hN:0<N) (E:∀a∈l,a.n<=N) (Y:∃a∈l,a.n=N):jx N H=some (xE l):=by
 obtain⟨x,I,M⟩:=Y
 rcases Zn l h0 with⟨-,h2⟩ | ⟨h1,h2,h3⟩
 . have:=h2 x I; omega
 .
  have T:(xE l).n=N:=by
   have h4:=E _ h1;have h5:=h3 x I
   rcases(show (xE l).n<N\/(xE l).n>=N by omega)with g | g
   .
    have:x.aO (xE l)=true:=yR.2 (.inl D6);rw[h5]at this; cases this
   . omega
  rcases Yw N H with⟨-,g2⟩ | ⟨c,g1,g2,g3,g4⟩
  . exact absurd M (g2 x ((X x).1 I))
  .
   rw[g1];have e1:=g4 _ ((X _).1 h1) T
   have e2:¬jj c (xE l)<0:=fun Z=>by
    have:=h3 c ((X c).2 g2);have t:c.aO (xE l)=true:=yR.2 (.inr ⟨by omega,by omega,Z⟩);rw[this]at t; cases t
   have e3:jj c (xE l) = - jj (xE l) c:=Xn _ _;have e4:jj c (xE l)=0:=D6
   rw[Gg (a:=c) (b:=xE l) (Xo c.key (xE l).key rfl e4) D6]
theorem VN (l:List aU) (h0:∀a∈l,a.n=0):xE l=zH:=by
 rcases Zn l (fun a E=>by rw[h0 a E]; omega)with⟨h,-⟩ | ⟨h1,h2,-⟩
 . exact h
 . have:=h0 _ h1; omega
theorem Ho (l:List aU) (h0:∀a∈l,0<=a.n) (E:∃a∈l,0<a.n):xE l∈l/\0<(xE l).n/\∀a∈l,a.aO (xE l)=false:=by
 rcases Zn l h0 with⟨-,h⟩ | h
 .
  obtain⟨a,H,I⟩:=E;have:=h a H; omega
 . exact h
abbrev P4:=Nat×Nat×Nat×Nat
def bP:List P4:=(List.range 4).flatMap fun a=>(List.range 4).flatMap fun b=>(List.range 4).filterMap fun c=>if a≠b/\a≠c/\b≠c then some (a,b,c,6-a-b-c)else none
def xF (a b c:Nat):List P4:=bP.filter fun p=>decide (16*p.1+4*p.2.1+p.2.2.1<16*a+4*b+c)
theorem ZX:∀a,a<4->∀b,b<4->∀c,c<4->xF a b (c+1)=if a≠b/\a≠c/\b≠c then xF a b c ++ [(a,b,c,6-a-b-c)]else xF a b c:=by
 intro a H b E c hc
 rcases(show a=0\/a=1\/a=2\/a=3 by omega)with rfl | rfl | rfl | rfl<;>rcases(show b=0\/b=1\/b=2\/b=3 by omega)with rfl | rfl | rfl | rfl<;>rcases(show c=0\/c=1\/c=2\/c=3 by omega)with rfl | rfl | rfl | rfl<;>decide
theorem KQ:∀a,a<4->∀b,b<4->xF a b 4=xF a (b+1) 0:=by
 intro a H b E
 rcases(show a=0\/a=1\/a=2\/a=3 by omega)with rfl | rfl | rfl | rfl<;>rcases(show b=0\/b=1\/b=2\/b=3 by omega)with rfl | rfl | rfl | rfl<;>decide
theorem UQ:∀a,a<4->∀b,b<4->a=b->xF a b 0=xF a (b+1) 0:=by
 intro a H b E
 rcases(show a=0\/a=1\/a=2\/a=3 by omega)with rfl | rfl | rfl | rfl<;>rcases(show b=0\/b=1\/b=2\/b=3 by omega)with rfl | rfl | rfl | rfl<;>decide
theorem KS:∀a,a<4->xF a 4 0=xF (a+1) 0 0:=by decide
theorem KU:xF 0 0 0 = []:=by decide
theorem Xp:xF 4 0 0=bP:=by decide
theorem VO:∀p∈bP,p.1<4/\p.2.1<4/\p.2.2.1<4/\p.2.2.2<4/\p.1≠p.2.1/\p.1≠p.2.2.1/\p.1≠p.2.2.2/\p.2.1≠p.2.2.1/\p.2.1≠p.2.2.2/\p.2.2.1≠p.2.2.2:=by decide
theorem QB:∀a,a<4->∀b,b<4->a≠b->∃p∈bP,p.1=a/\p.2.1=b:=by decide
end Go.Proofs.YtffmbepfbienaaaGreat
/- Four points: the arrangements' numbers (plain Lean). -/
namespace Go.Proofs.YtffmbepfbienaaaGreat
def kJ (H E vx I:Int):Int:=vx*H+I*E
def kZ (H E vx I:Int):Int:=I*H-vx*E
def j5 (H E:Int):Int:=H*H+E*E
def Xq (k0 k1 k2 k3 i:Nat):Nat:=match i with | 0=>k0 | 1=>k1 | 2=>k2 | _=>k3
abbrev PL:=List (Int×Int)
def pt (l:PL) (k:Nat):Int×Int:=l.getD k (0,0)
def Xr (p q:Int×Int):Int:=j5 (q.1-p.1) (q.2-p.2)
theorem vX (p q:Int×Int):Xr p q=Xr q p:=by
 unfold Xr j5;have H:q.1-p.1 = -(p.1-q.1):=D6
 have E:q.2-p.2 = -(p.2-q.2):=D6
 rw[H,E,Int.neg_mul_neg,Int.neg_mul_neg]
theorem jm (x y:Int):0<=j5 x y:=by
 unfold j5;have H:0<=x*x:=by rcases Int.le_total 0 x with h | h; exact Int.mul_nonneg h h; exact Int.mul_nonneg_of_nonpos_of_nonpos h h
 have E:0<=y*y:=by rcases Int.le_total 0 y with h | h; exact Int.mul_nonneg h h; exact Int.mul_nonneg_of_nonpos_of_nonpos h h
 omega
theorem Yx (p q:Int×Int):0<=Xr p q:=jm _ _
def UR (k0 k1 k2 k3:Nat) (p0 p1 p2 p3:Int×Int):aU:=
 ⟨k0,k1,k2,k3,kJ (p1.1-p0.1) (p1.2-p0.2) (p2.1-p0.1) (p2.2-p0.2),kZ (p1.1-p0.1) (p1.2-p0.2) (p2.1-p0.1) (p2.2-p0.2),
  kJ (p1.1-p0.1) (p1.2-p0.2) (p3.1-p0.1) (p3.2-p0.2),kZ (p1.1-p0.1) (p1.2-p0.2) (p3.1-p0.1) (p3.2-p0.2),Xr p0 p1⟩
def yL (l:PL) (K:Nat->Nat) (p:P4):aU:=UR (K p.1) (K p.2.1) (K p.2.2.1) (K p.2.2.2) (pt l (K p.1)) (pt l (K p.2.1)) (pt l (K p.2.2.1)) (pt l (K p.2.2.2))
def dst (l:PL) (K:Nat->Nat) (i k:Nat):Int:=Xr (pt l (K i)) (pt l (K k))
theorem Gh (l:PL) (K:Nat->Nat) (p:P4):(yL l K p).n=dst l K p.1 p.2.1:=rfl
def jp (l:PL) (K:Nat->Nat):Int:=
 max (max (max (max (max (max 0 (dst l K 1 0)) (dst l K 2 0)) (dst l K 2 1)) (dst l K 3 0)) (dst l K 3 1)) (dst l K 3 2)
theorem jG (l:PL) (K:Nat->Nat) (i k:Nat):dst l K i k=dst l K k i:=vX _ _
theorem Hp (l:PL) (K:Nat->Nat) {i k:Nat} (H:i<4) (I:k<4) (E:i≠k):dst l K i k<=jp l K:=by
 have a:=jG l K 0 1;have b:=jG l K 0 2;have c:=jG l K 0 3;have d:=jG l K 1 2;have e:=jG l K 1 3;have f:=jG l K 2 3;unfold jp
 rcases(show i=0\/i=1\/i=2\/i=3 by omega)with rfl | rfl | rfl | rfl<;>rcases(show k=0\/k=1\/k=2\/k=3 by omega)with rfl | rfl | rfl | rfl<;>first | exact absurd rfl E | omega
theorem JN (l:PL) (K:Nat->Nat):0<=jp l K:=by unfold jp; omega
theorem Hq (l:PL) (K:Nat->Nat) (h:0<jp l K):∃i k,i<4/\k<4/\i≠k/\dst l K i k=jp l K:=by
 have key:jp l K=0\/jp l K=dst l K 1 0\/jp l K=dst l K 2 0\/jp l K=dst l K 2 1\/jp l K=dst l K 3 0\/jp l K=dst l K 3 1\/jp l K=dst l K 3 2:=by unfold jp; omega
 rcases key with e | e | e | e | e | e | e
 . omega
 . exact⟨1,0,by decide,by decide,by decide,e.symm⟩
 . exact⟨2,0,by decide,by decide,by decide,e.symm⟩
 . exact⟨2,1,by decide,by decide,by decide,e.symm⟩
 . exact⟨3,0,by decide,by decide,by decide,e.symm⟩
 . exact⟨3,1,by decide,by decide,by decide,e.symm⟩
 . exact⟨3,2,by decide,by decide,by decide,e.symm⟩
def QC (l:PL) (K:Nat->Nat):List aU:=bP.map (yL l K)
theorem kr (l:PL) (K:Nat->Nat):∀a∈QC l K,0<=a.n:=by
 intro a E;obtain⟨p,-,rfl⟩:=List.mem_map.1 E;exact Yx _ _
theorem XQ (l:PL) (K:Nat->Nat):∀a∈QC l K,a.n<=jp l K:=by
 intro a T;obtain⟨p,E,rfl⟩:=List.mem_map.1 T;obtain⟨I,H,-,-,M,-⟩:=VO p E;exact Hp l K I H M
theorem KV (l:PL) (K:Nat->Nat) (h:0<jp l K):∃a∈QC l K,a.n=jp l K:=by
 obtain⟨i,k,M,I,E,e⟩:=Hq l K h;obtain⟨p,H,rfl,rfl⟩:=QB i M k I E;exact⟨_,List.mem_map.2 ⟨p,H,rfl⟩,e⟩
def yt (l:PL) (K:Nat->Nat):aU:=xE (QC l K)
theorem JO (l:PL) (K:Nat->Nat) (h:0<jp l K):jx (jp l K) (QC l K)=some (yt l K):=
 VM _ _ (kr l K) (fun _=>Iff.rfl) _ h (XQ l K) (KV l K h)
theorem QE (l:PL) (K:Nat->Nat) (h:jp l K=0):yt l K=zH:=
 VN _ fun a E=>by have:=kr l K a E; have:=XQ l K a E; omega
theorem qO (l:PL) (K:Nat->Nat) (h:0<jp l K):yt l K∈QC l K/\(yt l K).n=jp l K/\∀a∈QC l K,a.aO (yt l K)=false:=by
 obtain⟨a,I,Y⟩:=KV l K h;obtain⟨E,T,H⟩:=Ho _ (kr l K) ⟨a,I,by omega⟩;refine⟨E,?_,H⟩;have X:=XQ l K _ E;have M:=H a I
 rcases(show (yt l K).n<jp l K\/(yt l K).n=jp l K by unfold yt at *; omega)with g | g
 .
  have:a.aO (xE (QC l K))=true:=yR.2 (.inl (by unfold yt at g; omega));rw[M]at this; cases this
 . exact g
end Go.Proofs.YtffmbepfbienaaaGreat
/- Four points: other orders of the indices, and moved points (plain Lean). -/
namespace Go.Proofs.YtffmbepfbienaaaGreat
def K' (K:Nat->Nat) (i:Nat):Nat:=K (Xq 2 0 3 1 i)
def aU.scale (s:Int) (a:aU):aU:=⟨a.k0,a.k1,a.k2,a.k3,s*a.a1,s*a.a2,s*a.b1,s*a.b2,s*a.n⟩
def mv (re im E H:Int) (p:Int×Int):Int×Int:=(p.1*re-p.2*im+E,p.1*im+p.2*re+H)
theorem Gi {re im:Int} (h:¬(re=0/\im=0)):0<j5 re im:=by
 unfold j5
 have E:∀x:Int,0<=x*x/\(x≠0->0<x*x):=fun x=>by
  rcases(show x<0\/x=0\/0<x by omega)with g | g | g
  . have:=Int.mul_pos_of_neg_of_neg g g; omega
  . subst g; exact⟨by decide,fun h=>absurd rfl h⟩
  . have:=Int.mul_pos g g; omega
 have a:=E re;have b:=E im
 by_cases g:re=0
 . have:=b.2 (fun e=>h ⟨g,e⟩); omega
 . have:=a.2 g; omega
end Go.Proofs.YtffmbepfbienaaaGreat
/- Four points: the code of the xE arrangement lies Hr its bounds (plain Lean). -/
namespace Go.Proofs.YtffmbepfbienaaaGreat
variable {x:Int}
theorem Yy (x:Int):0<=x*x:=by
 rcases Int.le_total 0 x with h | h
 . exact Int.mul_nonneg h h
 . exact Int.mul_nonneg_of_nonpos_of_nonpos h h
theorem US {y:Int} (h0:0<=x) (h:x<y):x*x<y*y:=by
 have E:0<(y-x)*(y+x):=Int.mul_pos D6 D6;simp only[Int.sub_mul,Int.mul_add]at E;have H:x*y=y*x:=Int.mul_comm x y;omega
theorem Xs {n:Int} (E:0<=n) (h:x*x<=n*n) : -n<=x/\x<=n:=by
 constructor
 .
  rcases(show x < -n\/ -n<=x by omega)with g | g
  .
   have:=US E (show n < -x by omega);rw[Int.neg_mul_neg]at this;omega
  . exact g
 .
  rcases(show n<x\/x<=n by omega)with g | g
  .
   have:=US E g;omega
  . exact g
theorem Hr {H E vx I:Int} (T:j5 vx I<=j5 H E) (Y:j5 (vx-H) (I-E)<=j5 H E) :
  (0<=kJ H E vx I/\kJ H E vx I<=j5 H E)/\(-j5 H E<=kZ H E vx I/\kZ H E vx I<=j5 H E):=by
 have M:=jm H E;have Z:=jm vx I;have X:=jm (vx-H) (I-E)
 have e:j5 (vx-H) (I-E)=j5 vx I-2*kJ H E vx I+j5 H E:=by
  unfold j5 kJ; simp only[Int.sub_mul,Int.mul_sub]; simp only[Int.mul_comm H vx,Int.mul_comm E I]; omega
 have q:kJ H E vx I*kJ H E vx I+kZ H E vx I*kZ H E vx I=j5 H E*j5 vx I:=by
  unfold j5 kJ kZ; simp only[Int.sub_mul,Int.mul_sub,Int.add_mul,Int.mul_add]; simp only[Int.mul_comm,Int.mul_left_comm,Int.mul_assoc]; omega
 have m:=Int.mul_le_mul_of_nonneg_left T M;have s1:=Yy (kJ H E vx I);have s2:=Yy (kZ H E vx I);have a:=Xs (x:=kJ H E vx I) M D6;have b:=Xs (x:=kZ H E vx I) M D6;exact⟨⟨by omega,a.2⟩,b⟩
theorem UT {l:PL} {K:Nat->Nat} (h:0<jp l K):∃p∈bP,yt l K=yL l K p:=by
 obtain⟨p,E,e⟩:=List.mem_map.1 (qO l K h).1;exact⟨p,E,e.symm⟩
end Go.Proofs.YtffmbepfbienaaaGreat
/- The sets of four of the first n indices (plain Lean): the iterator's order, and the nested loops'. -/
namespace Go.Proofs.YtffmbepfbienaaaGreat
variable {a b c n:Nat}
def JP (n:Nat) (x:P4):P4:=
 if x.2.2.2+1<n then(x.1,x.2.1,x.2.2.1,x.2.2.2+1)else if x.2.2.1+2<n then(x.1,x.2.1,x.2.2.1+1,x.2.2.1+2)else if x.2.1+3<n then(x.1,x.2.1+1,x.2.1+2,x.2.1+3)else(x.1+1,x.1+2,x.1+3,x.1+4)
def XR (n:Nat):Nat->P4
 | 0=>(0,1,2,3)
 | i+1=>JP n (XR n i)
def X8 (a b c:Nat) (d:Nat):List P4:=(List.range' (c+1) (d-(c+1))).map fun d=>(a,b,c,d)
def YZ (n a b:Nat) (c:Nat):List P4:=(List.range' (b+1) (c-(b+1))).flatMap fun c=>X8 a b c n
def ZY (n a:Nat) (b:Nat):List P4:=(List.range' (a+1) (b-(a+1))).flatMap fun b=>YZ n a b n
def ZP (n:Nat) (a:Nat):List P4:=(List.range' 0 a).flatMap fun a=>ZY n a n
def yr (n:Nat):List P4:=ZP n n
theorem jV {s m:Nat} (h:s<=m):List.range' s (m+1-s)=List.range' s (m-s) ++ [m]:=by
 rw[show m+1-s=(m-s)+1 by omega,List.range'_concat]; congr 2; omega
theorem BM (a b c:Nat):X8 a b c (c+1) = []:=by unfold X8; simp
theorem BN (n a b:Nat):YZ n a b (b+1) = []:=by unfold YZ; simp
theorem BO (n a:Nat):ZY n a (a+1) = []:=by unfold ZY; simp
theorem BP (n:Nat):ZP n 0 = []:=by unfold ZP; simp
theorem BQ {d:Nat} (h:c+1<=d):X8 a b c (d+1)=X8 a b c d ++ [(a,b,c,d)]:=by unfold X8; rw[jV h,List.map_append]; rfl
theorem BR (h:b+1<=c):YZ n a b (c+1)=YZ n a b c++X8 a b c n:=by unfold YZ; rw[jV h,List.flatMap_append]; simp
theorem BS (h:a+1<=b):ZY n a (b+1)=ZY n a b++YZ n a b n:=by unfold ZY; rw[jV h,List.flatMap_append]; simp
theorem BT : ZP n (a+1)=ZP n a++ZY n a n:=by unfold ZP; have:=jV (s:=0) (m:=a) (Nat.zero_le _); simp only[Nat.sub_zero]at this; rw[this,List.flatMap_append]; simp
def vY (n:Nat) (x:P4):Bool:=decide (x.1<x.2.1)&&decide (x.2.1<x.2.2.1)&&decide (x.2.2.1<x.2.2.2)&&decide (x.2.2.2<n)
theorem KW:∀n,n<=7->(yr n).length<=35/\(∀i,i<(yr n).length->(yr n)[i]? = some (XR n i)/\vY n (XR n i)=true)/\n<=(XR n (yr n).length).2.2.2:=by
 intro n E
 rcases(show n=0\/n=1\/n=2\/n=3\/n=4\/n=5\/n=6\/n=7 by omega)with rfl | rfl | rfl | rfl | rfl | rfl | rfl | rfl<;>decide
theorem Zo {x:P4} (h:vY n x=true):x.1<x.2.1/\x.2.1<x.2.2.1/\x.2.2.1<x.2.2.2/\x.2.2.2<n:=by
 unfold vY at h;simp only[Bool.and_eq_true,decide_eq_true_eq]at h;exact⟨h.1.1.1,h.1.1.2,h.1.2,h.2⟩
def K4 (x:P4):Nat->Nat:=Xq x.1 x.2.1 x.2.2.1 x.2.2.2
def qs (l:PL) (xs:List P4):List aU:=xs.filterMap fun x=>if 0<jp l (K4 x)then some (yt l (K4 x))else none
theorem KX (l:PL) (xs:List P4) (x:P4):qs l (xs ++ [x])=if 0<jp l (K4 x)then qs l xs ++ [yt l (K4 x)]else qs l xs:=by
 unfold qs; rw[List.filterMap_append]; by_cases h:0<jp l (K4 x)<;>simp[h]
theorem JQ (l:PL) (xs:List P4):(qs l xs).length<=xs.length:=List.length_filterMap_le _ _
end Go.Proofs.YtffmbepfbienaaaGreat
/- a call that gives CZ fractions, in a drawn region (w3.chain's kind fr2) -/
namespace Go.Proofs.YtffmbepfbienaaaGreat
open Go.RowKit
variable {e:Int} {r s:Rat} {u v:Ei} {W:Ef}
def Dp (x:Ei):Prop:=∃a s n c b t m d a' E H c' b' M T I,x = Ev #[Ej #[Ez a,Ex s n c,Ez b,Ex t m d],Ej #[Ez a',Ex E H c',Ez b',Ex M T I]]
def eu (r s:Rat) (x:Ei) (W:Ef):Prop:=∃u v,x = Ev #[u,v]/\FR W u r/\FR W v s
theorem eu.af (x:Ei) (W W':Ef) (k:av W W') (h:eu r s x W):eu r s x W':=by obtain⟨u,v,I,H,E⟩:=h; exact⟨u,v,I,H.af k,E.af k⟩
theorem eu.get (h:eu r s (Ev #[u,v]) W):FR W u r/\FR W v s:=by
 obtain⟨M,v',E,H,I⟩:=h;simp only[Value.tuple.injEq,Array.mk.injEq,List.cons.injEq,and_true]at E;obtain⟨rfl,rfl⟩:=E;exact⟨H,I⟩
def C9 (e:Int) (x:Ei):Prop:=∃a s n c b t m d a' E H c' b' M T I,x = Ev #[Ej #[Ez a,Ex s n c,Ez b,Ex t m d],Ej #[Ez a',Ex E H c',Ez b',Ex M T I],Ey Ew e]
def dK (r s:Rat) (e:Int) (x:Ei) (W:Ef):Prop:=∃u v,x = Ev #[u,v,Ey Ew e]/\FR W u r/\FR W v s
theorem dK.af (x:Ei) (W W':Ef) (k:av W W') (h:dK r s e x W):dK r s e x W':=by obtain⟨u,v,I,H,E⟩:=h; exact⟨u,v,I,H.af k,E.af k⟩
theorem dK.get (h:dK r s e (Ev #[u,v,Ey Ew e]) W):FR W u r/\FR W v s:=by
 obtain⟨M,v',E,H,I⟩:=h;simp only[Value.tuple.injEq,Array.mk.injEq,List.cons.injEq,and_true]at E;obtain⟨rfl,rfl⟩:=E;exact⟨H,I⟩
def Dq (i:Nat):Ei->Ei
 | Ev a=>a.getD i (Ez false)
 | _=> Ez false
end Go.Proofs.YtffmbepfbienaaaGreat
