import Derived.Test.YtffmbepfbienaaaGreatSNe
set_option linter.unusedVariables false
set_option linter.unusedSimpArgs false
set_option maxHeartbeats 6400000
set_option maxRecDepth 1000000
open Go.Value renaming slice->Ex,bool->Ez,int->Ey,agg->Ej,pointer->Ek,tuple->Ev
open Go.IntKind renaming i64->Ew
open Go.Ending renaming returned->Eh
open Go.Proofs.Tryz renaming prog->Ec
open Go renaming Calls->Ed,World->Ee,Value->Ef,TypeId->Ei,undef->Em,bodyPost_ret->En
open Nat renaming le_refl->Eo
open Go.World renaming cell?->Er,size_alloc->Es
namespace Go.Proofs.YtffmbepfbienaaaGreat
open Go.RowKit
variable {cs:Array Ef} {L g k p q x y:Int} {r:Nat} {t:Ei} {v va vb:Ef} {w w':Ee}
theorem UE (gx gy:Bool) {sa sb:Ef} {la lb:List Int} (w:Ee) (ha:aA w sa la) (hb:aA w sb lb) :
  Ed Ec 58 #[Ej #[Ez gx,sa,Ez gy,sb]] w fun e w'=>e = Eh (Ey Ew (yZ (xH gx la gy lb)))/\zf w w':=by
 have gb:¬(zS gx la/\zS gy lb)->∀w',zf w w'->Ed Ec 96 #[Ej #[Ez gx,sa],Ej #[Ez gy,sb]] w' fun e w2=>e = Eh (Ev #[Ej #[Ez false,Ex none 0 0],Ey Ew 8])/\zf w' w2:=fun hv w' h=>WO gx gy w' (ha.ae h) (hb.ae h) hv
 have gc:zS gx la->zS gy lb->∀w',zf w w'->Ed Ec 96 #[Ej #[Ez gx,sa],Ej #[Ez gy,sb]] w' fun e w2=>∃v,e = Eh (Ev #[v,Ey Ew 0])/\az w2 v (yv (zv gx (zo la)) (zv gy (zo lb)))/\fits (yv (zv gx (zo la)) (zv gy (zo lb)))/\zf w' w2:=fun va vb w' h=>
  Bj w' (qB (ha.ae h) va) (qB (hb.ae h) vb) (qC ha.ok va) (qC hb.ok vb)
 have zr:zS gy lb->∀w',zf w w'->Ed Ec 97 #[Ej #[Ez gy,sb]] w' fun e w2=>e = Eh (Ez (decide (zv gy (zo lb)=0)))/\zf w' w2:=fun vb w' h=>UC w' (qB (hb.ae h) vb)
 have cU:zS gy lb->(zv gy (zo lb)=0↔lb = []):=fun vb=>by
  have h1:=zE hb.ok;have h2:=yt hb.ok;rw[vb.2.1]at h2;have h3:=zY h1;rw[h2]at h3;rw[h3];unfold zv
  split<;>omega
 obtain⟨aa,ca,rfl⟩:=ha.ak;obtain⟨ab,cb,rfl⟩:=hb.ak;obtain⟨n,hn⟩:∃n,la.length=n:=⟨_,rfl⟩;obtain⟨m,hm⟩:∃m,lb.length=m:=⟨_,rfl⟩;rw[hn]at gb gc|-;rw[hm]at gb gc zr|-;have cN:m=0↔lb = []:=by rw[<- hm]; exact List.length_eq_zero_iff
 clear ha hb hn hm
 by_cases hv:zS gx la/\zS gy lb
 .
  obtain⟨h1,h2⟩:=hv;have br:=gc h1 h2;have co:=zr h2;have hz:=cU h2;clear gc gb zr cU
  cases gy with
  | true=>
   have H:Hid (yZ (xH gx la true lb)=8):=E9 (fun h=>by have:=h.2.2.1; cases this);clear h1 h2 cN co hz
   go_enter Tryz.func58,Tryz.ntmps58
   go_wp2_with fail
   refine(br _ zh).mono ?_;rintro e I ⟨vg,rfl,Z,cy,bt⟩;have st:zf _ I:=bt;have M:=bA w st;have of:ai I w.heap.size 28 #[Ez gx,Ex aa n ca,Ez true,Ex ab m cb]:=ai.aw st;clear st;have B:=M;clear M;obtain⟨T,X,ah,Y,ff,lf⟩:=of.s3;clear br;obtain⟨bg,ag,ng,cg,rfl⟩:=Z.ak;have NG:=E6 Z;clear Z;have dk:w.heap.size<I.heap.size:=of.lt;go_wp2_with fail
   go_quiet (fail)
   go_wp2
   go_returns
   exact⟨yK H.out.symm,zh⟩
  | false=>
   by_cases h0:lb = []
   .
    have H:Hid (yZ (xH gx la false lb)=8):=E9 (fun h=>h.2.2.2.1 h0);simp only[E_ (hz.2 h0)]at co;clear h1 h2 cN hz h0
    go_enter Tryz.func58,Tryz.ntmps58
    go_wp2_with fail
    refine(br _ zh).mono ?_;rintro e I ⟨vg,rfl,Z,cy,bt⟩;have st:zf _ I:=bt;have M:=bA w st;have of:ai I w.heap.size 28 #[Ez gx,Ex aa n ca,Ez false,Ex ab m cb]:=ai.aw st;clear st;have B:=M;clear M;obtain⟨T,X,ah,Y,ff,lf⟩:=of.s3;clear br;obtain⟨bg,ag,ng,cg,rfl⟩:=Z.ak;have NG:=E6 Z;clear Z;have dk:w.heap.size<I.heap.size:=of.lt;go_wp2_with fail
    go_region_with (go_at_call 97; refine(co _ zh).mono ?_; rintro e E ⟨rfl,bh⟩; go_must (have st:zf _ E:=bh; have M:=bA w st; have nf:ai E w.heap.size 28 #[Ez gx,Ex aa n ca,Ez false,Ex ab m cb]:=ai.aw st; have ng:ai E I.heap.size 26 #[Ez bg,Ex ag ng cg]:=ai.aw st; clear B of T X ah Y ff lf; clear st; have B:=M; clear M; have of:=nf; clear nf; have T:Er E ⟨w.heap.size,0,none⟩=some (Ez gx):=of.c 0 rfl; have X:Er E ⟨w.heap.size,1,none⟩=some (Ex aa n ca):=of.c 1 rfl; have ah:Er E ⟨w.heap.size,2,none⟩=some (Ez false):=of.c 2 rfl; have Y:Er E ⟨w.heap.size,3,none⟩=some (Ex ab m cb):=of.c 3 rfl; have ff:=of.fr; have lf:=of.lt; have og:=ng; clear ng; have cx:Er E ⟨I.heap.size,0,none⟩=some (Ez bg):=og.c 0 rfl; have cn:Er E ⟨I.heap.size,1,none⟩=some (Ex ag ng cg):=og.c 1 rfl; have fg:=og.fr; have lg:=og.lt))
    all_goals (go_wp2; go_returns; exact⟨yK H.out.symm,zh⟩)
   .
    have HV:yZ (xH gx la false lb)=if yv (zv gx (zo la)) (zv false (zo lb))=1 then 0 else 8:=by
     by_cases hg:yv (zv gx (zo la)) (zv false (zo lb))=1
     . rw[E8 hg]; exact E8 ⟨h1,h2,rfl,h0,hg⟩
     . rw[E9 hg]; exact E9 (fun h=>hg h.2.2.2.2)
    simp only[E' (fun e=>h0 (hz.1 e))]at co;obtain⟨G,hG⟩:∃G,yv (zv gx (zo la)) (zv false (zo lb))=G:=⟨_,rfl⟩;rw[hG]at br HV;clear h1 h2 cN hG h0 hz;have sm:∀w' va vb,az w' va G->az w' vb 1->fits G->Ed Ec 98 #[va,vb] w' fun e w2=>e = Eh (Ez (decide (G=1)))/\zf w' w2:=fun w' va vb h1 h2 h3=>Bi w' h1 h2 h3 (xZ (by unfold zi; omega))
    by_cases hg:G=1
    focus
     rw[E8 hg]at HV;have H:=E6 HV;simp only[E_ hg]at sm
    rotate_left
    focus
     rw[E9 hg]at HV;have H:=E6 HV;simp only[E' hg]at sm
    rotate_left
    all_goals
     clear HV hg
     go_enter Tryz.func58,Tryz.ntmps58
     go_wp2_with fail
     refine(br _ zh).mono ?_;rintro e I ⟨vg,rfl,Z,cy,bt⟩;have st:zf _ I:=bt;have M:=bA w st;have of:ai I w.heap.size 28 #[Ez gx,Ex aa n ca,Ez false,Ex ab m cb]:=ai.aw st;clear st;have B:=M;clear M;obtain⟨T,X,ah,Y,ff,lf⟩:=of.s3;clear br;obtain⟨bg,ag,ng,cg,rfl⟩:=Z.ak;have NG:=E6 Z;clear Z;have dk:w.heap.size<I.heap.size:=of.lt;go_wp2_with fail
     go_region_held3 (fun w'=>w'.cell? ⟨w.heap.size,0,none⟩=some (Ez gx)/\w'.cell? ⟨w.heap.size,1,none⟩=some (Ex aa n ca)/\w'.cell? ⟨w.heap.size,2,none⟩=some (Ez false)/\w'.cell? ⟨w.heap.size,3,none⟩=some (Ex ab m cb)/\w'.cell? ⟨I.heap.size,0,none⟩=some (Ez bg)/\w'.cell? ⟨I.heap.size,1,none⟩=some (Ex ag ng cg))
      ((refine⟨ai.c (t:=28) (cs:=#[Ez gx,Ex aa n ca,Ez false,Ex ab m cb]) ?_ 0 rfl,ai.c (t:=28) (cs:=#[Ez gx,Ex aa n ca,Ez false,Ex ab m cb]) ?_ 1 rfl,ai.c (t:=28) (cs:=#[Ez gx,Ex aa n ca,Ez false,Ex ab m cb]) ?_ 2 rfl,ai.c (t:=28) (cs:=#[Ez gx,Ex aa n ca,Ez false,Ex ab m cb]) ?_ 3 rfl,ai.c (t:=26) (cs:=#[Ez bg,Ex ag ng cg]) ?_ 0 rfl,ai.c (t:=26) (cs:=#[Ez bg,Ex ag ng cg]) ?_ 1 rfl⟩<;>(repeat' first | with_reducible assumption | (with_reducible refine ai.bO ?_; first | with_reducible rfl | (simp only[Es,World.size_setCell,World.size_drew]; done)) | with_reducible refine ai.alloc ?_ _ | with_reducible refine ai.drew ?_ | with_reducible refine ai.drewN ?_ _ | with_reducible apply ai.both | with_reducible refine ai.aH ?_ ?_ | (show _≠_; omega))))
      (first
       | ((go_at_call 97; refine(co _ zh).mono ?_; rintro e E ⟨rfl,bh⟩; go_must (have dl:=E6 (NG.out.ae (((Below.refl _ _).alloc (Eo _) _).drew.trans (bh.mono D8))); have st:zf _ E:=bh; have M:=bA w st; have nf:ai E w.heap.size 28 #[Ez gx,Ex aa n ca,Ez false,Ex ab m cb]:=ai.aw st; have ng:ai E I.heap.size 26 #[Ez bg,Ex ag ng cg]:=ai.aw st; clear B of T X ah Y ff lf; clear st; have B:=M; clear M; have of:=nf; clear nf; have T:Er E ⟨w.heap.size,0,none⟩=some (Ez gx):=of.c 0 rfl; have X:Er E ⟨w.heap.size,1,none⟩=some (Ex aa n ca):=of.c 1 rfl; have ah:Er E ⟨w.heap.size,2,none⟩=some (Ez false):=of.c 2 rfl; have Y:Er E ⟨w.heap.size,3,none⟩=some (Ex ab m cb):=of.c 3 rfl; have ff:=of.fr; have lf:=of.lt; have og:=ng; clear ng; have cx:Er E ⟨I.heap.size,0,none⟩=some (Ez bg):=og.c 0 rfl; have cn:Er E ⟨I.heap.size,1,none⟩=some (Ex ag ng cg):=og.c 1 rfl; have fg:=og.fr; have lg:=og.lt; have Z1:=E6 (E7 bh trivial))))
       | ((go_at_call 99; refine(Cw _).mono ?_; rintro e E ⟨vo,rfl,d9,bh⟩; go_must (have dx:=E6 (dl.out.ae bh); have st:zf _ E:=bh; have M:=bA w st; have nf:ai E w.heap.size 28 #[Ez gx,Ex aa n ca,Ez false,Ex ab m cb]:=ai.aw st; have ng:ai E I.heap.size 26 #[Ez bg,Ex ag ng cg]:=ai.aw st; clear B of og T X ah Y ff lf cx cn fg lg; clear st; have B:=M; clear M; have of:=nf; clear nf; have T:Er E ⟨w.heap.size,0,none⟩=some (Ez gx):=of.c 0 rfl; have X:Er E ⟨w.heap.size,1,none⟩=some (Ex aa n ca):=of.c 1 rfl; have ah:Er E ⟨w.heap.size,2,none⟩=some (Ez false):=of.c 2 rfl; have Y:Er E ⟨w.heap.size,3,none⟩=some (Ex ab m cb):=of.c 3 rfl; have ff:=of.fr; have lf:=of.lt; have og:=ng; clear ng; have cx:Er E ⟨I.heap.size,0,none⟩=some (Ez bg):=og.c 0 rfl; have cn:Er E ⟨I.heap.size,1,none⟩=some (Ex ag ng cg):=og.c 1 rfl; have fg:=og.fr; have lg:=og.lt; obtain⟨ed,dy,dP,dz,rfl⟩:=d9.ak; have NO:=E6 d9; clear d9)))
       | ((go_at_call 98; refine(sm _ _ _ dx.out NO.out cy).mono ?_; rintro e E ⟨rfl,bh⟩; go_must (have st:zf _ E:=bh; have M:=bA w st; have nf:ai E w.heap.size 28 #[Ez gx,Ex aa n ca,Ez false,Ex ab m cb]:=ai.aw st; have ng:ai E I.heap.size 26 #[Ez bg,Ex ag ng cg]:=ai.aw st; clear B of og T X ah Y ff lf cx cn fg lg; clear st; have B:=M; clear M; have of:=nf; clear nf; have T:Er E ⟨w.heap.size,0,none⟩=some (Ez gx):=of.c 0 rfl; have X:Er E ⟨w.heap.size,1,none⟩=some (Ex aa n ca):=of.c 1 rfl; have ah:Er E ⟨w.heap.size,2,none⟩=some (Ez false):=of.c 2 rfl; have Y:Er E ⟨w.heap.size,3,none⟩=some (Ex ab m cb):=of.c 3 rfl; have ff:=of.fr; have lf:=of.lt; have og:=ng; clear ng; have cx:Er E ⟨I.heap.size,0,none⟩=some (Ez bg):=og.c 0 rfl; have cn:Er E ⟨I.heap.size,1,none⟩=some (Ex ag ng cg):=og.c 1 rfl; have fg:=og.fr; have lg:=og.lt))))
     go_wp2
     go_returns
     exact⟨yK H.out.symm,zh⟩
 .
  have H:Hid (yZ (xH gx la gy lb)=8):=E9 (fun h=>hv ⟨h.1,h.2.1⟩);have dc:=gb hv;clear gb gc zr cU hv cN
  go_enter Tryz.func58,Tryz.ntmps58
  go_wp2_with fail
  refine(dc _ zh).mono ?_;rintro e I ⟨rfl,st⟩;have M:=bA w st;have of:ai I w.heap.size 28 #[Ez gx,Ex aa n ca,Ez gy,Ex ab m cb]:=ai.aw st;clear st;have B:=M;clear M;obtain⟨T,X,ah,Y,ff,lf⟩:=of.s3;clear dc;go_wp2_with fail
  go_quiet (fail)
  go_wp2
  go_returns
  exact⟨yK H.out.symm,zh⟩
def bU (w:Ee) (v:Ef) (p q:Int):Prop:=∃E H,v = Ej #[Ez (decide (p<0)),E,Ez false,H]/\aA w E (zp (zi p))/\aA w H (zp q)/\0<q/\yv p q=1/\fits p/\fits q
theorem bU.ae (h:bU w v p q) (E:zf w w'):bU w' v p q:=by
 obtain⟨H,T,e,M,I,h⟩:=h;exact⟨H,T,e,M.ae E,I.ae E,h⟩
theorem WP (p:Int):zv (decide (p<0)) (zi p)=p:=by
 unfold zv zi
 by_cases h:p<0
 . rw[E_ h]; simp; omega
 . rw[E' h]; simp; omega
theorem Xv (q0:0<q) (hg:yv p q=1) (I:fits p) (H:fits q):xH (decide (p<0)) (zp (zi p)) false (zp q):=by
 have E:=xD H;rw[E' D5,jg D5]at E;refine⟨xD I,E,rfl,fun e=>by have:=(zY D5).1 e; omega,?_⟩;rw[zD (zA p),zD D5,WP];exact hg
theorem bU.eG {gx gy:Bool} {Y X:Ef} {la lb:List Int} (ha:aA w Y la) (E:aA w X lb) (h:xH gx la gy lb):bU w (Ej #[Ez gx,Y,Ez gy,X]) (zv gx (zo la)) (zo lb):=by
 obtain⟨h1,M,rfl,h4,h5⟩:=h;have n1:=qB ha h1;have n2:=qB E M;obtain⟨s1,H,l1⟩:=n1;obtain⟨s2,I,T⟩:=n2;have b0:=zE E.ok
 have q0:0<zo lb:=by
  have h3:=yt E.ok;rw[M.2.1]at h3
  rcases Int.lt_or_le 0 (zo lb)with h | h
  . exact h
  . exfalso; apply h4; rw[<- h3,(zY b0).2 D5]
 have Z:zv false (zo lb)=zo lb:=rfl;rw[Z]at h5 T I;rw[jg b0]at T;simp only[Value.agg.injEq,Array.mk.injEq,List.cons.injEq,Value.bool.injEq,and_true]at H I;obtain⟨H,rfl⟩:=H;obtain⟨_,rfl⟩:=I;have f2:=qC E.ok M;rw[Z]at f2;exact⟨Y,X,by rw[<- H],l1,T,q0,h5,qC ha.ok h1,f2⟩
theorem VK (w:Ee) (h:bU w v p q):Ed Ec 58 #[v] w fun e w'=>e = Eh (Ey Ew 0)/\zf w w':=by
 obtain⟨T,X,rfl,M,I,q0,hg,E,H⟩:=h;have:=UE (decide (p<0)) false w M I;rw[Ze,E8 (Xv q0 hg E H)]at this;exact this
theorem JV (w:Ee) (h:bU w v p q):Ed Ec 86 #[v] w fun e w'=>e = Eh (Ey Ew 0)/\zf w w':=by
 obtain⟨T,X,rfl,M,I,q0,hg,E,H⟩:=h;have:=KJ (decide (p<0)) false w M I;rw[Ze,E8 (Xv q0 hg E H)]at this;exact this
def DE (p q:Int):Int×Int×Int:=md (xl (p*1099511627776) q) (xl (p*1099511627776) q+if 0<xz (p*1099511627776) q then 1 else 0)
def DF (n:Int):Int×Int×Int:=if n < -2097152\/2097152<n then(0,0,16)else(n*1099511627776,n*1099511627776,0)
theorem VL {r:Int} (h0:0<=r) (E:r<y) (h:L*y+r=x):xl x y=L/\xz x y=r:=
 jY (by rw[Int.mul_comm]; exact h.symm) (.inl ⟨h0,E⟩)
def eu (p q:Int) (j:Nat) (L r S:Int):Prop:=0<=r/\r<q/\L*q+r=p*((2^(40-j):Nat):Int)/\S=L*((2^j:Nat):Int)/\-2305843009213693952<=S/\S+((2^j:Nat):Int)<=2305844108725321728
theorem eu.start {N E:Int} (H:N*q+E=p/\0<=E/\E<q) (I : -2097152<=N) (M:N<=2097152):eu p q 40 N E (N*1099511627776):=by
 refine⟨H.2.1,H.2.2,by simp; exact H.1,by simp,by omega,by simp; omega⟩
theorem eu.done {r S:Int} (I:eu p q 0 L r S):xl (p*1099511627776) q=S/\xz (p*1099511627776) q=r:=by
 obtain⟨a,b,c,d,e,f⟩:=I;simp at c d;rw[d];exact VL a b c
def rg (x y:Int):Int:=if y<0 then -yv x y else yv x y
def Yg (x y:Int):Int:=xl x (rg x y)
def ZH (x y:Int):Int:=xl y (rg x y)
theorem YB (h:y≠0):0<yv x y:=by
 unfold yv;have:=Int.gcd_pos_of_ne_zero_right x h;omega
theorem YC (h:g≠0):xl (k*g) g=k:=by
 unfold xl;exact Int.mul_fdiv_cancel k h
theorem QP (h:y≠0):rg x y≠0:=by
 have:=YB (x:=x) h;unfold rg
 split<;>omega
theorem UF (x y:Int):yv x y∣x/\yv x y∣y:=⟨Int.gcd_dvd_left x y,Int.gcd_dvd_right x y⟩
theorem G6 (x y:Int):rg x y∣x/\rg x y∣y:=by
 have:=UF x y;unfold rg
 split
 . exact⟨Int.neg_dvd.2 this.1,Int.neg_dvd.2 this.2⟩
 . exact this
theorem XY (h:y≠0):Yg x y*rg x y=x/\ZH x y*rg x y=y:=by
 obtain⟨⟨a,E⟩,⟨b,I⟩⟩:=G6 x y;have H:=QP (x:=x) h;unfold Yg ZH
 have T:xl x (rg x y)=a:=by
  conv=>lhs; rw[E,Int.mul_comm]
  rw[show rg (a*rg x y) y=rg (a*rg x y) y from rfl];rw[Int.mul_comm a,<- E];have:=YC (k:=a) H;rw[Int.mul_comm,<- E]at this;exact this
 have M:xl y (rg x y)=b:=by
  have:=YC (k:=b) H;rw[Int.mul_comm,<- I]at this;exact this
 rw[T,M,Int.mul_comm a,Int.mul_comm b];exact⟨E.symm,I.symm⟩
theorem Yh (h:y≠0):0<ZH x y:=by
 have m:=(XY (x:=x) h).2;have g:=YB (x:=x) h;obtain⟨G,H⟩:∃G,yv x y=G:=⟨_,rfl⟩;unfold rg at m;rw[H]at m g
 rcases Int.lt_or_le 0 (ZH x y)with k | k
 . exact k
 .
  exfalso
  split at m
  .
   have E:=Int.mul_nonneg_of_nonpos_of_nonpos k (show -G<=0 by omega);rw[m]at E;omega
  .
   have:=Int.mul_le_mul_of_nonneg_right k (show 0<=G by omega);rw[m]at this;omega
theorem YD {a b:Int} (hg:0<g) (h:yv (a*g) (b*g)=g):yv a b=1:=by
 unfold yv at h|-;rw[Int.gcd_mul_right]at h;have e:((g.natAbs:Nat):Int)=g:=D5
 have k:((Int.gcd a b:Nat):Int)*g=1*g:=by
  rw[Int.one_mul]
  conv=>rhs; rw[<- h]
  rw[Int.natCast_mul,e]
 exact Int.eq_of_mul_eq_mul_right D5 k
theorem JW (h:y≠0):yv (Yg x y) (ZH x y)=1:=by
 have m:=XY (x:=x) h;have g:=YB (x:=x) h;unfold rg at m
 split at m
 .
  rw[Int.mul_neg,Int.mul_neg]at m;refine YD g ?_;have H:Yg x y*yv x y = -x:=D5
  have E:ZH x y*yv x y = -y:=D5
  rw[H,E];unfold yv;rw[Int.neg_gcd,Int.gcd_neg]
 .
  refine YD g ?_;rw[m.1,m.2]
theorem kD {n m:Int} (h:Int.gcd k n=1) (hd:k∣n*m):k∣m:=by
 have:=(Int.dvd_gcd_mul_iff_dvd_mul (k:=k) (n:=n) (m:=m)).2 hd;rw[h]at this;simpa using this
theorem JX {p' E:Int} (q0:0<q) (H:0<E) (g:yv p q=1) (Y:yv p' E=1) (h:p*E=p'*q):p=p'/\q=E:=by
 unfold yv at g Y;have X:Int.gcd p q=1:=D5
 have M:Int.gcd p' E=1:=D5
 have I:q∣E:=by
  have:q∣p*E:=⟨p',by rw[h,Int.mul_comm]⟩;exact kD (by rw[Int.gcd_comm]; exact X) this
 have T:E∣q:=by
  have:E∣p'*q:=⟨p,by rw[<- h,Int.mul_comm]⟩;exact kD (by rw[Int.gcd_comm]; exact M) this
 have e:q=E:=by
  have Z:=Int.le_of_dvd H I;have l2:=Int.le_of_dvd q0 T;omega
 subst e;exact⟨Int.eq_of_mul_eq_mul_right D5 h,rfl⟩
theorem VM (E:y≠0) (q0:0<q) (g:yv p q=1) (h:p*y=x*q):Yg x y=p/\ZH x y=q:=by
 have m:=XY (x:=x) E;have H:=QP (x:=x) E;refine JX (Yh E) q0 (JW E) g ?_
 have e:(Yg x y*q)*rg x y=(p*ZH x y)*rg x y:=by
  rw[Int.mul_right_comm,m.1,Int.mul_assoc,m.2]; exact h.symm
 exact Int.eq_of_mul_eq_mul_right H e
theorem JY (h:y≠0):zi (Yg x y)<=zi x/\zi (ZH x y)<=zi y/\zi (rg x y)<=zi y:=by
 have m:=XY (x:=x) h;have E:=QP (x:=x) h
 have key:∀a g:Int,g≠0->zi a<=zi (a*g):=fun a g hg=>by
  unfold zi;rw[Int.natAbs_mul];have:1<=g.natAbs:=D5
  have:=Nat.mul_le_mul_left a.natAbs this;omega
 have k1:=key (Yg x y) (rg x y) E;have k2:=key (ZH x y) (rg x y) E;have q0:=Yh (x:=x) h;have k3:=key (rg x y) (ZH x y) D5;rw[m.1]at k1;rw[m.2]at k2;rw[Int.mul_comm,m.2]at k3;exact⟨k1,k2,k3⟩
theorem bU.mk' {a b:Bool} {s t:Ef} (X:az w (Ej #[Ez a,s]) p) (M:az w (Ej #[Ez b,t]) q) (q0:0<q) (hg:yv p q=1) (T:fits p) (Y:fits q):bU w (Ej #[Ez a,s,Ez b,t]) p q:=by
 obtain⟨s1,I,Z⟩:=X;obtain⟨s2,E,H⟩:=M;simp only[Value.agg.injEq,Array.mk.injEq,List.cons.injEq,Value.bool.injEq,and_true]at I E;obtain⟨rfl,rfl⟩:=I;obtain⟨rfl,rfl⟩:=E;rw[jg D5]at H;exact⟨s,t,by rw[E' (by omega:¬q<0)],Z,H,q0,hg,T,Y⟩
theorem bU.bW (h:bU w v p q):∃H X I E Y M,v = Ej #[Ez (decide (p<0)),Ex H X I,Ez false,Ex E Y M]/\az w (Ej #[Ez (decide (p<0)),Ex H X I]) p/\az w (Ej #[Ez false,Ex E Y M]) q:=by
 obtain⟨sp,sq,rfl,lp,Z,q0,hg,fp,fq⟩:=h;obtain⟨H,I,e1⟩:=lp.ak;obtain⟨E,M,T⟩:=Z.ak;refine⟨H,(zp (zi p)).length,I,E,(zp q).length,M,by rw[e1,T],⟨_,rfl,by rw[<- e1]; exact lp⟩,⟨_,by rw[E' (by omega:¬q<0)],by rw[jg D5,<- T]; exact Z⟩⟩
def bK (r:Nat) (w w':Ee):Prop:=w'.heap.size=w.heap.size/\∀k,k≠r->w'.heap[k]? = w.heap[k]?
theorem bK.refl (r:Nat) (w:Ee):bK r w w:=⟨rfl,fun _ _=>rfl⟩
theorem bK.set {i:Nat} {u:Ef} (h:bK r w w'):bK r w (w'.setCell ⟨r,i,none⟩ u):=
 ⟨by rw[World.size_setCell]; exact h.1,fun k E=>(Below.heap_setCell w' ⟨r,i,none⟩ u k E).trans (h.2 k E)⟩
def zU (cs:Array Ef):Bool:=cs.toList.all fun v=>match v with | Ey .u32 _=>false | _=>true
theorem Xw {k:Nat} (h:zU cs=true):cs[k]?≠some (Ey .u32 x):=by
 intro e;obtain⟨E,e⟩:=Array.getElem?_eq_some_iff.1 e;have:=List.all_eq_true.1 h cs[k] D8;rw[e]at this
 cases this
theorem aA.only {l:List Int} (h:aA w v l) (Z:ai w r t cs) (hn:zU cs=true) (M:bK r w w'):aA w' v l:=by
 obtain⟨h0,I,cap,rfl,X,h3,T⟩:=h;refine⟨h0,I,cap,rfl,X,h3,fun E=> ?_⟩;obtain⟨b,o,rfl,H,hc⟩:=T E
 have Y:b≠r:=by
  rintro rfl;have g:=hc 0 (List.length_pos_iff.2 E);rw[Z.cell]at g;exact Xw hn g
 exact⟨b,o,rfl,by rw[M.1]; exact H,fun t ht=>(World.cell?_of_block (a:=⟨b,o+t,none⟩) (M.2 b Y)).trans (hc t ht)⟩
theorem az.only {z:Int} (h:az w v z) (H:ai w r t cs) (I:zU cs=true) (E:bK r w w'):az w' v z:=by
 obtain⟨s,e,M⟩:=h;exact⟨s,e,M.only H I E⟩
theorem bU.only (h:bU w v p q) (H:ai w r t cs) (I:zU cs=true) (E:bK r w w'):bU w' v p q:=by
 obtain⟨M,Y,e,X,T,h⟩:=h;exact⟨M,Y,e,X.only H I E,T.only H I E,h⟩
theorem bU.aK (h:bU w v p q) (o:Obj):bU (w.alloc o) v p q:=h.ae ((Below.refl _ _).alloc (Eo _) _)
theorem bU.ak (h:bU w v p q):∃a s n c b t m d,v = Ej #[Ez a,Ex s n c,Ez b,Ex t m d]:=by
 obtain⟨I,H,M,E,T,X,e,-⟩:=h.bW;exact⟨_,_,_,_,_,_,_,_,e⟩
theorem jN (h:fits x):fits (-x):=by
 unfold fits at *;rw[show zi (-x)=zi x by unfold zi; omega];exact h
theorem G7 (x:Int):zv (!decide (x<0)) (zi x) = -x:=by
 unfold zv zi
 by_cases h:x<0
 . rw[E_ h]; simp; omega
 . rw[E' h]; simp; omega
theorem Bk (w:Ee) (ha:az w va x) (fx:fits x) :
  Ed Ec 168 #[va] w fun e w'=>∃v,e = Eh (Ev #[v,Ey Ew 0])/\az w' v (-x)/\zf w w':=by
 have fn:=jN fx;obtain⟨aa,ca,rfl,pa⟩:=ha.parts
 have ck:∀w',zf w w'->Ed Ec 124 #[Ej #[Ez (decide (x<0)),Ex aa (zp (zi x)).length ca]] w' fun e w2=>e = Eh (Ey Ew 0)/\zf w' w2:=fun w' h=>by
  have:=je (decide (x<0)) w' (pa.ae h);rw[show yZ (zS (decide (x<0)) (zp (zi x)))=0 from E8 (xD fx)]at this;exact this
 have mk:∀w',zf w w'->Ed Ec 139 #[Ez (!decide (x<0)),Ex aa (zp (zi x)).length ca] w' fun e w2=>∃v',e = Eh (Ev #[v',Ey Ew 0])/\az w2 v' (-x)/\zf w' w2:=fun w' h=>by
  have:=qY (!decide (x<0)) w' (pa.ae h) (by unfold fits at fx; unfold zP; omega);rw[zD (zA x),G7,zM fn,zH fn]at this;exact this
 obtain⟨n,hn⟩:∃n,(zp (zi x)).length=n:=⟨_,rfl⟩;obtain⟨gx,X⟩:∃b,decide (x<0)=b:=⟨_,rfl⟩;rw[hn,X]at ck mk|-;clear ha pa hn X fx fn
 go_enter Tryz.func168,Tryz.ntmps168
 go_wp2_with fail
 refine(ck _ zh).mono ?_;rintro e w1 ⟨rfl,st⟩;have Y:=bA w st;have Z:ai w1 w.heap.size 26 #[Ez gx,Ex aa n ca]:=ai.aw st;have or:ai w1 (w.heap.size+1) 26 #[Ez false,Ex none 0 0]:=ai.aw st;clear st;have B:=Y;clear Y;obtain⟨T,H,fa,la⟩:=Z.s1;obtain⟨M,I,fr,lr⟩:=or.s1;clear ck;go_wp2_with fail
 refine(mk _ B).mono ?_;rintro e w2 ⟨v2,rfl,E,st⟩;have Y:=bA w st;have na:=Z.aG st;have nr:=or.aG st;clear B Z or T H fa la M I fr lr;clear st;have B:=Y;clear Y;have Z:=na;clear na;obtain⟨T,H,fa,la⟩:=Z.s1;have or:=nr;clear nr;obtain⟨M,I,fr,lr⟩:=or.s1;clear mk;obtain⟨bb,ao,k,c,rfl⟩:=E.ak;have HV:=E6 E;clear E
 go_wp2
 refine En (by simp[results,Tryz.results168,go_sem,T,H,fa,la,M,I,fr,lr]; rfl) rfl ?_;exact⟨_,rfl,HV.out.aN or,zh⟩
theorem Zg (w:Ee) (ha:az w va x) (hb:az w vb y) (fx:fits x) (fy:fits y) (hy:y≠0) :
  Ed Ec 138 #[va,vb] w fun e w'=>∃v,e = Eh v/\bU w' v (Yg x y) (ZH x y)/\zf w w':=by
 have RA:=JY (x:=x) hy;have fP:fits (Yg x y):=yE RA.1 fx;have fQ:fits (ZH x y):=yE RA.2.1 fy;have fG:fits (rg x y):=yE RA.2.2 fy;have g0:=QP (x:=x) hy;have gc:=fun(w':Ee) (h:zf w w')=>Bg w' (ha.ae h) (hb.ae h) fx fy;have d1:∀w' v,zf w w'->az w' v (rg x y)->Ed Ec 169 #[va,v] w' fun e w2=>∃q r,e = Eh (Ev #[q,r,Ey Ew 0])/\az w2 q (Yg x y)/\az w2 r (xz x (rg x y))/\zf w' w2:=fun w' v h hv=>KI w' (ha.ae h) hv fx fG g0;have d2:∀w' v,zf w w'->az w' v (rg x y)->Ed Ec 169 #[vb,v] w' fun e w2=>∃q r,e = Eh (Ev #[q,r,Ey Ew 0])/\az w2 q (ZH x y)/\az w2 r (xz y (rg x y))/\zf w' w2:=fun w' v h hv=>KI w' (hb.ae h) hv fy fG g0;have MK:=E6 (E7 (Yh (x:=x) hy) (E7 (JW (x:=x) hy) (E7 fP fQ)))
 have fg:fits (yv x y):=by
  unfold rg at fG
  split at fG
  . have:=jN fG; rwa[Int.neg_neg]at this
  . exact fG
 obtain⟨aa,ca,rfl,-⟩:=ha.parts;obtain⟨ab,cb,rfl,-⟩:=hb.parts;obtain⟨n,hn⟩:∃n,(zp (zi x)).length=n:=⟨_,rfl⟩;obtain⟨m,hm⟩:∃m,(zp (zi y)).length=m:=⟨_,rfl⟩;rw[hn]at gc d1|-;rw[hm]at gc d2|-;obtain⟨gx,dc⟩:∃b,decide (x<0)=b:=⟨_,rfl⟩;rw[dc]at gc d1|-;clear ha hb hn hm dc RA fP fQ fG g0 fx fy
 by_cases hs:y<0
 focus
  have e:=E_ hs;rw[e]at gc d2|-;have HG:rg x y = -yv x y:=E8 hs;rw[HG]at d1 d2;have ng:∀w' v,az w' v (yv x y)->Ed Ec 168 #[v] w' fun e w2=>∃v',e = Eh (Ev #[v',Ey Ew 0])/\az w2 v' (-yv x y)/\zf w' w2:=fun w' v h=>Bk w' h fg;clear hs e HG fg hy
  go_enter Tryz.func138,Tryz.ntmps138
  go_wp2_with fail
  refine(gc _ zh).mono ?_;rintro e w1 ⟨vg,rfl,hg,fg,dy⟩;have st:zf _ w1:=dy;have Bn:=bA w st;have oa:ai w1 w.heap.size 26 #[Ez gx,Ex aa n ca]:=ai.aw st;have ob:ai w1 (w.heap.size+1) 26 #[Ez true,Ex ab m cb]:=ai.aw st;have or:ai w1 (w.heap.size+1+1) 28 jp:=ai.aw st;clear st;have B:=Bn;clear Bn;obtain⟨Z,H,fa,la⟩:=oa.s1;obtain⟨Y,M,fb,lb⟩:=ob.s1;obtain⟨T,X,I,E,fr,lr⟩:=or.s3;clear gc fg;obtain⟨bg,ag,cU,cg,rfl⟩:=hg.ak;have NG:=E6 hg;clear hg;have z1:w.heap.size+1+1<w1.heap.size:=or.lt;go_wp2_with fail
  refine(ng _ _ (NG.out.aK _)).mono ?_;rintro e w2 ⟨vh,rfl,hh,cx⟩;have st:zf _ w2:=cx;have Bn:=bA w st;have na:=oa.aG st;have nb:=ob.aG st;have nr:=or.aG st;have og:ai w2 w1.heap.size 26 #[Ez bg,Ex ag cU cg]:=ai.aw st;clear B oa ob or Z H fa la Y M fb lb T X I E fr lr;clear st;have B:=Bn;clear Bn;have oa:=na;clear na;obtain⟨Z,H,fa,la⟩:=oa.s1;have ob:=nb;clear nb;obtain⟨Y,M,fb,lb⟩:=ob.s1;have or:=nr;clear nr;obtain⟨T,X,I,E,fr,lr⟩:=or.s3;obtain⟨cn,co,fg,lg⟩:=og.s1;clear ng NG;obtain⟨bh,ah,nh,ch,rfl⟩:=hh.ak;have NH:=E6 hh;clear hh;have cy:=og;go_wp2_with fail
  refine(d1 _ _ zh (NH.out.aN cy)).mono ?_;rintro e w3 ⟨vp,vr,rfl,hp,hr,dx⟩;have st:zf _ w3:=dx;have Bn:=bA w st;have na:=oa.aG st;have nb:=ob.aG st;have nr:=or.aG st;replace og:ai w3 w1.heap.size 26 #[Ez bh,Ex ah nh ch]:=ai.aw st;clear B oa ob or Z H fa la Y M fb lb T X I E fr lr cn co fg lg;clear st;have B:=Bn;clear Bn;have oa:=na;clear na;obtain⟨Z,H,fa,la⟩:=oa.s1;have ob:=nb;clear nb;obtain⟨Y,M,fb,lb⟩:=ob.s1;have or:=nr;clear nr;obtain⟨T,X,I,E,fr,lr⟩:=or.s3;obtain⟨cn,co,fg,lg⟩:=og.s1;clear d1;have cN:=E6 ((NH.out.aN cy).ae dx);clear NH cy
 rotate_left
 focus
  have e:=E' hs;rw[e]at gc d2|-;have HG:rg x y=yv x y:=E9 hs;rw[HG]at d1 d2;clear hs e HG fg hy
  go_enter Tryz.func138,Tryz.ntmps138
  go_wp2_with fail
  refine(gc _ zh).mono ?_;rintro e w1 ⟨vg,rfl,hg,fg,st⟩;have Bn:=bA w st;have oa:ai w1 w.heap.size 26 #[Ez gx,Ex aa n ca]:=ai.aw st;have ob:ai w1 (w.heap.size+1) 26 #[Ez false,Ex ab m cb]:=ai.aw st;have or:ai w1 (w.heap.size+1+1) 28 jp:=ai.aw st;clear st;have B:=Bn;clear Bn;obtain⟨Z,H,fa,la⟩:=oa.s1;obtain⟨Y,M,fb,lb⟩:=ob.s1;obtain⟨T,X,I,E,fr,lr⟩:=or.s3;clear gc fg;obtain⟨bg,ag,cU,cg,rfl⟩:=hg.ak;have NG:=E6 hg;clear hg;have z1:w.heap.size+1+1<w1.heap.size:=or.lt;go_wp2_with fail
  refine(d1 _ _ zh (NG.out.aK _)).mono ?_;rintro e w3 ⟨vp,vr,rfl,hp,hr,cx⟩;have st:zf _ w3:=cx;have Bn:=bA w st;have na:=oa.aG st;have nb:=ob.aG st;have nr:=or.aG st;have og:ai w3 w1.heap.size 26 #[Ez bg,Ex ag cU cg]:=ai.aw st;clear B oa ob or Z H fa la Y M fb lb T X I E fr lr;clear st;have B:=Bn;clear Bn;have oa:=na;clear na;obtain⟨Z,H,fa,la⟩:=oa.s1;have ob:=nb;clear nb;obtain⟨Y,M,fb,lb⟩:=ob.s1;have or:=nr;clear nr;obtain⟨T,X,I,E,fr,lr⟩:=or.s3;obtain⟨cn,co,fg,lg⟩:=og.s1;clear d1;have cN:=E6 ((NG.out.aK _).ae cx);clear NG
 rotate_left
 all_goals
  obtain⟨dk,ap,np,cp,rfl⟩:=hp.ak;have NP:=E6 hp;clear hp;obtain⟨br,ar,dl,cr,rfl⟩:=hr.ak;clear hr;have z2:w1.heap.size<w3.heap.size:=og.lt;go_wp2_with fail
  refine(d2 _ _ zh ((cN.out.aK _).aK _)).mono ?_;rintro e w4 ⟨vq,vt,rfl,hq,ht,d9⟩;have st:zf _ w4:=d9;have Bn:=bA w st;have na:=oa.aG st;have nb:=ob.aG st;have nr:=or.aG st;have ng:=og.aG st;have op:ai w4 w3.heap.size 26 #[Ez dk,Ex ap np cp]:=ai.aw st;have os:ai w4 (w3.heap.size+1) 26 #[Ez br,Ex ar dl cr]:=ai.aw st;clear B oa ob or og Z H fa la Y M fb lb T X I E fr lr cn co fg lg;clear st;have B:=Bn;clear Bn;have oa:=na;clear na;obtain⟨Z,H,fa,la⟩:=oa.s1;have ob:=nb;clear nb;obtain⟨Y,M,fb,lb⟩:=ob.s1;have or:=nr;clear nr;obtain⟨T,X,I,E,fr,lr⟩:=or.s3;have og:=ng;clear ng;obtain⟨cn,co,fg,lg⟩:=og.s1;obtain⟨ek,dP,fp,lp⟩:=op.s1;obtain⟨ed,em,fs,ls⟩:=os.s1;clear d2;have dz:=E6 (((NP.out.aK (.cells #[Ez dk,Ex ap np cp] 26)).aK (.cells #[Ez br,Ex ar dl cr] 26)).ae d9);clear NP cN;obtain⟨bq,aq,nq,cq,rfl⟩:=hq.ak;have NQ:=E6 hq;clear hq;obtain⟨bt,er,ey,ct,rfl⟩:=ht.ak;clear ht;dsimp only; repeat' (first | go_values | go_skip | go_guarded | go_step | go_upon)
  refine En (by simp[results,Tryz.results138,go_sem,Z,H,fa,la,Y,M,fb,lb,T,X,I,E,fr,lr,cn,co,fg,lg,ek,dP,fp,lp,ed,em,fs,ls]; rfl) rfl ?_;refine⟨_,rfl,?_,zh⟩;have HM:=MK.out;exact(((bU.mk' dz.out NQ.out HM.1 HM.2.1 HM.2.2.1 HM.2.2.2).only or rfl ((bK.refl _ _).set.set.set.set)).aK _).aK _
theorem Bl (w:Ee) (ha:az w va x) (hb:az w vb y) (fx:fits x) (fy:fits y) (hy:y≠0) :
  Ed Ec 103 #[va,vb] w fun e w'=>∃v,e = Eh (Ev #[v,Ey Ew 0])/\bU w' v (Yg x y) (ZH x y)/\zf w w':=by
 have ah:∀w',zf w w'->Ed Ec 124 #[va] w' fun e w2=>e = Eh (Ey Ew 0)/\zf w' w2:=fun w' h=>by
  obtain⟨sa,rfl,la⟩:=ha;have:=je (decide (x<0)) w' (la.ae h);rw[show yZ (zS (decide (x<0)) (zp (zi x)))=0 from E8 (xD fx)]at this;exact this
 have bg:∀w',zf w w'->Ed Ec 124 #[vb] w' fun e w2=>e = Eh (Ey Ew 0)/\zf w' w2:=fun w' h=>by
  obtain⟨sb,rfl,lb⟩:=hb;have:=je (decide (y<0)) w' (lb.ae h);rw[show yZ (zS (decide (y<0)) (zp (zi y)))=0 from E8 (xD fy)]at this;exact this
 have rd:=fun(w':Ee) (h:zf w w')=>Zg w' (ha.ae h) (hb.ae h) fx fy hy;have y0:0<(zp (zi y)).length:=List.length_pos_iff.2 (fun e=>by have:=(zY (zA y)).1 e; unfold zi at this; omega);obtain⟨aa,ca,rfl,-⟩:=ha.parts;obtain⟨ab,cb,rfl,-⟩:=hb.parts;obtain⟨n,hn⟩:∃n,(zp (zi x)).length=n:=⟨_,rfl⟩;obtain⟨m,hm⟩:∃m,(zp (zi y)).length=m:=⟨_,rfl⟩;rw[hn]at ah rd|-;rw[hm]at bg rd y0|-;obtain⟨gx,bh⟩:∃b,decide (x<0)=b:=⟨_,rfl⟩;obtain⟨gy,br⟩:∃b,decide (y<0)=b:=⟨_,rfl⟩;rw[bh]at ah rd|-;rw[br]at bg rd|-;clear ha hb hn hm bh br fx fy hy
 go_enter Tryz.func103,Tryz.ntmps103
 go_wp2_with fail
 refine(ah _ zh).mono ?_;rintro e w1 ⟨rfl,st⟩;have Bn:=bA w st;have oa:ai w1 w.heap.size 26 #[Ez gx,Ex aa n ca]:=ai.aw st;have ob:ai w1 (w.heap.size+1) 26 #[Ez gy,Ex ab m cb]:=ai.aw st;have or:ai w1 (w.heap.size+1+1) 28 jp:=ai.aw st;clear st;have B:=Bn;clear Bn;obtain⟨Z,M,fa,la⟩:=oa.s1;obtain⟨X,I,fb,lb⟩:=ob.s1;obtain⟨Y,T,E,H,fr,lr⟩:=or.s3;clear ah;go_wp2_with fail
 refine(bg _ B).mono ?_;rintro e w2 ⟨rfl,st⟩;have Bn:=bA w st;have na:=oa.aG st;have nb:=ob.aG st;have nr:=or.aG st;clear B oa ob or Z M fa la X I fb lb Y T E H fr lr;clear st;have B:=Bn;clear Bn;have oa:=na;clear na;obtain⟨Z,M,fa,la⟩:=oa.s1;have ob:=nb;clear nb;obtain⟨X,I,fb,lb⟩:=ob.s1;have or:=nr;clear nr;obtain⟨Y,T,E,H,fr,lr⟩:=or.s3;clear bg;go_wp2_with fail
 refine(rd _ B).mono ?_;rintro e w3 ⟨v3,rfl,hf,st⟩;have Bn:=bA w st;have na:=oa.aG st;have nb:=ob.aG st;have nr:=or.aG st;clear B oa ob or Z M fa la X I fb lb Y T E H fr lr;clear st;have B:=Bn;clear Bn;have oa:=na;clear na;obtain⟨Z,M,fa,la⟩:=oa.s1;have ob:=nb;clear nb;obtain⟨X,I,fb,lb⟩:=ob.s1;have or:=nr;clear nr;obtain⟨Y,T,E,H,fr,lr⟩:=or.s3;clear rd;obtain⟨k1,k2,k3,k4,k5,k6,k7,k8,rfl⟩:=hf.ak;have HF:=E6 hf;clear hf
 go_wp2
 refine En (by simp[results,Tryz.results103,go_sem,Z,M,fa,la,X,I,fb,lb,Y,T,E,H,fr,lr]; rfl) rfl ?_;exact⟨_,rfl,HF.out.only or rfl ((bK.refl _ _).set.set.set.set),zh⟩
theorem Dp (x y:Int) (w:Ee) (x0 : -9223372036854775808<=x) (x1:x<=9223372036854775807) (y0 : -9223372036854775808<=y) (y1:y<=9223372036854775807) (hy:y≠0) :
  Ed Ec 69 #[Ey Ew x,Ey Ew y] w fun e w'=>∃v,e = Eh (Ev #[v,Ey Ew 0])/\bU w' v (Yg x y) (ZH x y)/\zf w w':=by
 have fx:fits x:=xZ (by unfold zi; omega);have fy:fits y:=xZ (by unfold zi; omega)
 go_enter Tryz.func69,Tryz.ntmps69
 go_wp2_with fail
 refine(Xl x _ x0 x1).mono ?_;rintro e w1 ⟨va,rfl,na,st⟩;have T:=bA w st;have or:ai w1 w.heap.size 28 jp:=ai.aw st;clear st;have B:=T;clear T;obtain⟨M,I,E,H,fr,Z⟩:=or.s3;go_wp2_with fail
 refine(Xl y _ y0 y1).mono ?_;rintro e w2 ⟨vb,rfl,nb,ah⟩;have st:zf _ w2:=ah;have T:=bA w st;have Y:=or.aG st;clear B or M I E H fr Z;clear st;have B:=T;clear T;have or:=Y;clear Y;obtain⟨M,I,E,H,fr,Z⟩:=or.s3;have X:=na.ae ah;clear na;go_wp2_with fail
 refine(Bl _ X nb fx fy hy).mono ?_;rintro e w3 ⟨v3,rfl,hf,st⟩;have T:=bA w st;have Y:=or.aG st;clear B or M I E H fr Z;clear st;have B:=T;clear T;have or:=Y;clear Y;obtain⟨M,I,E,H,fr,Z⟩:=or.s3;clear X nb;obtain⟨k1,k2,k3,k4,k5,k6,k7,k8,rfl⟩:=hf.ak;have HF:=E6 hf;clear hf
 go_wp2
 refine En (by simp[results,Tryz.results69,go_sem,M,I,E,H,fr,Z]; rfl) rfl ?_;exact⟨_,rfl,HF.out.only or rfl ((bK.refl _ _).set.set.set.set),zh⟩
end Go.Proofs.YtffmbepfbienaaaGreat
/- Fractions in memory as rational numbers; their sizes. -/
namespace Go.Proofs.YtffmbepfbienaaaGreat
open Go.RowKit
variable {p q x y:Int} {i j k:Nat} {r s:Rat} {v:Ef} {w w':Ee}
def z8 (r s:Rat):Int:=if r=s then 0 else if r<s then -1 else 1
theorem KO (r:Rat):yv r.num r.den=1:=by
 have h:=r.reduced;unfold yv Int.gcd;rw[Int.natAbs_natCast];have E:Nat.gcd r.num.natAbs r.den=1:=h;rw[E];rfl
theorem qR (r:Rat):(0:Int)<r.den:=by have:=r.den_nz; omega
theorem G8 (q0:0<q) (hg:yv p q=1):∃r:Rat,r.num=p/\(r.den:Int)=q:=by
 refine⟨⟨p,q.toNat,by omega,?_⟩,rfl,?_⟩
 .
  unfold yv Int.gcd at hg;have e:q.natAbs=q.toNat:=D5
  rw[e]at hg
  show Nat.gcd p.natAbs q.toNat=1
  omega
 .
  show ((q.toNat:Nat):Int)=q
  omega
theorem Zh (r s:Rat):zL (r.num*s.den) (s.num*r.den)=z8 r s:=by
 unfold zL z8
 by_cases h:r=s
 . rw[E8 h,E8 (Rat.eq_iff_mul_eq_mul.1 h)]
 .
  rw[E9 h,E9 (fun e=>h (Rat.eq_iff_mul_eq_mul.2 e))]
  by_cases h2:r<s
  . rw[E8 h2,E8 ((Rat.lt_iff r s).1 h2)]
  . rw[E9 h2,E9 (fun e=>h2 ((Rat.lt_iff r s).2 e))]
theorem aU : z8 r s<0↔r<s:=by
 rw[<- Zh,Ul,Rat.lt_iff]
theorem qL : 0<z8 r s↔s<r:=by
 rw[<- Zh,Um,Rat.lt_iff]
theorem Yi : z8 r s=0↔r=s:=by
 unfold z8
 by_cases h:r=s
 . simp[h]
 .
  rw[E9 h]
  constructor
  . intro e; split at e<;>omega
  . intro e; exact absurd e h
theorem vJ (r s:Rat):(z8 r s=0/\r=s)\/(z8 r s = -1/\r<s)\/(z8 r s=1/\s<r):=by
 unfold z8
 by_cases h:r=s
 . left; exact⟨E8 h,h⟩
 .
  rw[E9 h]
  by_cases h2:r<s
  . right; left; exact⟨E8 h2,h2⟩
  .
   right; right
   refine⟨E9 h2,?_⟩
   rcases Rat.le_iff_lt_or_eq.1 (Rat.not_lt.1 h2)with g | g
   . exact g
   . exact absurd g.symm h
theorem QQ (x y:Int):(x:Rat) / (y:Rat)=Rat.divInt x y:=(Rat.divInt_eq_div x y).symm
theorem UG (E:y≠0):((x:Rat) / (y:Rat)).num*y=x*(((x:Rat) / (y:Rat)).den:Int):=by
 have h:=Rat.num_divInt_den ((x:Rat) / (y:Rat))
 conv at h=>rhs; rw[QQ]
 exact(Rat.divInt_eq_divInt_iff (by have:=qR ((x:Rat) / (y:Rat)); omega) E).1 h
theorem XZ (E:y≠0):Yg x y=((x:Rat) / (y:Rat)).num/\ZH x y=(((x:Rat) / (y:Rat)).den:Int):=
 VM E (qR _) (KO _) (UG E)
def sz (r:Rat) (k:Nat):Prop:=zi r.num<=bp k/\(r.den:Int)<=bp k
theorem sz.mono (h:sz r i) (E:i<=j):sz r j:=⟨Int.le_trans h.1 (kO E),Int.le_trans h.2 (kO E)⟩
theorem xW (H:y≠0) (I:zi x<=bp k) (E:zi y<=bp k):sz ((x:Rat) / (y:Rat)) k:=by
 have h:=JY (x:=x) H;rw[(XZ H).1,(XZ H).2]at h;refine⟨Int.le_trans h.1 I,?_⟩;have:=h.2.1;rw[jg (by have:=qR ((x:Rat) / (y:Rat)); omega)]at this;exact Int.le_trans this E
theorem UH (x y:Int):zi (x*y)=zi x*zi y:=by unfold zi; rw[Int.natAbs_mul]; simp
theorem yj (E:zi x<=bp i) (H:zi y<=bp j):zi (x*y)<=bp (i+j):=by
 rw[UH,JE];exact Int.mul_le_mul E H (zA y) (by have:=xY i; omega)
theorem xr (I:zi x<=bp i) (M:zi y<=bp i):zi (x+y)<=bp (i+1):=by
 have h:=xB i;have E:=xY i;have H:zi (x+y)<=zi x+zi y:=by unfold zi; omega
 omega
theorem jO (x:Int):zi (-x)=zi x:=by unfold zi; omega
theorem xv (r:Rat):zi (r.den:Int)=r.den:=jg (by have:=qR r; omega)
theorem z9 {z:Int} (h:zi z<=bp k) (E:k<=4095):fits z:=by
 unfold fits;refine(jT (zA z) 4096).2 ?_;have H:=kO E;have M:bp 4096=4294967296*bp 4095:=xB 4095;have I:=xY 4095;omega
theorem yR (r:Rat):((r.den:Int):Rat)=(r.den:Rat):=Rat.intCast_natCast _
theorem jZ (r:Rat):(r.den:Rat)≠0:=fun h=>r.den_nz (Rat.natCast_eq_zero_iff.1 h)
theorem UI (r:Rat):r=(r.num:Rat) / ((r.den:Int):Rat):=by rw[QQ,Rat.num_divInt_den]
theorem kE (r:Rat):(r.num:Rat)=r*(r.den:Rat):=by
 have:=UI r;rw[yR]at this;have h:=Rat.div_mul_cancel (a:=(r.num:Rat)) (jZ r);rw[<- this]at h;exact h.symm
theorem qF {x y z:Rat} (E:y≠0) (h:x=z*y):x / y=z:=by rw[h]; exact Rat.mul_div_cancel E
theorem YE (r s:Rat):((r.num*s.num:Int):Rat) / ((r.den*s.den:Int):Rat)=r*s:=by
 refine qF ?_ ?_
 .
  rw[Rat.intCast_mul,yR,yR];intro h
  rcases Rat.mul_eq_zero.1 h with h | h
  . exact jZ r h
  . exact jZ s h
 .
  rw[Rat.intCast_mul,Rat.intCast_mul,yR,yR,kE r,kE s]
  grind
theorem YF (r s:Rat):((r.num*s.den+s.num*r.den:Int):Rat) / ((r.den*s.den:Int):Rat)=r+s:=by
 refine qF ?_ ?_
 .
  rw[Rat.intCast_mul,yR,yR];intro h
  rcases Rat.mul_eq_zero.1 h with h | h
  . exact jZ r h
  . exact jZ s h
 .
  rw[Rat.intCast_add,Rat.intCast_mul,Rat.intCast_mul,Rat.intCast_mul,yR,yR,kE r,kE s]
  grind
theorem YG (r s:Rat):((r.num*s.den-s.num*r.den:Int):Rat) / ((r.den*s.den:Int):Rat)=r-s:=by
 refine qF ?_ ?_
 .
  rw[Rat.intCast_mul,yR,yR];intro h
  rcases Rat.mul_eq_zero.1 h with h | h
  . exact jZ r h
  . exact jZ s h
 .
  rw[Rat.intCast_sub,Rat.intCast_mul,Rat.intCast_mul,Rat.intCast_mul,yR,yR,kE r,kE s]
  grind
theorem JZ (h:s≠0):s.num≠0:=fun e=>h (Rat.num_eq_zero.1 e)
theorem YH (r:Rat) {s:Rat} (H:s≠0):((r.num*s.den:Int):Rat) / ((r.den*s.num:Int):Rat)=r / s:=by
 have M:=kE r;have E:=kE s;have T:=jZ r;have X:=jZ s;refine qF ?_ ?_
 .
  rw[Rat.intCast_mul,yR,E];intro h
  rcases Rat.mul_eq_zero.1 h with h | h
  . exact T h
  .
   rcases Rat.mul_eq_zero.1 h with h | h
   . exact H h
   . exact X h
 .
  rw[Rat.intCast_mul,Rat.intCast_mul,yR,yR,M,E];have e:=Rat.div_mul_cancel (a:=r) H;have I:r / s*(↑r.den*(s*↑s.den))=(r / s*s)*(↑r.den*↑s.den):=by grind
  rw[I,e]
  grind
theorem qM (r s:Rat):(r.den*s.den:Int)≠0:=by
 have:=Int.mul_pos (qR r) (qR s);omega
theorem sz.mul (E:sz r i) (H:sz s j):sz (r*s) (i+j):=by
 rw[<- YE];exact xW (qM r s) (yj E.1 H.1) (yj (by rw[xv]; exact E.2) (by rw[xv]; exact H.2))
theorem qS (I:sz r i) (T:sz s j):zi (r.num*s.den)<=bp (i+j)/\zi (s.num*r.den)<=bp (i+j)/\zi (r.den*s.den:Int)<=bp (i+j):=by
 have H:zi (r.den:Int)<=bp i:=by rw[xv]; exact I.2
 have M:zi (s.den:Int)<=bp j:=by rw[xv]; exact T.2
 have E:=yj T.1 H;rw[Nat.add_comm]at E;exact⟨yj I.1 M,E,yj H M⟩
theorem sz.add (I:sz r i) (M:sz s j):sz (r+s) (i+j+1):=by
 obtain⟨H,E,T⟩:=qS I M;rw[<- YF];exact xW (qM r s) (xr H E) (Int.le_trans T (kO D5))
theorem sz.sub (I:sz r i) (M:sz s j):sz (r-s) (i+j+1):=by
 obtain⟨H,E,T⟩:=qS I M;rw[<- YG,Int.sub_eq_add_neg];exact xW (qM r s) (xr H (by rw[jO]; exact E)) (Int.le_trans T (kO D5))
theorem sz.neg (E:sz r i):sz (-r) i:=⟨by rw[Rat.neg_num,jO]; exact E.1,E.2⟩
theorem Zi (r:Rat) {s:Rat} (E:s≠0):(r.den*s.num:Int)≠0:=by
 intro h
 rcases Int.mul_eq_zero.1 h with h | h
 . have:=qR r; omega
 . exact JZ E h
theorem sz.div (E:sz r i) (H:sz s j) (s0:s≠0):sz (r / s) (i+j):=by
 rw[<- YH r s0];exact xW (Zi r s0) (yj E.1 (by rw[xv]; exact H.2)) (yj (by rw[xv]; exact E.2) H.1)
theorem G9 (h:zi x<=bp k):sz (x:Rat) k:=⟨h,by have:=xY k; simpa using this⟩
theorem sz.fits (h:sz r k) (E:k<=4095):Go.Proofs.YtffmbepfbienaaaGreat.fits r.num/\Go.Proofs.YtffmbepfbienaaaGreat.fits (r.den:Int):=⟨z9 h.1 E,z9 (by rw[xv]; exact h.2) E⟩
def FR (w:Ee) (v:Ef) (r:Rat):Prop:=bU w v r.num r.den
theorem FR.ae (h:FR w v r) (E:zf w w'):FR w' v r:=bU.ae h E
theorem bU.fr (h:bU w v p q):∃r:Rat,r.num=p/\(r.den:Int)=q/\FR w v r:=by
 have I:=h;obtain⟨_,_,_,_,_,q0,hg,_,_⟩:=I;obtain⟨r,H,E⟩:=G8 q0 hg;refine⟨r,H,E,?_⟩;unfold FR;rw[H,E];exact h
theorem FR.dK (E:y≠0) (h:bU w v (Yg x y) (ZH x y)):FR w v ((x:Rat) / (y:Rat)):=by
 unfold FR;rw[<- (XZ E).1,<- (XZ E).2];exact h
theorem FR.only {q:Rat} {r:Nat} {t:Ei} {cs:Array Ef} (h:FR w v q) (H:ai w r t cs) (I:zU cs=true) (E:bK r w w'):FR w' v q:=bU.only h H I E
theorem FR.aK {q:Rat} (h:FR w v q) (o:Obj):FR (w.alloc o) v q:=bU.aK h o
end Go.Proofs.YtffmbepfbienaaaGreat
/- What reads as zp goes on to do so: 'Keeps'; drawn regions whose calls yield numbers and fractions. -/
namespace Go.Proofs.YtffmbepfbienaaaGreat
open Go.RowKit
variable {cs:Array Ef} {e z:Int} {p:List Int->Prop} {g i i0 i1 r:Nat} {t:Ei} {a c d u u0 u1 v x:Ef} {W W2:Ee}
theorem ai.four {w:Ee} {b y z:Ef} (h:ai w g t #[a,b,c,d]) :
  ai ((((w.setCell ⟨g,0,none⟩ x).setCell ⟨g,1,none⟩ y).setCell ⟨g,2,none⟩ z).setCell ⟨g,3,none⟩ u) g t #[x,y,z,u]:=(((h.bL 0 x).bL 1 y).bL 2 z).bL 3 u
theorem ai.fH {w:Ee} {b:Ef} (h:ai w g t #[a,b,c,d]):ai (w.setCell ⟨g,0,none⟩ x) g t #[x,b,c,d]:=h.bL 0 x
theorem zw {w:World} (h:ai w g t cs:=by (repeat' first | with_reducible assumption | (with_reducible refine ai.bO ?_; first | with_reducible rfl | (simp only[World.size_alloc,World.size_setCell,World.size_drew]; done)) | with_reducible refine ai.alloc ?_ _ | with_reducible refine ai.drew ?_ | with_reducible refine ai.drewN ?_ _ | with_reducible apply ai.both | with_reducible apply ai.four | with_reducible apply ai.fH | with_reducible refine ai.aH ?_ ?_ | (show _≠_; omega))):ai w g t cs:=h
theorem ai.au {w w':World} (st:zf w w') (h:ai w g t cs:=by (repeat' first | with_reducible assumption | (with_reducible refine ai.bO ?_; first | with_reducible rfl | (simp only[World.size_alloc,World.size_setCell,World.size_drew]; done)) | with_reducible refine ai.alloc ?_ _ | with_reducible refine ai.drew ?_ | with_reducible refine ai.drewN ?_ _ | with_reducible apply ai.both | with_reducible apply ai.four | with_reducible apply ai.fH | with_reducible refine ai.aH ?_ ?_ | (show _≠_; omega))):ai w' g t cs:=h.ae st
theorem ai.dm {w0 w w':World} (E:ai w0 g t cs) (st:zf w w') (h:ai w g t cs:=by (repeat' first | with_reducible assumption | (with_reducible refine ai.bO ?_; first | with_reducible rfl | (simp only[World.size_alloc,World.size_setCell,World.size_drew]; done)) | with_reducible refine ai.alloc ?_ _ | with_reducible refine ai.drew ?_ | with_reducible refine ai.drewN ?_ _ | with_reducible apply ai.both | with_reducible apply ai.four | with_reducible apply ai.fH | with_reducible refine ai.aH ?_ ?_ | (show _≠_; omega))):ai w' g t cs:=h.ae st
def av (w w':Ee):Prop:=∀v l,aA w v l->aA w' v l
section
variable {w w' aY:Ee}
theorem av.refl (w:Ee):av w w:=fun _ _ h=>h
theorem av.trans (h:av w w') (E:av w' aY):av w aY:=fun v l x=>E v l (h v l x)
theorem av.ae (h:zf w w'):av w w':=fun _ _ x=>x.ae h
theorem av.aJ (h:av w w') (E:zf w' aY):av w aY:=h.trans (av.ae E)
theorem av.alloc (h:av w w') (o:Obj):av w (w'.alloc o):=h.aJ ((Below.refl _ _).alloc (Eo _) _)
theorem av.drew (h:av w w'):av w w'.drew:=fun v l x=>h v l x
theorem av.drewN (h:av w w') (n:Nat):av w (w'.drewN n):=fun v l x=>h v l x
def cT (w:Ee) (r:Nat):Prop:=∃t cs,ai w r t cs/\zU cs=true
def qG (v:Ef):Bool:=match v with | Ey .u32 _=>false | _=>true
theorem jr (h:zU cs=true) (H:qG u=true):zU (cs.setIfInBounds i u)=true:=by
 unfold zU at *;rw[List.all_eq_true]at *;intro x E;rw[Array.toList_setIfInBounds]at E
 rcases List.mem_or_eq_of_mem_set E with g | g
 . exact h x g
 . subst g; exact H
theorem cT.of (h:ai w r t cs) (E:zU cs=true):cT w r:=⟨t,cs,h,E⟩
theorem cT.alloc (h:cT w r) (o:Obj):cT (w.alloc o) r:=by obtain⟨t,cs,h,e⟩:=h; exact⟨t,cs,h.alloc o,e⟩
theorem cT.drew (h:cT w r):cT w.drew r:=by obtain⟨t,cs,h,e⟩:=h; exact⟨t,cs,h.drew,e⟩
theorem cT.drewN (h:cT w r) (n:Nat):cT (w.drewN n) r:=by obtain⟨t,cs,h,e⟩:=h; exact⟨t,cs,h.drewN n,e⟩
theorem cT.set {b:Nat} (h:cT w r) (E:qG u=true):cT (w.setCell ⟨b,i,none⟩ u) r:=by
 obtain⟨t,cs,h,e⟩:=h
 by_cases hb:r=b
 . subst hb; exact⟨t,_,h.bL i u,jr e E⟩
 . exact⟨t,cs,h.aH hb,e⟩
theorem cT.new (h:w.heap.size=r) (e:zU cs=true):cT (w.alloc (.cells cs t)) r:=⟨t,cs,ai.bO h,e⟩
theorem cT.ae (h:cT w r) (st:zf w w'):cT w' r:=by obtain⟨t,cs,h,e⟩:=h; exact⟨t,cs,h.ae st,e⟩
theorem av.set (h:av w w') (H:cT w' r):av w (w'.setCell ⟨r,i,none⟩ u):=by
 obtain⟨t,cs,E,e⟩:=H;exact fun v l x=>(h v l x).only E e ((bK.refl _ _).set)
theorem av.only (H:ai w r t cs) (I:zU cs=true) (E:bK r w w'):av w w':=fun _ _ x=>x.only H I E
theorem az.af (h:az w v z) (k:av w w'):az w' v z:=by
 obtain⟨s,e,E⟩:=h;exact⟨s,e,k _ _ E⟩
theorem bU.af {p q:Int} (h:bU w v p q) (k:av w w'):bU w' v p q:=by
 obtain⟨E,M,e,I,H,h⟩:=h;exact⟨E,M,e,k _ _ I,k _ _ H,h⟩
theorem FR.af {r:Rat} (h:FR w v r) (k:av w w'):FR w' v r:=bU.af h k
theorem aA.af {l:List Int} (h:aA w v l) (k:av w w'):aA w' v l:=k _ _ h
theorem FR.ak {r:Rat} (h:FR w v r):∃a s n c b t m d,v = Ej #[Ez a,Ex s n c,Ez b,Ex t m d]:=bU.ak h
theorem FR.bW {r:Rat} (h:FR w v r):∃H T I E Y M,v = Ej #[Ez (decide (r<0)),Ex H T I,Ez false,Ex E Y M]/\az w (Ej #[Ez (decide (r<0)),Ex H T I]) r.num/\az w (Ej #[Ez false,Ex E Y M]) (r.den:Int)/\(T=0↔r=0):=by
 have h2:=h;obtain⟨sp,sq,rfl,lp,Z,q0,hg,fp,fq⟩:=h;obtain⟨H,I,e1⟩:=lp.ak;obtain⟨E,M,X⟩:=Z.ak
 have e3:decide (r<0)=decide (r.num<0):=by
  have:r<0↔r.num<0:=by
   rw[<- Rat.not_le,<- Rat.num_nonneg]; omega
  simp[this]
 refine⟨H,(zp (zi r.num)).length,I,E,(zp (r.den:Int)).length,M,by rw[e1,X,e3],⟨_,by rw[e3],by rw[<- e1]; exact lp⟩,⟨_,by rw[E' (by omega:¬(r.den:Int)<0)],by rw[jg D5,<- X]; exact Z⟩,?_⟩;rw[List.length_eq_zero_iff,zY (zA _),<- Rat.num_eq_zero];unfold zi; omega
theorem FR.fit {r:Rat} (h:FR w v r):fits r.num/\fits (r.den:Int):=by
 obtain⟨_,_,_,_,_,q0,_,E,H⟩:=h;exact⟨E,H⟩
end
theorem zj {w:World} (h:av w W:=by (repeat' first | with_reducible assumption | with_reducible exact av.refl _ | with_reducible refine av.alloc ?_ _ | with_reducible refine av.drew ?_ | with_reducible refine av.drewN ?_ _ | with_reducible refine av.set ?_ ?_ | ((with_reducible apply cT.of); (with_reducible assumption); exact Eq.refl true) | with_reducible refine cT.alloc ?_ _ | with_reducible refine cT.drew ?_ | with_reducible refine cT.drewN ?_ _ | refine cT.set ?_ (Eq.refl true) | (refine cT.new ?_ (Eq.refl true); first | with_reducible rfl | (simp only[World.size_alloc,World.size_setCell,World.size_drew]; done)))):av w W:=h
def gw:List (Nat×(Ef->Ee->Prop))->Nat->Ef->Ee->Prop
 | [],_,_,_=>True
 | (i,e)::r,k,x,W=>if k=i then e x W else gw r k x W
theorem qT (l:List (Nat×(Ef->Ee->Prop))) (h:∀p∈l,∀x W W',av W W'->p.2 x W->p.2 x W') {k:Nat} {x:Ef} {W W':Ee} (E:av W W') (hg:gw l k x W):gw l k x W':=by
 induction l with
 | nil=>exact hg
 | cons p r ih=>
  obtain⟨i,e⟩:=p;unfold gw at hg|-
  by_cases hi:k=i
  . rw[E8 hi]at hg|-; exact h _ (.head _) x W W' E hg
  . rw[E9 hi]at hg|-; exact ih (fun p H=>h p (.tail _ H)) hg
def ym (x:Ef):Prop:=∃a s n c b t m d,x = Ej #[Ez a,Ex s n c,Ez b,Ex t m d]
def UJ (e:Int) (x:Ef):Prop:=∃a s n c b t m d,x = Ev #[Ej #[Ez a,Ex s n c,Ez b,Ex t m d],Ey Ew e]
def Zj (x:Ef):Prop:=∃a s n c,x = Ej #[Ez a,Ex s n c]
def Zk (e:Int) (x:Ef):Prop:=∃a s n c,x = Ev #[Ej #[Ez a,Ex s n c],Ey Ew e]
def aj.cat (l:List (Array Ef)):Array Ef:=(l.flatMap Array.toList).toArray
def Bm (x:Ef):Prop:=∃s n c,x = Ex s n c
def eo (p:List Int->Prop) (x:Ef) (W:Ee):Prop:=∃l,p l/\aA W x l
theorem eo.af (x:Ef) (W W':Ee) (k:av W W') (h:eo p x W):eo p x W':=by obtain⟨l,E,H⟩:=h; exact⟨l,E,k _ _ H⟩
theorem eo.ak (h:eo p x W):∃s n c,x = Ex s n c:=by obtain⟨l,_,E⟩:=h; obtain⟨s,c,e⟩:=E.ak; exact⟨s,_,c,e⟩
def xI (x:Ef):Prop:=∃g:Nat,x = Ek (some ⟨g,0,none⟩)
def bc (r:Rat) (x:Ef) (W:Ee):Prop:=FR W x r
def cZ (r:Rat) (e:Int) (x:Ef) (W:Ee):Prop:=∃v,x = Ev #[v,Ey Ew e]/\FR W v r
def dH (z:Int) (x:Ef) (W:Ee):Prop:=az W x z
def cz (z e:Int) (x:Ef) (W:Ee):Prop:=∃v,x = Ev #[v,Ey Ew e]/\az W v z
def fF (_:Ef) (_:Ee):Prop:=True
theorem bc.af {r:Rat} (x:Ef) (W W':Ee) (k:av W W') (h:bc r x W):bc r x W':=FR.af h k
theorem cZ.af {r:Rat} (x:Ef) (W W':Ee) (k:av W W') (h:cZ r e x W):cZ r e x W':=by obtain⟨v,E,H⟩:=h; exact⟨v,E,H.af k⟩
theorem dH.af (x:Ef) (W W':Ee) (k:av W W') (h:dH z x W):dH z x W':=az.af h k
theorem cz.af (x:Ef) (W W':Ee) (k:av W W') (h:cz z e x W):cz z e x W':=by obtain⟨v,E,H⟩:=h; exact⟨v,E,H.af k⟩
theorem fF.af (x:Ef) (W W':Ee) (_:av W W') (_:fF x W):fF x W':=trivial
theorem cZ.get {r:Rat} (h:cZ r e (Ev #[v,Ey Ew e]) W):FR W v r:=by
 obtain⟨u,E,H⟩:=h;simp only[Value.tuple.injEq,Array.mk.injEq,List.cons.injEq,and_true]at E;rw[E]; exact H
theorem cz.get (h:cz z e (Ev #[v,Ey Ew e]) W):az W v z:=by
 obtain⟨u,E,H⟩:=h;simp only[Value.tuple.injEq,Array.mk.injEq,List.cons.injEq,and_true]at E;rw[E]; exact H
theorem aj.dI (l:List (Nat×(Value->Prop))) (h:∀p∈l,∃x,p.2 x:=by (repeat' refine List.forall_mem_cons.2 ⟨?_,?_⟩)<;>first | exact⟨_,rfl⟩ | exact⟨_,0,rfl⟩ | exact⟨_,none,0,0,rfl⟩ | exact⟨_,false,none,0,0,rfl⟩ | exact⟨_,false,none,0,0,false,none,0,0,rfl⟩ | (intro p E; cases E)):∀k,∃x,aj.gv l k x:=aj.bj l h
theorem X1 {a:Ee} (h:Below a.heap.size a W) (E:zf W W2):Below a.heap.size a W2:=zt h (Eo _) E
theorem KQ {n:Nat} (h:n<=W.heap.size) (E:zf W W2):n<=W2.heap.size:=Nat.le_trans h E.size
theorem ZB {x n:Nat} (h:Nat.ble (x+1) n=true):∀t,some x=some t->t<n:=by intro t ht; cases ht; exact Eb h
theorem kB (w:World) {W W':World} (st:zf W W') (h:av w W:=by (repeat' first | with_reducible assumption | with_reducible exact av.refl _ | with_reducible refine av.alloc ?_ _ | with_reducible refine av.drew ?_ | with_reducible refine av.drewN ?_ _ | with_reducible refine av.set ?_ ?_ | ((with_reducible apply cT.of); (with_reducible assumption); exact Eq.refl true) | with_reducible refine cT.alloc ?_ _ | with_reducible refine cT.drew ?_ | with_reducible refine cT.drewN ?_ _ | refine cT.set ?_ (Eq.refl true) | (refine cT.new ?_ (Eq.refl true); first | with_reducible rfl | (simp only[World.size_alloc,World.size_setCell,World.size_drew]; done)))):av w W':=av.aJ h st
theorem Dq {n:Nat} (h:Hid (n=W.heap.size)):n<=W.drew.heap.size:=Nat.le_of_eq h.out
/-- cells of one block written -/
structure Wr (r:Nat) (w w':Ee):Prop where
 os:w'.os=w.os
 tape:w'.tape=w.tape
 output:w'.output=w.output
 only:bK r w w'
theorem Wr.refl (r:Nat) (w:Ee):Wr r w w:=⟨rfl,rfl,rfl,bK.refl r w⟩
theorem Wr.set {w w':Ee} (h:Wr r w w'):Wr r w (w'.setCell ⟨r,i,none⟩ u):=⟨h.os,h.tape,h.output,h.only.set⟩
theorem Wr.b {n:Nat} {a w w':Ee} (h:Wr r w w') (j:Below n a w) (H:n<=r:=by omega):Below n a w':=j.trans ⟨h.os,h.tape,h.output,Nat.le_of_eq h.only.1.symm,fun k E=>h.only.2 k D5⟩
theorem Wr.n {n:Nat} {w w':Ee} (h:Wr r w w') (j:n<=w.heap.size):n<=w'.heap.size:=h.only.1▸j
theorem Wr.k {w w':Ee} (h:Wr r w w') (E:ai w r t cs) (H:zU cs=true:=by exact rfl):av w w':=av.only E H h.only
theorem Wr.f {w w':Ee} (h:Wr r w w') (b:ai w g t cs) (E:g≠r:=by omega):ai w' g t cs:=(h.only.2 g E).trans b
theorem ai.st {w:Ee} (h:ai w g t cs):ai (w.setCell ⟨g,i,none⟩ u) g t (cs.setIfInBounds i u):=h.bL i u
theorem aj.fh {P:Program} {ops:Array Oper} {Q:Exit->Act->Ee->Prop} {Z:Nat} {E:Act} {w:Ee} (J:Nat->(Nat->Bool)->(Nat->Ef)->Ee->Prop) (cs:List Nat) (vs:List (Nat×(Ef->Prop))) (gs:List (Nat×(Ef->Ee->Prop))) (ps:List (Nat×List (Nat×Option Tmp))) (qs:List (Nat×List Nat))
  (h:∀I,Hid (I=w.heap.size)->(∀v,J I (fun _=>false) v w.drew)/\(∀D v v' W,(∀j,D j=true->v j=v' j)->J I D v W->J I D v' W)/\
   ∀H X,H=ops->(∀a W,Q .normal a W->X .normal a W)->aj.RC P H X (J I) (aj.inl cs) (aj.gv vs) (gw gs) (fun _=>av) (fun _ _=>False) (aj.pl ps) (aj.pl qs) 0 ops.toList E)
  (hm:P.follows .mixedOrders=true:=by kernel_rfl) (ht:aj.tidy ops E.tmps.size=true:=by kernel_rfl) (M:aj.c_ ops (aj.inl cs) (aj.pl ps) (aj.pl qs)=true:=by kernel_rfl)
  (hv:∀p∈vs,∃x,p.2 x:=by ((repeat' refine List.forall_mem_cons.2 ⟨?_,?_⟩)<;>first | exact⟨_,rfl⟩ | exact⟨_,0,rfl⟩ | exact⟨_,none,0,rfl⟩ | exact⟨_,none,0,0,rfl⟩ | exact⟨_,false,none,0,0,rfl⟩ | exact⟨_,false,none,0,0,false,none,0,0,rfl⟩ | (intro p T; cases T))) (hg:∀p∈gs,∀x W W',av W W'->p.2 x W->p.2 x W':=by ((repeat' refine List.forall_mem_cons.2 ⟨?_,?_⟩)<;>first | exact bc.af | exact cZ.af | exact dH.af | exact cz.af | exact eo.af | (intro p T; cases T))):(Code.region Z ops true).wp P Q E w:=
 aj.bZ J (aj.inl cs) (aj.gv vs) (gw gs) (fun _=>av) (fun _ _=>False) (aj.pl ps) (aj.pl qs) hm ht M (aj.bj vs hv) fun I hn=>let ⟨h1,h2,h3⟩:=h I hn; ⟨h1,h2,fun _ _ _ _ _ _ _ _ _ _ _ Y hx=>qT gs hg Y hx,fun _ _ _ _ h=>h.elim,h3⟩
theorem cD {w:Ee} : Wr r w (World.setCell (World.setCell w ⟨r,i0,none⟩ u0) ⟨r,i1,none⟩ u1):=(Wr.refl r w).set.set
theorem eP {E X M H I T Y:Nat} {u2 u3 u4 u5 u6 u7 u8:Ef} {w:Ee} : Wr r w (World.setCell (World.setCell (World.setCell (World.setCell (World.setCell (World.setCell (World.setCell (World.setCell (World.setCell w ⟨r,i0,none⟩ u0) ⟨r,i1,none⟩ u1) ⟨r,E,none⟩ u2) ⟨r,X,none⟩ u3) ⟨r,M,none⟩ u4) ⟨r,H,none⟩ u5) ⟨r,I,none⟩ u6) ⟨r,T,none⟩ u7) ⟨r,Y,none⟩ u8):=(Wr.refl r w).set.set.set.set.set.set.set.set.set
end Go.Proofs.YtffmbepfbienaaaGreat
/- A drawn region's blocks as data: what each operation does to them is said once, by laws Qo a list of entries. -/
namespace Go.Proofs.YtffmbepfbienaaaGreat
open Go.RowKit
variable {J:(Nat->Bool)->(Nat->Ef)->Ee->Prop} {a':Act} {args c:Array Ef} {js:List Nat} {be:List PanicEntry->Ee->Prop} {l:List Ef} {f:List Ef->Array Ef} {p p':List Ef->Nat->Ef} {G b g i j o0 o1 o2 o3 q0 q1 q2 q3:Nat} {a9:Nat->Bool} {pre:Nat->List (Nat×Option Tmp)} {post:Nat->List Nat} {v':Nat->Ef} {V:Nat->Ef->Prop} {Sx:Nat->Ee->Ee->Prop} {t:Ei} {u x x0 x1 bl bi aX ci ce b9 x2 x3 x4 x5 x6 x7 x8 x9:Ef} {w:Ee}
/-- a block in a drawn region. o: it stands; s: operation i stores f of the values of js into it; n: operation k lays it, operation i stores into it; m: Cp operations store into it, each some cells -/
inductive aE
 | o (b:Nat) (t:Ei) (c:Array Ef)
 | s (b:Nat) (t:Ei) (c:Array Ef) (i:Nat) (js:List Nat) (f:List Ef->Array Ef)
 | n (k:Nat) (t:Ei) (c:Array Ef) (i:Nat) (js:List Nat) (f:List Ef->Array Ef)
 | m (b:Nat) (t:Ei) (c:Array Ef) (i:Nat) (js:List Nat) (f:List Ef->Array Ef->Array Ef) (i':Nat) (js':List Nat) (f':List Ef->Array Ef->Array Ef)
namespace aE
def dG (i:Nat) (js:List Nat) (f:List Ef->Array Ef) (c:Array Ef) (D:Nat->Bool) (v:Nat->Ef):Array Ef:=if D i=true then f (js.map v)else c
def app (i:Nat) (js:List Nat) (f:List Ef->Array Ef->Array Ef) (c:Array Ef) (D:Nat->Bool) (v:Nat->Ef):Array Ef:=if D i=true then f (js.map v) c else c
def B (N:Nat) (D:Nat->Bool) (v:Nat->Ef) (W:Ee):aE->Prop
 | .o b t c=>ai W b t c
 | .s b t c i js f=>ai W b t (dG i js f c D v)
 | .n k t c i js f=>D k=true->∃g:Nat,v k = Ek (some ⟨g,0,none⟩)/\N<=g/\ai W g t (dG i js f c D v)
 | .m b t c i js f i' js' f'=>ai W b t (app i js f (app i' js' f' c D v) D v)/\zU (app i js f (app i' js' f' c D v) D v)=true
def place:aE->Option Nat | .o b _ _=>some b | .s b _ _ _ _ _=>some b | .n .. =>none | .m b .. =>some b
def e_:aE->List (Nat×List Nat) | .o .. => [] | .s _ _ _ i js _=> [(i,js)] | .n _ _ _ i js _=> [(i,js)] | .m _ _ _ i js _ i' js' _=> [(i,js),(i',js')]
def lay:aE->Option Nat | .n k _ _ _ _ _=>some k | _=>none
/-- operation k neither lays nor stores into it -/
def fr (k:Nat):aE->Bool | .o .. =>true | .s _ _ _ i _ _=> !(i==k) | .n a _ _ i _ _=> !(a==k) && !(i==k) | .m _ _ _ i _ _ i' _ _=> !(i==k) && !(i'==k)
def ns (k:Nat):aE->Bool | .o .. =>true | .s _ _ _ i _ _=> !(i==k) | .n _ _ _ i _ _=> !(i==k) | .m _ _ _ i _ _ i' _ _=> !(i==k) && !(i'==k)
def nl (k:Nat):aE->Bool | .n a _ _ _ _ _=> !(a==k) | _=>true
end aE
def Bd (N:Nat) (D:Nat->Bool) (v:Nat->Ef) (W:Ee):List aE->Prop
 | []=>True
 | e::r=>e.B N D v W/\Bd N D v W r
theorem xJ {N:Nat} {D:Nat->Bool} {v:Nat->Ef} {W:Ee} : ∀{L:List aE},Bd N D v W L↔∀x∈L,x.B N D v W
 | []=>⟨fun _ x h=>(by cases h),fun _=>trivial⟩
 | e::r=>by
  rw[List.forall_mem_cons,<- xJ]; rfl
structure SJ (wb w0:Ee) (N:Nat) (L:List aE) (D:Nat->Bool) (v:Nat->Ef) (W:Ee):Prop where
 b:Below wb.heap.size wb W
 k:av w0 W
 n:N<=W.heap.size
 e:Bd N D v W L
 lt:∀x∈L,∀b,x.place=some b->b<N
 src:∀x∈L,∀p∈x.e_,D p.1=true->∀j∈p.2,D j=true
 dis:∀k k',(∃x∈L,x.lay=some k)->(∃x∈L,x.lay=some k')->k≠k'->D k=true->D k'=true->v k≠v k'
 iw:wb.heap.size<=N
theorem J0 {k:Nat} {D:Nat->Bool} {v:Nat->Ef} {y:Ef} (H:i≠k) (E:D k=false) (M:D i=true->∀j∈js,D j=true):aE.dG i js f c (aj.upd D k) (aj.aS v k y)=aE.dG i js f c D v:=by
 have T:aj.upd D k i=D i:=by unfold aj.upd; rw[beq_eq_false_iff_ne.2 H,Bool.false_or]
 unfold aE.dG;rw[T]
 by_cases h:D i=true
 .
  rw[E8 h,E8 h]
  congr 1
  refine List.map_congr_left fun j I=> ?_;unfold aj.aS;rw[E9];rintro rfl;rw[M h _ I]at E; cases E
 . rw[E9 h,E9 h]
theorem X2 {k:Nat} {f:List Ef->Array Ef->Array Ef} {D:Nat->Bool} {v:Nat->Ef} {y:Ef} (H:i≠k) (E:D k=false) (I:D i=true->∀j∈js,D j=true):aE.app i js f c (aj.upd D k) (aj.aS v k y)=aE.app i js f c D v:=J0 (f:=fun l=>f l c) H E I
theorem UK {D:Nat->Bool} {v:Nat->Ef} (H:D i=true->∀j∈js,D j=true) (hv:∀j,D j=true->v j=v' j):aE.dG i js f c D v'=aE.dG i js f c D v:=by
 unfold aE.dG
 by_cases h:D i=true
 .
  rw[E8 h,E8 h]
  congr 1
  exact List.map_congr_left fun j E=>(hv j (H h j E)).symm
 . rw[E9 h,E9 h]
theorem Gx {f:List Ef->Array Ef->Array Ef} {D:Nat->Bool} {v:Nat->Ef} (E:D i=true->∀j∈js,D j=true) (hv:∀j,D j=true->v j=v' j):aE.app i js f c D v'=aE.app i js f c D v:=UK (f:=fun l=>f l c) E hv
theorem qH {D:Nat->Bool} {k:Nat} (h:j≠k):aj.upd D k j=D j:=by unfold aj.upd; rw[beq_eq_false_iff_ne.2 h,Bool.false_or]
theorem kF {D:Nat->Bool} {k:Nat} (h:D j=true):aj.upd D k j=true:=by unfold aj.upd; rw[h,Bool.or_true]
theorem qN {v:Nat->Ef} {k:Nat} {y:Ef} (h:j≠k):aj.aS v k y j=v j:=by unfold aj.aS; rw[E9 h]
theorem X3 {v:Nat->Ef} {k:Nat} {y:Ef} : aj.aS v k y k=y:=by unfold aj.aS; rw[E8 rfl]
theorem YI {D:Nat->Bool} {k:Nat} : aj.upd D k k=true:=by unfold aj.upd; rw[beq_self_eq_true,Bool.true_or]
/-- an entry that operation k does not touch -/
theorem aE.ep {N k:Nat} {D:Nat->Bool} {v:Nat->Ef} {y:Ef} {W W':Ee} {x:aE} (X:x.fr k=true) (H:D k=false) (M:∀p∈x.e_,D p.1=true->∀j∈p.2,D j=true)
  (I:∀g t c,(x.place=some g\/∃a,x.lay=some a/\D a=true/\v a = Ek (some ⟨g,0,none⟩)/\N<=g)->ai W g t c->ai W' g t c) (h:x.B N D v W):x.B N (aj.upd D k) (aj.aS v k y) W':=by
 cases x with
 | o b t c=>exact I _ _ _ (.inl rfl) h
 | s b t c i js f=>
  have E:i≠k:=by simpa[aE.fr]using X
  show ai W' b t _
  rw[J0 E H (M _ (.head _))];exact I _ _ _ (.inl rfl) h
 | m b t c i js f i' js' f'=>
  have E:i≠k/\i'≠k:=by simpa[aE.fr]using X
  show ai W' b t _/\zU _=true
  rw[X2 E.2 H (M _ (.tail _ (.head _))),X2 E.1 H (M _ (.head _))];exact⟨I _ _ _ (.inl rfl) h.1,h.2⟩
 | n a t c i js f=>
  have E:a≠k/\i≠k:=by simpa[aE.fr]using X
  intro T;rw[qH E.1]at T;obtain⟨g,Z,Y,e3⟩:=h T;refine⟨g,by rw[qN E.1]; exact Z,Y,?_⟩;rw[J0 E.2 H (M _ (.head _))];exact I _ _ _ (.inr ⟨a,rfl,T,Z,Y⟩) e3
theorem aE.eh {k:Nat} {x:aE} (h:x.fr k=true):∀p∈x.e_,p.1≠k:=fun p E=>by
 cases x with
 | o b t c=>cases E
 | s b t c i js f=>
           have:i≠k:=by simpa[aE.fr]using h
           rw[List.mem_singleton.1 E]; exact this
 | n a t c i js f=>
           have:a≠k/\i≠k:=by simpa[aE.fr]using h
           rw[List.mem_singleton.1 E]; exact this.2
 | m b t c i js f i' js' f'=>
  have:i≠k/\i'≠k:=by simpa[aE.fr]using h
  rcases List.mem_cons.1 E with rfl | E
  . exact this.1
  . rw[List.mem_singleton.1 E]; exact this.2
section
variable {wb w0:Ee} {N k:Nat} {L L1 L2:List aE} {D:Nat->Bool} {v:Nat->Ef} {y:Ef} {W W':Ee}
theorem SJ.vv (h:SJ wb w0 N L D v W) {v':Nat->Ef} (hv:∀j,D j=true->v j=v' j):SJ wb w0 N L D v' W:=by
 refine⟨h.b,h.k,h.n,xJ.2 fun x E=> ?_,h.lt,h.src,fun k T h1 Z H I X=>by rw[<- hv k I,<- hv T X]; exact h.dis k T h1 Z H I X,h.iw⟩;have:=xJ.1 h.e x E
 cases x with
 | o b t c=>exact this
 | s b t c i js f=>show ai W b t _; rw[UK (h.src _ E _ (.head _)) hv]; exact this
 | m b t c i js f i' js' f'=>show ai W b t _/\zU _=true; rw[Gx (h.src _ E _ (.tail _ (.head _))) hv,Gx (h.src _ E _ (.head _)) hv]; exact this
 | n a t c i js f=>
  intro M;obtain⟨g,e1,Y,e3⟩:=this M;exact⟨g,by rw[<- hv a M]; exact e1,Y,by rw[UK (h.src _ E _ (.head _)) hv]; exact e3⟩
theorem SJ.call (h:SJ wb w0 N L D v W) (hk:D k=false) (I:L.all (aE.fr k)=true) (M:zf W W'):SJ wb w0 N L (aj.upd D k) (aj.aS v k y) W':=by
 rw[List.all_eq_true]at I
 have nl:∀x∈L,∀a,x.lay=some a->a≠k:=fun x E a Y=>by
  have:=I x E
  cases x<;>simp[aE.lay,aE.fr]at Y this
  subst Y; exact this.1
 have T:∀x∈L,∀p∈x.e_,p.1≠k:=fun x E=>aE.eh (I x E);refine⟨zt h.b (Eo _) M,h.k.aJ M,Nat.le_trans h.n M.size,xJ.2 fun x E=>aE.ep (I x E) hk (h.src x E) (fun _ _ _ _ b=>b.ae M) (xJ.1 h.e x E),h.lt,fun x E p hp d=> ?_,fun a a' h1 h2 X d1 d2=> ?_,h.iw⟩
 .
  rw[qH (T x E p hp)]at d;exact fun j hj=>kF (h.src x E p hp d j hj)
 .
  obtain⟨x,E,e1⟩:=h1;obtain⟨Z,H,e2⟩:=h2;have n1:=nl x E a e1;have n2:=nl Z H a' e2;rw[qH n1]at d1;rw[qH n2]at d2;rw[qN n1,qN n2];exact h.dis a a' ⟨x,E,e1⟩ ⟨Z,H,e2⟩ X d1 d2
theorem SJ.alloc (h:SJ wb w0 N L D v W) (hL:L=L1 ++ .n k t c i js f::L2) (hk:D k=false) (hi:D i=false) (X:i≠k) (h1:(L1.all (aE.fr k)&&L2.all (aE.fr k))=true) :
  SJ wb w0 N L (aj.upd D k) (aj.aS v k (Ek (some ⟨W.heap.size,0,none⟩))) (W.alloc (.cells c t)):=by
 rw[Bool.and_eq_true,List.all_eq_true,List.all_eq_true]at h1;have hs:zf W (W.alloc (.cells c t)):=(Below.refl _ _).alloc (Eo _) _
 have Z:∀x∈L,x = .n k t c i js f\/x.fr k=true:=fun x E=>by
  rw[hL,List.mem_append,List.mem_cons]at E
  rcases E with g | g | g
  . exact .inr (h1.1 x g)
  . exact .inl g
  . exact .inr (h1.2 x g)
 have ah:∀x∈L,∀p∈x.e_,p.1≠k:=fun x E p Y=>by
  rcases Z x E with rfl | this
  . rw[List.mem_singleton.1 Y]; exact X
  . exact aE.eh this p Y
 have old:∀x∈L,∀a,x.lay=some a->a≠k->D a=true->∃g,v a = Ek (some ⟨g,0,none⟩)/\g<W.heap.size:=fun x E a ha I d=>by
  have:=xJ.1 h.e x E
  cases x<;>simp[aE.lay]at ha
  subst ha;obtain⟨g,e1,_,M⟩:=this d;exact⟨g,e1,M.lt⟩
 refine⟨zt h.b (Eo _) hs,h.k.aJ hs,Nat.le_trans h.n hs.size,xJ.2 fun x E=> ?_,h.lt,fun x E p Y d=> ?_,fun a a' g1 g2 I d1 d2=> ?_,h.iw⟩
 .
  rcases Z x E with rfl | hf
  .
   intro _;refine⟨W.heap.size,X3,h.n,?_⟩;unfold aE.dG;rw[qH X,hi,E9 Bool.false_ne_true];exact ai.new _ _ _
  . exact aE.ep hf hk (h.src x E) (fun _ _ _ _ b=>b.ae hs) (xJ.1 h.e x E)
 .
  rw[qH (ah x E p Y)]at d;exact fun j hj=>kF (h.src x E p Y d j hj)
 .
  obtain⟨x,E,e1⟩:=g1;obtain⟨x',T,e2⟩:=g2
  by_cases n1:a=k
  .
   subst n1;have H:a'≠a:=fun e=>I e.symm;rw[qH H]at d2;rw[X3,qN H];obtain⟨g,M,e4⟩:=old x' T a' e2 H d2;rw[M]; exact aj.du e4
  .
   rw[qH n1]at d1;rw[qN n1]
   by_cases H:a'=k
   .
    subst H;rw[X3];obtain⟨g,M,e4⟩:=old x E a e1 n1 d1;rw[M]; exact(aj.du e4).symm
   .
    rw[qH H]at d2;rw[qN H];exact h.dis a a' ⟨x,E,e1⟩ ⟨x',T,e2⟩ I d1 d2
/-- a store: e is the entry that operation k stores into, at place G -/
theorem SJ.store {e:aE} (h:SJ wb w0 N L D v W) (hL:L=L1++e::L2) (hk:D k=false) (h1:(L1.all (aE.fr k)&&L2.all (aE.fr k))=true) (X:∀a,e.lay=some a->a≠k)
  (ah:∀p∈e.e_,p.1=k->∀j∈p.2,D j=true) (hG:wb.heap.size<=G) (hb:ai W G t c) (hu:zU c=true)
  (H:∀x,x∈L1\/x∈L2->∀g,(x.place=some g\/∃a,x.lay=some a/\D a=true/\v a = Ek (some ⟨g,0,none⟩)/\N<=g)->g≠G) (hw:Wr G W W') (he:e.B N (aj.upd D k) (aj.aS v k y) W') :
  SJ wb w0 N L (aj.upd D k) (aj.aS v k y) W'/\av W W':=by
 rw[Bool.and_eq_true,List.all_eq_true,List.all_eq_true]at h1;have kp:av W W':=av.only hb hu hw.only
 have I:∀x∈L,x=e\/((x∈L1\/x∈L2)/\x.fr k=true):=fun x E=>by
  rw[hL,List.mem_append,List.mem_cons]at E
  rcases E with g | g | g
  . exact .inr ⟨.inl g,h1.1 x g⟩
  . exact .inl g
  . exact .inr ⟨.inr g,h1.2 x g⟩
 have nl:∀x∈L,∀a,x.lay=some a->a≠k:=fun x E a ha=>by
  rcases I x E with rfl | ⟨_,this⟩
  . exact X a ha
  .
   cases x<;>simp[aE.lay,aE.fr]at ha this
   subst ha; exact this.1
 refine⟨⟨h.b.trans ⟨hw.os,hw.tape,hw.output,Nat.le_of_eq hw.only.1.symm,fun j Y=>hw.only.2 j D5⟩,h.k.trans kp,hw.only.1▸h.n,xJ.2 fun x E=> ?_,h.lt,fun x E p Z d j Y=> ?_,fun a a' g1 g2 H d1 d2=> ?_,h.iw⟩,kp⟩
 .
  rcases I x E with rfl | ⟨hm,hf⟩
  . exact he
  . exact aE.ep hf hk (h.src x E) (fun g _ _ hg b=>hw.f b (H x hm g hg)) (xJ.1 h.e x E)
 .
  rcases I x E with rfl | ⟨_,this⟩
  .
   by_cases M:p.1=k
   . exact kF (ah p Z M j Y)
   .
    rw[qH M]at d;exact kF (h.src x E p Z d j Y)
  .
   rw[qH (aE.eh this p Z)]at d;exact kF (h.src x E p Z d j Y)
 .
  obtain⟨x,E,M⟩:=g1;obtain⟨x',T,e2⟩:=g2;have n1:=nl x E a M;have n2:=nl x' T a' e2;rw[qH n1]at d1;rw[qH n2]at d2;rw[qN n1,qN n2];exact h.dis a a' ⟨x,E,M⟩ ⟨x',T,e2⟩ H d1 d2
end
def Z':List (Nat×Option Tmp)->Nat->Option Tmp
 | [],_=>none
 | (i,t)::r,j=>if i=j then t else Z' r j
def qI (a:Act) (l:List (Nat×Option Tmp)) (js:List Nat):List Ef:=js.map fun j=>aj.at_ a (Z' l j)
def kG (a9:Nat->Bool) (l:List (Nat×Option Tmp)) (js:List Nat):Bool:=js.all fun j=>a9 j&&l.any fun p=>p.1==j
theorem QS : ∀{l:List (Nat×Option Tmp)},(l.any fun p=>p.1==j)=true->(j,Z' l j)∈l
 | [],h=>by cases h
 | (i,t)::r,h=>by
  unfold Z'
  by_cases e:i=j
  . rw[E8 e,e]; exact .head _
  .
   rw[E9 e];rw[List.any_cons,show (i==j)=false from beq_eq_false_iff_ne.2 e,Bool.false_or]at h;exact .tail _ (QS h)
theorem xg {G:Nat->Ef->Ee->Prop} {k:Nat} {a:Act} {D:Nat->Bool} {v:Nat->Ef} {W:Ee} (I:aj.aL a9 G pre k a D v W) (E:kG a9 (pre k) js=true) :
  ∀j∈js,D j=true/\v j=aj.at_ a (Z' (pre k) j):=fun j H=>by
 unfold kG at E;have h:=List.all_eq_true.1 E j H;rw[Bool.and_eq_true]at h;have:=I _ (QS h.2) h.1;exact⟨this.1,this.2.1⟩
theorem jh {v:Nat->Ef} {a:Act} {l:List (Nat×Option Tmp)} (h:∀j∈js,v j=aj.at_ a (Z' l j)):js.map v=qI a l js:=List.map_congr_left h
namespace aj
def v1:List Ef->Array Ef:=fun l=>match l with | [Ej c]=>c | _=>#[]
def vT (i:Nat):List Ef->Array Ef:=fun l=>match l with | [Ev t]=>(match t[i]? with | some (Ej c)=>c | _=>#[]) | _=>#[]
def vx (c:Array Ef):List Ef->Array Ef:=fun _=>c
def vN:List Ef->Array Ef:=fun l=>(l.flatMap fun x=>match x with | Ej c=>c.toList | _=> []).toArray
end aj
def aP (W:Ee):List aE->Prop
 | []=>True
 | .o b t c::r=>ai W b t c/\aP W r
 | .s b t c _ _ _::r=>ai W b t c/\aP W r
 | .m b t c _ _ _ _ _ _::r=>(ai W b t c/\zU c=true)/\aP W r
 | .n .. :: r=>aP W r
theorem aP.mem {W:Ee} : ∀{L:List aE},aP W L->∀x∈L,match x with | .o b t c=>ai W b t c | .s b t c _ _ _=>ai W b t c | .m b t c _ _ _ _ _ _=>ai W b t c/\zU c=true | .n .. =>True
 | [],_,x,h=>by cases h
 | e::r,h,x,hx=>by
  rw[List.mem_cons]at hx
  rcases hx with rfl | hx
  .
   cases x with
   | o b t c=>exact h.1
   | s b t c i js f=>exact h.1
   | m b t c i js f i' js' f'=>exact h.1
   | n k t c i js f=>trivial
  .
   cases e with
   | o b t c=>exact aP.mem h.2 x hx
   | s b t c i js f=>exact aP.mem h.2 x hx
   | m b t c i js f i' js' f'=>exact aP.mem h.2 x hx
   | n k t c i js f=>exact aP.mem (L:=r) h x hx
theorem SJ.start {wb w0 W:Ee} {L:List aE} (E:Below wb.heap.size wb W/\av w0 W/\aP W L) (v:Nat->Ef):SJ wb w0 W.heap.size L (fun _=>false) v W:=by
 refine⟨E.1,E.2.1,Eo _,xJ.2 fun x I=> ?_,fun x I b H=> ?_,fun _ _ _ _ h=>(by cases h),fun _ _ _ _ _ h=>(by cases h),E.1.size⟩
 .
  have:=E.2.2.mem x I
  cases x with
  | o b t c=>exact this
  | s b t c i js f=>exact this
  | m b t c i js f i' js' f'=>exact this
  | n k t c i js f=>intro h; cases h
 .
  have:=E.2.2.mem x I
  cases x with
  | o b' t c=>cases H; exact this.lt
  | s b' t c i js f=>cases H; exact this.lt
  | m b' t c i js f i' js' f'=>cases H; exact this.1.lt
  | n k t c i js f=>cases H
theorem aj.cC {P:Program} {ops:Array Oper} {Q:Exit->Act->Ee->Prop} {id:Nat} {E:Act} (wb w0:Ee) (L:List aE) (cs:List Nat) (vs:List (Nat×(Ef->Prop))) (gs:List (Nat×(Ef->Ee->Prop))) (ps:List (Nat×List (Nat×Option Tmp))) (qs:List (Nat×List Nat))
  (hi:Below wb.heap.size wb w.drew/\av w0 w.drew/\aP w.drew L)
  (h:∀I,Hid (I=w.heap.size)->∀H Z,H=ops->(∀a W,Q .normal a W->Z .normal a W)->aj.RC P H Z (SJ wb w0 I L) (aj.inl cs) (aj.gv vs) (gw gs) (fun _=>av) (fun _ _=>False) (aj.pl ps) (aj.pl qs) 0 ops.toList E)
  (hm:P.follows .mixedOrders=true:=by kernel_rfl) (ht:aj.tidy ops E.tmps.size=true:=by kernel_rfl) (M:aj.c_ ops (aj.inl cs) (aj.pl ps) (aj.pl qs)=true:=by kernel_rfl)
  (hv:∀p∈vs,∃x,p.2 x:=by ((repeat' refine List.forall_mem_cons.2 ⟨?_,?_⟩)<;>first | exact⟨_,rfl⟩ | exact⟨_,0,rfl⟩ | exact⟨_,none,0,rfl⟩ | exact⟨_,none,0,0,rfl⟩ | exact⟨_,false,none,0,0,rfl⟩ | exact⟨_,false,none,0,0,false,none,0,0,rfl⟩ | exact⟨_,false,none,0,0,false,none,0,0,false,none,0,0,false,none,0,0,rfl⟩ | (intro p T; cases T))) (hg:∀p∈gs,∀x W W',av W W'->p.2 x W->p.2 x W':=by ((repeat' refine List.forall_mem_cons.2 ⟨?_,?_⟩)<;>first | exact bc.af | exact cZ.af | exact dH.af | exact cz.af | exact eo.af | (intro p T; cases T))):(Code.region id ops true).wp P Q E w:=
 aj.bZ (SJ wb w0 · L) (aj.inl cs) (aj.gv vs) (gw gs) (fun _=>av) (fun _ _=>False) (aj.pl ps) (aj.pl qs) hm ht M (aj.bj vs hv) fun I Y=>
  ⟨fun v=>by have e:I=w.drew.heap.size:=Y.out; rw[e]; exact SJ.start hi v,fun _ _ _ _ X hj=>hj.vv X,fun _ _ _ _ _ _ _ _ _ _ _ hk hx=>qT gs hg hk hx,fun _ _ _ _ h=>h.elim,h I Y⟩
/-- the region from operation k on -/
abbrev RJ (P:Program) (ops:Array Oper) (Q:Exit->Act->Ee->Prop) (wb w0:Ee) (N:Nat) (L:List aE) (cs:List Nat) (vs:List (Nat×(Ef->Prop))) (gs:List (Nat×(Ef->Ee->Prop))) (ps:List (Nat×List (Nat×Option Tmp))) (qs:List (Nat×List Nat)):Nat->List Oper->Act->Prop:=
 aj.RC P ops Q (SJ wb w0 N L) (aj.inl cs) (aj.gv vs) (gw gs) (fun _=>av) (fun _ _=>False) (aj.pl ps) (aj.pl qs)
theorem Zl {o:Oper} {t:Tmp} (h:o.dst=some t):aj.dv o x=x:=by unfold aj.dv; rw[h]
theorem YJ {o:Oper} {t:Tmp} {a:Act} (h:o.dst=some t) (ht:Nat.ble (t+1) a.tmps.size=true):∀s,o.dst=some s->s<a.tmps.size:=fun s E=>by rw[h]at E; cases E; exact Eb ht
section
variable {P:Program} {ops LL:Array Oper} {Q:Exit->Act->Ee->Prop} {wb w0:Ee} {N:Nat} {L:List aE} {cs:List Nat} {vs:List (Nat×(Ef->Prop))} {gs:List (Nat×(Ef->Ee->Prop))} {ps:List (Nat×List (Nat×Option Tmp))} {qs:List (Nat×List Nat)} {k:Nat} {o:Oper} {rest:List Oper} {a:Act}
theorem aj.sC {f:FuncId} {m:Ef->Ef} {F:Ee->Ef->Prop} {t:Tmp} (hL:ops=LL) (X:∀D v W,SJ wb w0 N L D v W->aj.aL (aj.inl cs) (gw gs) (aj.pl ps) k a D v W->Ed P f args W fun e E=>∃u,e = Eh (m u)/\F E u/\zf W E)
  (hr:∀x,aj.gv vs k x->RJ P ops Q wb w0 N L cs vs gs ps qs (k+1) rest (a.put o.dst x)) (hd:o.dst=some t:=by exact rfl) (ht:Nat.ble (t+1) a.tmps.size=true:=by exact rfl) (hc:aj.inl cs k=true:=by exact rfl) (hw:Region.wanted o (yielded LL a.tmps)=true:=by exact rfl) (hn:L.all (aE.fr k)=true:=by exact rfl)
  (hv:∀W u,F W u->aj.gv vs k (m u):=by (intro W u h; first | exact FR.ak h | exact az.ak h | (obtain⟨a,s,n,c,b,t,m,d,e⟩:=FR.ak h; exact⟨a,s,n,c,b,t,m,d,by rw[e]⟩) | (obtain⟨a,s,n,c,e⟩:=az.ak h; exact⟨a,s,n,c,by rw[e]⟩) | exact eo.ak h)) (hg:∀W u,F W u->gw gs k (m u) W:=by (intro W u h; first | exact h | exact⟨_,rfl,h⟩))
  (h:∀W,(Ed P f args W fun e E=>∃u,e = Eh (m u)/\F E u/\zf W E)->∀K:Act->Ee->Prop,Hid (∀u W2,F W2 u->zf W W2->K (a.put o.dst (m u)) W2)->o.wp P a W K (fun e _ _=>match e with | .panic _=>False | _=>False):=by (intro W X K M; go_step; refine X.mono ?_; rintro e W2 ⟨u,rfl,I,H⟩; exact M.out u W2 I H)):RJ P ops Q wb w0 N L cs vs gs ps qs k (o::rest) a:=
 aj.aC hc (YJ hd ht) (by rw[hL]; exact hw) (fun D v W T Y Z K M=>h W (X D v W Y Z) K (E6 fun u W2 I H=>M.out _ W2 (av.ae H) (Y.call T.1 hn H) (by rw[Zl hd]; exact hg _ _ I) (by rw[Zl hd]; exact hv _ _ I))) hr
theorem aj.sV {f:FuncId} {y':Ef} {t:Tmp} (hL:ops=LL) (X:∀D v W,SJ wb w0 N L D v W->aj.aL (aj.inl cs) (gw gs) (aj.pl ps) k a D v W->Ed P f args W fun e H=>e = Eh y'/\zf W H)
  (hr:RJ P ops Q wb w0 N L cs vs gs ps qs (k+1) rest (a.put o.dst y')) (hd:o.dst=some t:=by exact rfl) (ht:Nat.ble (t+1) a.tmps.size=true:=by exact rfl) (hc:aj.inl cs k=true:=by exact rfl) (hw:Region.wanted o (yielded LL a.tmps)=true:=by exact rfl) (hn:L.all (aE.fr k)=true:=by exact rfl)
  (hv:aj.gv vs k y':=by exact rfl) (T:∀x,aj.gv vs k x->x=y':=by exact fun _ h=>h) (hg:∀u W,gw gs k u W:=by exact fun _ _=>trivial)
  (h:∀W,(Ed P f args W fun e H=>e = Eh y'/\zf W H)->∀K:Act->Ee->Prop,Hid (∀W2,zf W W2->K (a.put o.dst y') W2)->o.wp P a W K (fun e _ _=>match e with | .panic _=>False | _=>False):=by (intro W X K I; go_step; refine X.mono ?_; rintro e W2 ⟨rfl,E⟩; exact I.out W2 E)):RJ P ops Q wb w0 N L cs vs gs ps qs k (o::rest) a:=
 aj.aC hc (YJ hd ht) (by rw[hL]; exact hw) (fun D v W M Y Z K I=>h W (X D v W Y Z) K (E6 fun W2 E=>I.out _ W2 (av.ae E) (Y.call M.1 hn E) (hg _ _) (by rw[Zl hd]; exact hv))) (fun x hx=>T x hx▸hr)
theorem aj.sA {ty:Ei} {c:Array Ef} {i:Nat} {js:List Nat} {f:List Ef->Array Ef} {t:Tmp} (X:ops=LL) (Y:∀x,aj.gv vs k x->RJ P ops Q wb w0 N L cs vs gs ps qs (k+1) rest (a.put o.dst x)) (hd:o.dst=some t:=by exact rfl) (ht:Nat.ble (t+1) a.tmps.size=true:=by exact rfl) (hc:aj.inl cs k=true:=by exact rfl) (hw:Region.wanted o (yielded LL a.tmps)=true:=by exact rfl)
  (M:L=L.takeWhile (aE.nl k) ++ .n k ty c i js f::(L.dropWhile (aE.nl k)).tail:=by exact rfl) (T:((L.takeWhile (aE.nl k)).all (aE.fr k)&&(L.dropWhile (aE.nl k)).tail.all (aE.fr k))=true:=by exact rfl) (I:((aj.pl qs k).contains i && !(i==k))=true:=by exact rfl)
  (hv:∀u,xI u->aj.gv vs k u:=by exact fun _ h=>h) (hg:∀u W,gw gs k u W:=by exact fun _ _=>trivial)
  (h:∀W,∀K:Act->Ee->Prop,Hid (K (a.put o.dst (Ek (some ⟨W.heap.size,0,none⟩))) (W.alloc (.cells c ty)))->o.wp P a W K (fun e _ _=>match e with | .panic _=>False | _=>False):=by (intro W K H; go_step; exact H.out)):RJ P ops Q wb w0 N L cs vs gs ps qs k (o::rest) a:=by
 rw[Bool.and_eq_true,List.contains_iff_mem,Bool.not_eq_true',beq_eq_false_iff_ne]at I;exact aj.aC hc (YJ hd ht) (by rw[X]; exact hw) (fun D v W E Z hf K H=>h W K (E6 (H.out _ _ (av.ae ((Below.refl _ _).alloc (Eo _) _)) (by rw[Zl hd]; exact Z.alloc M E.1 (E.2 i I.1) I.2 T) (hg _ _) (by rw[Zl hd]; exact hv _ ⟨_,rfl⟩)))) Y
theorem ai.sl (h:ai w g t l.toArray):ai (w.setCell ⟨g,i,none⟩ u) g t (l.set i u).toArray:=by
 have:=h.bL i u
 rwa[List.setIfInBounds_toArray]at this
theorem ai.b1 (h:ai w g t #[x0]):w.cell? ⟨g,0,none⟩=some x0/\True:=⟨h.c 0 rfl,trivial⟩
theorem ai.b2 (h:ai w g t #[x0,x1]):w.cell? ⟨g,0,none⟩=some x0/\w.cell? ⟨g,1,none⟩=some x1:=⟨h.c 0 rfl,h.c 1 rfl⟩
theorem ai.b3 (h:ai w g t #[x0,x1,x2]):w.cell? ⟨g,0,none⟩=some x0/\w.cell? ⟨g,1,none⟩=some x1/\w.cell? ⟨g,2,none⟩=some x2:=⟨h.c 0 rfl,h.c 1 rfl,h.c 2 rfl⟩
theorem ai.b4 (h:ai w g t #[x0,x1,x2,x3]):w.cell? ⟨g,0,none⟩=some x0/\w.cell? ⟨g,1,none⟩=some x1/\w.cell? ⟨g,2,none⟩=some x2/\w.cell? ⟨g,3,none⟩=some x3:=⟨h.c 0 rfl,h.c 1 rfl,h.c 2 rfl,h.c 3 rfl⟩
theorem ai.b5 (h:ai w g t #[x0,x1,x2,x3,x4]):w.cell? ⟨g,0,none⟩=some x0/\w.cell? ⟨g,1,none⟩=some x1/\w.cell? ⟨g,2,none⟩=some x2/\w.cell? ⟨g,3,none⟩=some x3/\w.cell? ⟨g,4,none⟩=some x4:=⟨h.c 0 rfl,h.c 1 rfl,h.c 2 rfl,h.c 3 rfl,h.c 4 rfl⟩
theorem ai.b6 (h:ai w g t #[x0,x1,x2,x3,x4,x5]):w.cell? ⟨g,0,none⟩=some x0/\w.cell? ⟨g,1,none⟩=some x1/\w.cell? ⟨g,2,none⟩=some x2/\w.cell? ⟨g,3,none⟩=some x3/\w.cell? ⟨g,4,none⟩=some x4/\w.cell? ⟨g,5,none⟩=some x5:=⟨h.c 0 rfl,h.c 1 rfl,h.c 2 rfl,h.c 3 rfl,h.c 4 rfl,h.c 5 rfl⟩
theorem ai.b7 (h:ai w g t #[x0,x1,x2,x3,x4,x5,x6]):w.cell? ⟨g,0,none⟩=some x0/\w.cell? ⟨g,1,none⟩=some x1/\w.cell? ⟨g,2,none⟩=some x2/\w.cell? ⟨g,3,none⟩=some x3/\w.cell? ⟨g,4,none⟩=some x4/\w.cell? ⟨g,5,none⟩=some x5/\w.cell? ⟨g,6,none⟩=some x6:=⟨h.c 0 rfl,h.c 1 rfl,h.c 2 rfl,h.c 3 rfl,h.c 4 rfl,h.c 5 rfl,h.c 6 rfl⟩
theorem ai.b8 (h:ai w g t #[x0,x1,x2,x3,x4,x5,x6,x7]):w.cell? ⟨g,0,none⟩=some x0/\w.cell? ⟨g,1,none⟩=some x1/\w.cell? ⟨g,2,none⟩=some x2/\w.cell? ⟨g,3,none⟩=some x3/\w.cell? ⟨g,4,none⟩=some x4/\w.cell? ⟨g,5,none⟩=some x5/\w.cell? ⟨g,6,none⟩=some x6/\w.cell? ⟨g,7,none⟩=some x7:=⟨h.c 0 rfl,h.c 1 rfl,h.c 2 rfl,h.c 3 rfl,h.c 4 rfl,h.c 5 rfl,h.c 6 rfl,h.c 7 rfl⟩
theorem ai.f_ (h:ai w g t #[x0,x1,x2,x3,x4,x5,x6,x7,x8,x9,bl,bi,aX,ci,ce,b9]):w.cell? ⟨g,0,none⟩=some x0/\w.cell? ⟨g,1,none⟩=some x1/\w.cell? ⟨g,2,none⟩=some x2/\w.cell? ⟨g,3,none⟩=some x3/\w.cell? ⟨g,4,none⟩=some x4/\w.cell? ⟨g,5,none⟩=some x5/\w.cell? ⟨g,6,none⟩=some x6/\w.cell? ⟨g,7,none⟩=some x7/\w.cell? ⟨g,8,none⟩=some x8/\w.cell? ⟨g,9,none⟩=some x9/\w.cell? ⟨g,10,none⟩=some bl/\w.cell? ⟨g,11,none⟩=some bi/\w.cell? ⟨g,12,none⟩=some aX/\w.cell? ⟨g,13,none⟩=some ci/\w.cell? ⟨g,14,none⟩=some ce/\w.cell? ⟨g,15,none⟩=some b9:=⟨h.c 0 rfl,h.c 1 rfl,h.c 2 rfl,h.c 3 rfl,h.c 4 rfl,h.c 5 rfl,h.c 6 rfl,h.c 7 rfl,h.c 8 rfl,h.c 9 rfl,h.c 10 rfl,h.c 11 rfl,h.c 12 rfl,h.c 13 rfl,h.c 14 rfl,h.c 15 rfl⟩
theorem ai.gh {H E M I:Ef} (h:ai w g t #[x0,x1,x2,x3,x4,x5,x6,x7,x8,x9,bl,bi,aX,ci,ce,b9,H,E,M,I]):w.cell? ⟨g,0,none⟩=some x0/\w.cell? ⟨g,1,none⟩=some x1/\w.cell? ⟨g,2,none⟩=some x2/\w.cell? ⟨g,3,none⟩=some x3/\w.cell? ⟨g,4,none⟩=some x4/\w.cell? ⟨g,5,none⟩=some x5/\w.cell? ⟨g,6,none⟩=some x6/\w.cell? ⟨g,7,none⟩=some x7/\w.cell? ⟨g,8,none⟩=some x8/\w.cell? ⟨g,9,none⟩=some x9/\w.cell? ⟨g,10,none⟩=some bl/\w.cell? ⟨g,11,none⟩=some bi/\w.cell? ⟨g,12,none⟩=some aX/\w.cell? ⟨g,13,none⟩=some ci/\w.cell? ⟨g,14,none⟩=some ce/\w.cell? ⟨g,15,none⟩=some b9/\w.cell? ⟨g,16,none⟩=some H/\w.cell? ⟨g,17,none⟩=some E/\w.cell? ⟨g,18,none⟩=some M/\w.cell? ⟨g,19,none⟩=some I:=⟨h.c 0 rfl,h.c 1 rfl,h.c 2 rfl,h.c 3 rfl,h.c 4 rfl,h.c 5 rfl,h.c 6 rfl,h.c 7 rfl,h.c 8 rfl,h.c 9 rfl,h.c 10 rfl,h.c 11 rfl,h.c 12 rfl,h.c 13 rfl,h.c 14 rfl,h.c 15 rfl,h.c 16 rfl,h.c 17 rfl,h.c 18 rfl,h.c 19 rfl⟩
theorem ai.cast {c':Array Ef} (h:ai w g t c) (e:c=c'):ai w g t c':=e▸h
theorem aj.fT {X:Prop} (h:X:=by (intro W E K hK; have ff:=E.fr; (first | obtain⟨H,I,M,T⟩:=ai.b4 E | obtain⟨H,I⟩:=ai.b2 E | obtain⟨H,-⟩:=ai.b1 E | obtain⟨H,I,M,T,Y,Z,c6,c7⟩:=ai.b8 E | obtain⟨H,I,M⟩:=ai.b3 E | obtain⟨H,I,M,T,Y,Z,c6,c7,c8,c9,ah,bt,bg,cg,bh,br⟩:=ai.f_ E | obtain⟨H,I,M,T,Y⟩:=ai.b5 E | obtain⟨H,I,M,T,Y,Z⟩:=ai.b6 E | obtain⟨H,I,M,T,Y,Z,c6⟩:=ai.b7 E | obtain⟨H,I,M,T,Y,Z,c6,c7,c8,c9,ah,bt,bg,cg,bh,br,cx,cn,cy,co⟩:=ai.gh E); go_step; refine hK.out _ ?_ ?_; (repeat' with_reducible apply Wr.set); exact Wr.refl _ _; apply ai.cast; (repeat' with_reducible apply ai.sl); exact E; rfl)):X:=h
theorem Zm {k:Nat} {D:Nat->Bool} {v:Nat->Ef} {y:Ef} (E:D k=false) (h:∀j∈js,D j=true):js.map (aj.aS v k y)=js.map v:=
 List.map_congr_left fun j H=>by rw[qN]; rintro rfl; rw[h _ H]at E; cases E
theorem aj.sN {al G:Nat} {ty:Ei} {c:Array Ef} {js:List Nat} {f:List Ef->Array Ef} (hL:ops=LL) (hr:RJ P ops Q wb w0 N L cs vs gs ps qs (k+1) rest a) (hd:o.dst=none:=by exact rfl) (hc:aj.inl cs k=true:=by exact rfl) (hw:Region.wanted o (yielded LL a.tmps)=true:=by exact rfl)
  (Z:L=L.takeWhile (aE.ns k)++(.n al ty c k js f)::(L.dropWhile (aE.ns k)).tail:=by exact rfl) (h1:((L.takeWhile (aE.ns k)).all (aE.fr k)&&(L.dropWhile (aE.ns k)).tail.all (aE.fr k))=true:=by exact rfl) (X:((L.takeWhile (aE.ns k)).all (aE.nl al)&&(L.dropWhile (aE.ns k)).tail.all (aE.nl al) && !(al==k))=true:=by exact rfl) (hG:aj.at_ a (Z' (aj.pl ps k) al) = Ek (some ⟨G,0,none⟩):=by exact rfl) (hk:kG (aj.inl cs) (aj.pl ps k) (al::js)=true:=by exact rfl) (nu:zU c=true:=by exact rfl)
  (hv:∀u,aj.gv vs k u:=by exact fun _=>trivial) (hg:∀u W,gw gs k u W:=by exact fun _ _=>trivial)
  (h:∀W,ai W G ty c->∀K:Act->Ee->Prop,Hid (∀W',Wr G W W'->ai W' G ty (f (qI a (aj.pl ps k) js))->K (a.put o.dst Em) W')->o.wp P a W K (fun e _ _=>match e with | .panic _=>False | _=>False):=by exact aj.fT):RJ P ops Q wb w0 N L cs vs gs ps qs k (o::rest) a:=by
 refine aj.aC hc (fun s hs=>by rw[hd]at hs; cases hs) (by rw[hL]; exact hw) (fun D v W I M hf K hK=> ?_) (fun x _=>by rw[show a.put o.dst x=a by rw[hd]; rfl]; exact hr);have F:=xg hf hk;obtain⟨da,Y⟩:=F al (.head _);rw[hG]at Y;have Fj:∀j∈js,D j=true/\v j=aj.at_ a (Z' (aj.pl ps k) j):=fun j M=>F j (.tail _ M);rw[Bool.and_eq_true,Bool.and_eq_true,Bool.not_eq_true',beq_eq_false_iff_ne,List.all_eq_true,List.all_eq_true]at X;have hm:(.n al ty c k js f:aE)∈L:=by rw[Z]; exact List.mem_append_right _ (.head _)
 obtain⟨g,e1,e2,e3⟩:=xJ.1 M.e _ hm da;obtain rfl:G=g:=aj.bI (Y.symm.trans e1);have e4:aE.dG k js f c D v=c:=by unfold aE.dG; rw[I.1,E9 Bool.false_ne_true]
 rw[e4]at e3;refine h W e3 K (E6 fun W' ah bh=> ?_);have S:=M.store (y:=aj.dv o Em) Z I.1 h1 (fun x T=>by cases T; exact X.2) (fun p hp _ j E=>by rw[List.mem_singleton.1 hp]at E; exact(Fj j E).1) (Nat.le_trans M.iw e2) e3 nu (fun x T g hg=> ?_) ah ?_
 . exact hK.out _ _ S.2 S.1 (hg _ _) (hv _)
 .
  rcases hg with hp | ⟨x1,hl,d1,v1,_⟩
  .
   have H:x∈L:=by
    rw[Z,List.mem_append,List.mem_cons]
    rcases T with m | m
    . exact .inl m
    . exact .inr (.inr m)
   have:=M.lt x H g hp;omega
  .
   have H:x∈L:=by
    rw[Z,List.mem_append,List.mem_cons]
    rcases T with m | m
    . exact .inl m
    . exact .inr (.inr m)
   have bg:x1≠al:=by
    have:=T.elim (X.1.1 x) (X.1.2 x)
    cases x<;>simp[aE.lay,aE.nl]at hl this
    subst hl; exact this
   intro e;exact M.dis x1 al ⟨x,H,hl⟩ ⟨_,hm,rfl⟩ bg d1 da (by rw[v1,Y,e])
 .
  intro _;refine⟨G,by rw[qN X.2]; exact Y,e2,?_⟩;unfold aE.dG;rw[YI,E8 rfl,Zm I.1 fun j E=>(Fj j E).1,jh fun j E=>(Fj j E).2];exact bh
/-- the places of the others -/
def aE.apart (k G:Nat):List aE->Prop
 | []=>True
 | .o b _ _::r=>b≠G/\aE.apart k G r
 | .s b _ _ i _ _::r=>(i=k\/b≠G)/\aE.apart k G r
 | .m b _ _ i _ _ i' _ _::r=>(i=k\/i'=k\/b≠G)/\aE.apart k G r
 | .n .. :: r=>aE.apart k G r
theorem aE.apart_spec {k:Nat} : ∀{L:List aE},aE.apart k G L->∀x∈L,x.fr k=true->∀b,x.place=some b->b≠G
 | [],_,x,h,_,_,_=>by cases h
 | e::r,h,x,hx,hf,b,hb=>by
  rw[List.mem_cons]at hx
  rcases hx with rfl | hx
  .
   cases x with
   | o b' t c=>cases hb; exact h.1
   | s b' t c i js f=>
    cases hb
    have:i≠k:=by simpa[aE.fr]using hf
    exact h.1.resolve_left this
   | m b' t c i js f i' js' f'=>
    cases hb
    have:i≠k/\i'≠k:=by simpa[aE.fr]using hf
    exact(h.1.resolve_left this.1).resolve_left this.2
   | n k' t c i js f=>cases hb
  .
   cases e with
   | o b' t c=>exact aE.apart_spec h.2 x hx hf b hb
   | s b' t c i js f=>exact aE.apart_spec h.2 x hx hf b hb
   | m b' t c i js f i' js' f'=>exact aE.apart_spec h.2 x hx hf b hb
   | n k' t c i js f=>exact aE.apart_spec (L:=r) h x hx hf b hb
theorem aj.sS {b:Nat} {ty:Ei} {c:Array Ef} {js:List Nat} {f:List Ef->Array Ef} (hL:ops=LL) (hr:RJ P ops Q wb w0 N L cs vs gs ps qs (k+1) rest a) (hd:o.dst=none:=by exact rfl) (hc:aj.inl cs k=true:=by exact rfl) (hw:Region.wanted o (yielded LL a.tmps)=true:=by exact rfl)
  (he:L=L.takeWhile (aE.ns k)++(.s b ty c k js f)::(L.dropWhile (aE.ns k)).tail:=by exact rfl) (I:((L.takeWhile (aE.ns k)).all (aE.fr k)&&(L.dropWhile (aE.ns k)).tail.all (aE.fr k))=true:=by exact rfl) (hk:kG (aj.inl cs) (aj.pl ps k) js=true:=by exact rfl) (hb:wb.heap.size<=b:=by omega) (ap:aE.apart k b L:=by ((repeat' apply E7)<;>first | trivial | omega | exact .inl rfl | exact .inr (.inl rfl) | (right; omega) | (right; right; omega))) (nu:zU c=true:=by exact rfl)
  (hv:∀u,aj.gv vs k u:=by exact fun _=>trivial) (hg:∀u W,gw gs k u W:=by exact fun _ _=>trivial)
  (h:∀W,ai W b ty c->∀K:Act->Ee->Prop,Hid (∀W',Wr b W W'->ai W' b ty (f (qI a (aj.pl ps k) js))->K (a.put o.dst Em) W')->o.wp P a W K (fun e _ _=>match e with | .panic _=>False | _=>False):=by exact aj.fT):RJ P ops Q wb w0 N L cs vs gs ps qs k (o::rest) a:=by
 refine aj.aC hc (fun s hs=>by rw[hd]at hs; cases hs) (by rw[hL]; exact hw) (fun D v W H Z hf K hK=> ?_) (fun x _=>by rw[show a.put o.dst x=a by rw[hd]; rfl]; exact hr);have Fj:=xg hf hk;have hm:(.s b ty c k js f:aE)∈L:=by rw[he]; exact List.mem_append_right _ (.head _)
 have X:ai W b ty (aE.dG k js f c D v):=xJ.1 Z.e _ hm;have e4:aE.dG k js f c D v=c:=by unfold aE.dG; rw[H.1,E9 Bool.false_ne_true]
 rw[e4]at X;have bg:=Z.lt _ hm b rfl;refine h W X K (E6 fun W' Y ah=> ?_);have S:=Z.store (y:=aj.dv o Em) he H.1 I (fun x M=>by cases M) (fun p hp _ j E=>by rw[List.mem_singleton.1 hp]at E; exact(Fj j E).1) hb X nu (fun x M g hg=> ?_) Y ?_
 . exact hK.out _ _ S.2 S.1 (hg _ _) (hv _)
 .
  have T:x∈L:=by
   rw[he,List.mem_append,List.mem_cons]
   rcases M with m | m
   . exact .inl m
   . exact .inr (.inr m)
  rw[Bool.and_eq_true,List.all_eq_true,List.all_eq_true]at I
  rcases hg with hp | ⟨x1,hl,d1,v1,hN⟩
  . exact aE.apart_spec ap x T (M.elim (I.1 x) (I.2 x)) g hp
  . omega
 .
  show ai W' b ty (aE.dG k js f c (aj.upd D k) (aj.aS v k _))
  unfold aE.dG;rw[YI,E8 rfl,Zm H.1 fun j E=>(Fj j E).1,jh fun j E=>(Fj j E).2];exact ah
def aE.dU (a9:Nat->Bool) (l:List (Nat×Option Tmp)) (n:Nat):aE->Bool
 | .o .. =>true
 | .s _ _ _ i js _=>Nat.ble (i+1) n&&a9 i&&kG a9 l js
 | .n k _ _ i js _=>Nat.ble (i+1) n&&a9 i&&kG a9 l (k::js)
 | .m _ _ _ i js _ i' js' _=>Nat.ble (i+1) n&&a9 i&&kG a9 l js&&(Nat.ble (i'+1) n&&a9 i'&&kG a9 l js')
/-- what has become of a block when the region is through -/
def xA (N:Nat) (a:Act) (l:List (Nat×Option Tmp)) (W:Ee):aE->Prop
 | .o b t c=>ai W b t c
 | .s b t _ _ js f=>ai W b t (f (qI a l js))
 | .m b t c _ js f _ js' f'=>ai W b t (f (qI a l js) (f' (qI a l js') c))
 | .n k t _ _ js f=>∀g:Nat,aj.at_ a (Z' l k) = Ek (some ⟨g,0,none⟩)->N<=g/\ai W g t (f (qI a l js))
def xx (N:Nat) (a:Act) (l:List (Nat×Option Tmp)) (W:Ee):List aE->Prop
 | []=>True
 | e::r=>xA N a l W e/\xx N a l W r
theorem KS {N:Nat} {a:Act} {l:List (Nat×Option Tmp)} {W:Ee} : ∀{L:List aE},(∀x∈L,xA N a l W x)->xx N a l W L
 | [],_=>trivial
 | e::_,h=>⟨h e (.head _),KS fun x E=>h x (.tail _ E)⟩
/-- where the old blocks lie -/
def J2 (N:Nat):List aE->Prop
 | []=>True
 | .o b _ _::r=>b<N/\J2 N r
 | .s b _ _ _ _ _::r=>b<N/\J2 N r
 | .m b _ _ _ _ _ _ _ _::r=>b<N/\J2 N r
 | .n .. :: r=>J2 N r
theorem YK {N:Nat} : ∀{L:List aE},(∀x∈L,∀b,x.place=some b->b<N)->J2 N L
 | [],_=>trivial
 | .o _ _ _::_,h=>⟨h _ (.head _) _ rfl,YK fun x E=>h x (.tail _ E)⟩
 | .s _ _ _ _ _ _::_,h=>⟨h _ (.head _) _ rfl,YK fun x E=>h x (.tail _ E)⟩
 | .m _ _ _ _ _ _ _ _ _::_,h=>⟨h _ (.head _) _ rfl,YK fun x E=>h x (.tail _ E)⟩
 | .n .. :: r,h=>YK (L:=r) fun x E=>h x (.tail _ E)
theorem aj.sE (h:∀D v W,Below wb.heap.size wb W->av w0 W->xx N a (aj.pl ps k) W L->(∀k1 k2 (g1 g2:Nat),(!(k1==k2)&&(!(L.all (aE.nl k1)) && !(L.all (aE.nl k2))))=true->aj.at_ a (Z' (aj.pl ps k) k1) = Ek (some ⟨g1,0,none⟩)->aj.at_ a (Z' (aj.pl ps k) k2) = Ek (some ⟨g2,0,none⟩)->g1≠g2)->wb.heap.size<=N/\J2 N L->aj.aL (aj.inl cs) (gw gs) (aj.pl ps) k a D v W->Q .normal a W)
  (hk:L.all (aE.dU (aj.inl cs) (aj.pl ps k) k)=true:=by exact rfl):RJ P ops Q wb w0 N L cs vs gs ps qs k [] a:=by
 refine aj.aF fun D v W hd Y T=>h D v W Y.b Y.k (KS fun x X=> ?_) (fun k1 k2 g1 g2 hn e1 e2 e=> ?_) ⟨Y.iw,YK Y.lt⟩ T
 .
  have E:=List.all_eq_true.1 hk x X;have h2:=xJ.1 Y.e x X
  cases x with
  | o b t c=>exact h2
  | s b t c i js f=>
   simp only[aE.dU,Bool.and_eq_true]at E;have Fj:=xg T E.2;have Z:D i=true:=(hd i (Eb E.1.1)).trans E.1.2;have M:ai W b t (aE.dG i js f c D v):=h2;unfold aE.dG at M;rw[E8 Z,jh fun j H=>(Fj j H).2]at M;exact M
  | m b t c i js f i' js' f'=>
   simp only[aE.dU,Bool.and_eq_true]at E;have Fj:=xg T E.1.2;have br:=xg T E.2.2;have Z:D i=true:=(hd i (Eb E.1.1.1)).trans E.1.1.2;have bt:D i'=true:=(hd i' (Eb E.2.1.1)).trans E.2.1.2;have M:ai W b t (aE.app i js f (aE.app i' js' f' c D v) D v):=h2.1;unfold aE.app at M;rw[E8 Z,E8 bt,jh fun j H=>(Fj j H).2,jh fun j H=>(br j H).2]at M;exact M
  | n I t c i js f=>
   simp only[aE.dU,Bool.and_eq_true]at E;have F:=xg T E.2;have Z:D i=true:=(hd i (Eb E.1.1)).trans E.1.2;intro g hg;obtain⟨dk,ek⟩:=F I (.head _);obtain⟨g',e1,e2,e3⟩:=h2 dk;obtain rfl:g=g':=aj.bI ((hg.symm.trans ek.symm).trans e1);unfold aE.dG at e3;rw[E8 Z,jh fun j H=>(F j (.tail _ H)).2]at e3;exact⟨e2,e3⟩
 .
  rw[Bool.and_eq_true,Bool.and_eq_true,Bool.not_eq_true',beq_eq_false_iff_ne,Bool.not_eq_true',Bool.not_eq_true']at hn
  have bg:∀I,L.all (aE.nl I)=false->∃x∈L,x.lay=some I:=fun I bh=>by
   obtain⟨x,X,ah⟩:=List.all_eq_false.1 bh;refine⟨x,X,?_⟩
   cases x<;>simp[aE.nl]at ah
   subst ah; rfl
  have y':∀I,(∃x∈L,x.lay=some I)->D I=true/\v I=aj.at_ a (Z' (aj.pl ps k) I):=fun I ⟨x,X,hl⟩=>by
   have E:=List.all_eq_true.1 hk x X
   cases x<;>simp only[aE.lay,reduceCtorEq,Option.some.injEq]at hl
   subst hl;simp only[aE.dU,Bool.and_eq_true]at E;exact xg T E.2 _ (.head _)
  have a1:=bg k1 hn.2.1;have a2:=bg k2 hn.2.2;exact Y.dis k1 k2 a1 a2 hn.1 (y' k1 a1).1 (y' k2 a2).1 (by rw[(y' k1 a1).2,(y' k2 a2).2,e1,e2,e])
theorem aE.un {W:Ee} {D:Nat->Bool} {v:Nat->Ef} (h:ai W b t (aE.dG i js f c D v)) (E:D i=false):ai W b t c:=by
 unfold aE.dG at h
 rwa[E,E9 Bool.false_ne_true]at h
theorem aj.bH {P:Program} {ops LL:Array Oper} {Q:Exit->Act->Ee->Prop} {G:Nat->Ef->Ee->Prop} {k:Nat} {o:Oper} {rest:List Oper} {a:Act} {x:Ef} {Φ:Ee->Prop} (I:ops=LL) (t:Tmp) (φ : ∀D v W,aj.bC post k D->J D v W->Φ W) (M:aj.RC P ops Q J a9 V G Sx be pre post (k+1) rest a')
  (hc:a9 k=false:=by exact rfl) (hst:kv o.op=true:=by exact rfl) (hw:Region.wanted o (yielded LL a.tmps)=true:=by exact rfl) (hd:o.dst=some t:=by exact rfl) (ht:Nat.ble (t+1) a.tmps.size=true:=by exact rfl)
  (h:∀W,Φ W->∀K:Act->World->Prop,Hid (K a' W)->o.wp P a W K (fun _ _ _=>False):=by (intro W' Y K E; go_step; exact E.out)) (T:a'=a.put o.dst x:=by exact rfl):aj.RC P ops Q J a9 V G Sx be pre post k (o::rest) a:=
 aj.bD a' x hc hst (by rw[I]; exact hw) (fun D v W H X _ K E=>h W (φ D v W H X) K E) t hd (Eb ht) T M
/-- a call's cells, one by one -/
def aj.ca (l:List Ef) (n:Nat):Ef:=match l with | [Ej c]=>c.toList.getD n Em | _=>Em
def aj.ct (i:Nat) (l:List Ef) (n:Nat):Ef:=match l with | [Ev t]=>(match t.toList.getD i Em with | Ej c=>c.toList.getD n Em | _=>Em) | _=>Em
def aj.fw (o0 o1 o2 o3:Nat) (p:List Ef->Nat->Ef) (l:List Ef) (c:Array Ef):Array Ef:=((((c.toList.set o0 (p l 0)).set o1 (p l 1)).set o2 (p l 2)).set o3 (p l 3)).toArray
theorem Zn : aj.fw o0 o1 o2 o3 p l c=(((c.setIfInBounds o0 (p l 0)).setIfInBounds o1 (p l 1)).setIfInBounds o2 (p l 2)).setIfInBounds o3 (p l 3):=by
 apply Array.ext'
 unfold aj.fw;simp only[Array.toList_setIfInBounds]
theorem ai.dE {cs:Array Ef} (h:ai w g t cs) (E:i<cs.size):∃v,w.cell? ⟨g,i,none⟩=some v:=⟨cs[i],h.c i (by rw[Array.getElem?_eq_getElem E])⟩
theorem J3 (h:zU c=true) (E:∀n,qG (p l n)=true):zU (aj.fw o0 o1 o2 o3 p l c)=true:=
 Zn▸jr (jr (jr (jr h (E 0)) (E 1)) (E 2)) (E 3)
theorem X4 {o:Nat} (h:([q0,q1,q2,q3].all fun y=> !(o==y))=true):(aj.fw q0 q1 q2 q3 p l c).setIfInBounds o u=aj.fw q0 q1 q2 q3 p l (c.setIfInBounds o u):=by
 simp only[List.all_cons,List.all_nil,Bool.and_true,Bool.and_eq_true,Bool.not_eq_true',beq_eq_false_iff_ne]at h;rw[Zn,Zn];rw[Array.setIfInBounds_comm _ _ (Ne.symm h.2.2.2),Array.setIfInBounds_comm _ _ (Ne.symm h.2.2.1),Array.setIfInBounds_comm _ _ (Ne.symm h.2.1),Array.setIfInBounds_comm _ _ (Ne.symm h.1)]
theorem WQ {x y:List Ef} (h:([o0,o1,o2,o3].all fun x=> [q0,q1,q2,q3].all fun y=> !(x==y))=true):aj.fw o0 o1 o2 o3 p x (aj.fw q0 q1 q2 q3 p' y c)=aj.fw q0 q1 q2 q3 p' y (aj.fw o0 o1 o2 o3 p x c):=by
 have E:=List.all_eq_true.1 h;rw[Zn,Zn (o0:=o0)]
 show (((Array.setIfInBounds _ _ _).setIfInBounds _ _).setIfInBounds _ _).setIfInBounds _ _=_
 rw[X4 (E o0 D8),X4 (E o1 D8),X4 (E o2 D8),X4 (E o3 D8)]
theorem KU : (aj.fw o0 o1 o2 o3 p l c).size=c.size:=by rw[Zn]; simp only[Array.size_setIfInBounds]
theorem aj.sM {b:Nat} {ty:Ei} {c:Array Ef} {js E:List Nat} {M:Nat} {p p':List Ef->Nat->Ef} {o0 o1 o2 o3 q0 q1 q2 q3:Nat} (hL:ops=LL) (hr:RJ P ops Q wb w0 N L cs vs gs ps qs (k+1) rest a) (hd:o.dst=none:=by exact rfl) (hc:aj.inl cs k=true:=by exact rfl) (hw:Region.wanted o (yielded LL a.tmps)=true:=by exact rfl)
  (he:L=L.takeWhile (aE.ns k) ++ .m b ty c k js (aj.fw o0 o1 o2 o3 p) M E (aj.fw q0 q1 q2 q3 p')::(L.dropWhile (aE.ns k)).tail:=by exact rfl) (h1:((L.takeWhile (aE.ns k)).all (aE.fr k)&&(L.dropWhile (aE.ns k)).tail.all (aE.fr k))=true:=by exact rfl) (h2:(!(M==k))=true:=by exact rfl) (hk:kG (aj.inl cs) (aj.pl ps k) js=true:=by exact rfl) (hb:wb.heap.size<=b:=by omega)
  (ap:aE.apart k b L:=by ((repeat' apply E7)<;>first | trivial | omega | exact .inl rfl | exact .inr (.inl rfl) | (right; omega) | (right; right; omega))) (s0:Nat.ble (o0+1) c.size=true:=by exact rfl) (s1:Nat.ble (o1+1) c.size=true:=by exact rfl) (s2:Nat.ble (o2+1) c.size=true:=by exact rfl) (s3:Nat.ble (o3+1) c.size=true:=by exact rfl)
  (bt:∀n,qG (p (qI a (aj.pl ps k) js) n)=true:=by (intro n; match n with | 0=>rfl | 1=>rfl | 2=>rfl | 3=>rfl | _+4=>rfl)) (hv:∀u,aj.gv vs k u:=by exact fun _=>trivial) (hg:∀u W,gw gs k u W:=by exact fun _ _=>trivial)
  (h:∀W (z:Array Ef) v0 X v2 v3,ai W b ty z->W.cell? ⟨b,o0,none⟩=some v0->W.cell? ⟨b,o1,none⟩=some X->W.cell? ⟨b,o2,none⟩=some v2->W.cell? ⟨b,o3,none⟩=some v3->∀K:Act->Ee->Prop,Hid (∀W',Wr b W W'->ai W' b ty ((((z.setIfInBounds o0 (p (qI a (aj.pl ps k) js) 0)).setIfInBounds o1 (p (qI a (aj.pl ps k) js) 1)).setIfInBounds o2 (p (qI a (aj.pl ps k) js) 2)).setIfInBounds o3 (p (qI a (aj.pl ps k) js) 3))->K (a.put o.dst Em) W')->o.wp P a W K (fun e _ _=>match e with | .panic _=>False | _=>False):=by (intro W z v0 X v2 v3 hb c0 c1 c2 c3 K hK; have ff:=hb.fr; go_step; exact hK.out _ (Wr.set (Wr.set (Wr.set (Wr.set (Wr.refl _ _))))) (ai.st (ai.st (ai.st (ai.st hb)))))):RJ P ops Q wb w0 N L cs vs gs ps qs k (o::rest) a:=by
 refine aj.aC hc (fun s hs=>by rw[hd]at hs; cases hs) (by rw[hL]; exact hw) (fun D v W H hj hf K hK=> ?_) (fun x _=>by rw[show a.put o.dst x=a by rw[hd]; rfl]; exact hr);have Fj:=xg hf hk;have hm:(.m b ty c k js (aj.fw o0 o1 o2 o3 p) M E (aj.fw q0 q1 q2 q3 p'):aE)∈L:=by rw[he]; exact List.mem_append_right _ (.head _)
 obtain⟨e3,bh⟩:=xJ.1 hj.e _ hm;have co:=hj.lt _ hm b rfl
 have ez:∃z:Array Ef,z.size=c.size/\ai W b ty z/\zU z=true/\z=aE.app M E (aj.fw q0 q1 q2 q3 p') c D v:=by
  refine⟨_,?_,?_,?_,rfl⟩
  .
   unfold aE.app; split
   . exact KU
   . rfl
  . have:=e3; unfold aE.app at this|-; rwa[H.1,E9 Bool.false_ne_true]at this
  . have:=bh; unfold aE.app at this|-; rwa[H.1,E9 Bool.false_ne_true]at this
 obtain⟨z,zs,T,zu,zd⟩:=ez;obtain⟨v0,c0⟩:=T.dE (i:=o0) (by rw[zs]; exact Eb s0);obtain⟨X,c1⟩:=T.dE (i:=o1) (by rw[zs]; exact Eb s1);obtain⟨v2,c2⟩:=T.dE (i:=o2) (by rw[zs]; exact Eb s2);obtain⟨v3,c3⟩:=T.dE (i:=o3) (by rw[zs]; exact Eb s3);refine h W z v0 X v2 v3 T c0 c1 c2 c3 K (E6 fun W' cg ah=> ?_);rw[<- Zn]at ah
 have S:=hj.store (y:=aj.dv o Em) he H.1 h1 (fun x hx=>by cases hx) (fun p Z Y j I=>by
  rcases List.mem_cons.1 Z with rfl | Z; · exact(Fj j I).1
  . rw[List.mem_singleton.1 Z]at Y; exact absurd Y (by simpa using h2)) hb T zu (fun x hx g hg=> ?_) cg ?_
 . exact hK.out _ _ S.2 S.1 (hg _ _) (hv _)
 .
  have br:x∈L:=by
   rw[he,List.mem_append,List.mem_cons]
   rcases hx with m | m
   . exact .inl m
   . exact .inr (.inr m)
  rw[Bool.and_eq_true,List.all_eq_true,List.all_eq_true]at h1
  rcases hg with Z | ⟨x1,hl,d1,X,hN⟩
  . exact aE.apart_spec ap x br (hx.elim (h1.1 x) (h1.2 x)) g Z
  . omega
 .
  have bg:D M=true->∀j∈E,D j=true:=hj.src _ hm (M,E) (by exact .tail _ (.head _));have cn:M≠k:=by simpa using h2
  show ai W' b ty (aE.app k js (aj.fw o0 o1 o2 o3 p) (aE.app M E (aj.fw q0 q1 q2 q3 p') c (aj.upd D k) (aj.aS v k _)) (aj.upd D k) (aj.aS v k _))/\zU _=true
  rw[X2 cn H.1 bg,<- zd]
  have ea:aE.app k js (aj.fw o0 o1 o2 o3 p) z (aj.upd D k) (aj.aS v k (aj.dv o Em))=aj.fw o0 o1 o2 o3 p (qI a (aj.pl ps k) js) z:=by
   unfold aE.app;rw[YI,E8 rfl,Zm H.1 fun j I=>(Fj j I).1,jh fun j I=>(Fj j I).2]
  rw[ea];exact⟨ah,J3 zu (fun n=>bt n)⟩
theorem aj.fM {b:Nat} {ty:Ei} {c:Array Ef} {js E:List Nat} {M:Nat} {p p':List Ef->Nat->Ef} {o0 o1 o2 o3 q0 q1 q2 q3:Nat} (hL:ops=LL) (hr:RJ P ops Q wb w0 N L cs vs gs ps qs (k+1) rest a) (hd:o.dst=none:=by exact rfl) (hc:aj.inl cs k=true:=by exact rfl) (hw:Region.wanted o (yielded LL a.tmps)=true:=by exact rfl)
  (he:L=L.takeWhile (aE.ns k) ++ .m b ty c M E (aj.fw q0 q1 q2 q3 p') k js (aj.fw o0 o1 o2 o3 p)::(L.dropWhile (aE.ns k)).tail:=by exact rfl) (h1:((L.takeWhile (aE.ns k)).all (aE.fr k)&&(L.dropWhile (aE.ns k)).tail.all (aE.fr k))=true:=by exact rfl) (h2:(!(M==k))=true:=by exact rfl) (hk:kG (aj.inl cs) (aj.pl ps k) js=true:=by exact rfl) (hb:wb.heap.size<=b:=by omega)
  (ap:aE.apart k b L:=by ((repeat' apply E7)<;>first | trivial | omega | exact .inl rfl | exact .inr (.inl rfl) | (right; omega) | (right; right; omega))) (s0:Nat.ble (o0+1) c.size=true:=by exact rfl) (s1:Nat.ble (o1+1) c.size=true:=by exact rfl) (s2:Nat.ble (o2+1) c.size=true:=by exact rfl) (s3:Nat.ble (o3+1) c.size=true:=by exact rfl)
  (br:∀n,qG (p (qI a (aj.pl ps k) js) n)=true:=by (intro n; match n with | 0=>rfl | 1=>rfl | 2=>rfl | 3=>rfl | _+4=>rfl)) (cn:([o0,o1,o2,o3].all fun x=> [q0,q1,q2,q3].all fun y=> !(x==y))=true:=by exact rfl) (hv:∀u,aj.gv vs k u:=by exact fun _=>trivial) (hg:∀u W,gw gs k u W:=by exact fun _ _=>trivial)
  (h:∀W (z:Array Ef) v0 X v2 v3,ai W b ty z->W.cell? ⟨b,o0,none⟩=some v0->W.cell? ⟨b,o1,none⟩=some X->W.cell? ⟨b,o2,none⟩=some v2->W.cell? ⟨b,o3,none⟩=some v3->∀K:Act->Ee->Prop,Hid (∀W',Wr b W W'->ai W' b ty ((((z.setIfInBounds o0 (p (qI a (aj.pl ps k) js) 0)).setIfInBounds o1 (p (qI a (aj.pl ps k) js) 1)).setIfInBounds o2 (p (qI a (aj.pl ps k) js) 2)).setIfInBounds o3 (p (qI a (aj.pl ps k) js) 3))->K (a.put o.dst Em) W')->o.wp P a W K (fun e _ _=>match e with | .panic _=>False | _=>False):=by (intro W z v0 X v2 v3 hb c0 c1 c2 c3 K hK; have ff:=hb.fr; go_step; exact hK.out _ (Wr.set (Wr.set (Wr.set (Wr.set (Wr.refl _ _))))) (ai.st (ai.st (ai.st (ai.st hb)))))):RJ P ops Q wb w0 N L cs vs gs ps qs k (o::rest) a:=by
 refine aj.aC hc (fun s hs=>by rw[hd]at hs; cases hs) (by rw[hL]; exact hw) (fun D v W I hj hf K hK=> ?_) (fun x _=>by rw[show a.put o.dst x=a by rw[hd]; rfl]; exact hr);have Fj:=xg hf hk;have hm:(.m b ty c M E (aj.fw q0 q1 q2 q3 p') k js (aj.fw o0 o1 o2 o3 p):aE)∈L:=by rw[he]; exact List.mem_append_right _ (.head _)
 obtain⟨e3,bg⟩:=xJ.1 hj.e _ hm;have cx:=hj.lt _ hm b rfl
 have ez:∃z:Array Ef,z.size=c.size/\ai W b ty z/\zU z=true/\z=aE.app M E (aj.fw q0 q1 q2 q3 p') c D v:=by
  refine⟨_,?_,?_,?_,rfl⟩
  .
   unfold aE.app; split
   . exact KU
   . rfl
  . have:=e3; rwa[show aE.app k js (aj.fw o0 o1 o2 o3 p) c D v=c by unfold aE.app; rw[I.1,E9 Bool.false_ne_true]]at this
  . have:=bg; rwa[show aE.app k js (aj.fw o0 o1 o2 o3 p) c D v=c by unfold aE.app; rw[I.1,E9 Bool.false_ne_true]]at this
 obtain⟨z,zs,T,zu,zd⟩:=ez;obtain⟨v0,c0⟩:=T.dE (i:=o0) (by rw[zs]; exact Eb s0);obtain⟨X,c1⟩:=T.dE (i:=o1) (by rw[zs]; exact Eb s1);obtain⟨v2,c2⟩:=T.dE (i:=o2) (by rw[zs]; exact Eb s2);obtain⟨v3,c3⟩:=T.dE (i:=o3) (by rw[zs]; exact Eb s3);refine h W z v0 X v2 v3 T c0 c1 c2 c3 K (E6 fun W' bt Z=> ?_);rw[<- Zn]at Z
 have S:=hj.store (y:=aj.dv o Em) he I.1 h1 (fun x hx=>by cases hx) (fun p Y co j H=>by
  rcases List.mem_cons.1 Y with rfl | Y; · exact absurd co (by simpa using h2)
  . rw[List.mem_singleton.1 Y]at H; exact(Fj j H).1) hb T zu (fun x hx g hg=> ?_) bt ?_
 . exact hK.out _ _ S.2 S.1 (hg _ _) (hv _)
 .
  have bh:x∈L:=by
   rw[he,List.mem_append,List.mem_cons]
   rcases hx with m | m
   . exact .inl m
   . exact .inr (.inr m)
  rw[Bool.and_eq_true,List.all_eq_true,List.all_eq_true]at h1
  rcases hg with Y | ⟨x1,hl,d1,X,hN⟩
  . exact aE.apart_spec ap x bh (hx.elim (h1.1 x) (h1.2 x)) g Y
  . omega
 .
  have ah:D M=true->∀j∈E,D j=true:=hj.src _ hm (M,E) (by exact .head _);have cg:M≠k:=by simpa using h2
  show ai W' b ty (aE.app M E (aj.fw q0 q1 q2 q3 p') (aE.app k js (aj.fw o0 o1 o2 o3 p) c (aj.upd D k) (aj.aS v k _)) (aj.upd D k) (aj.aS v k _))/\zU _=true
  have ea:aE.app k js (aj.fw o0 o1 o2 o3 p) c (aj.upd D k) (aj.aS v k (aj.dv o Em))=aj.fw o0 o1 o2 o3 p (qI a (aj.pl ps k) js) c:=by
   unfold aE.app;rw[YI,E8 rfl,Zm I.1 fun j H=>(Fj j H).1,jh fun j H=>(Fj j H).2]
  rw[ea,X2 cg I.1 ah]
  have eb:aj.fw o0 o1 o2 o3 p (qI a (aj.pl ps k) js) z=aE.app M E (aj.fw q0 q1 q2 q3 p') (aj.fw o0 o1 o2 o3 p (qI a (aj.pl ps k) js) c) D v:=by
   rw[zd];unfold aE.app
   split
   . exact WQ cn
   . rfl
  rw[<- eb];exact⟨Z,J3 zu (fun n=>br n)⟩
def aj.fi (_:List Ef) (c:Array Ef):Array Ef:=c
theorem aj.sP {b:Nat} {ty:Ei} {c:Array Ef} {js:List Nat} {p:List Ef->Nat->Ef} {o0 o1 o2 o3:Nat} (hL:ops=LL) (hr:RJ P ops Q wb w0 N L cs vs gs ps qs (k+1) rest a) (hd:o.dst=none:=by exact rfl) (hc:aj.inl cs k=true:=by exact rfl) (hw:Region.wanted o (yielded LL a.tmps)=true:=by exact rfl)
  (he:L=L.takeWhile (aE.ns k) ++ .m b ty c k js (aj.fw o0 o1 o2 o3 p) k [] aj.fi::(L.dropWhile (aE.ns k)).tail:=by exact rfl) (Y:((L.takeWhile (aE.ns k)).all (aE.fr k)&&(L.dropWhile (aE.ns k)).tail.all (aE.fr k))=true:=by exact rfl) (hk:kG (aj.inl cs) (aj.pl ps k) js=true:=by exact rfl) (hb:wb.heap.size<=b:=by omega)
  (ap:aE.apart k b L:=by ((repeat' apply E7)<;>first | trivial | omega | exact .inl rfl | exact .inr (.inl rfl) | (right; omega) | (right; right; omega))) (s0:Nat.ble (o0+1) c.size=true:=by exact rfl) (s1:Nat.ble (o1+1) c.size=true:=by exact rfl) (s2:Nat.ble (o2+1) c.size=true:=by exact rfl) (s3:Nat.ble (o3+1) c.size=true:=by exact rfl)
  (bg:∀n,qG (p (qI a (aj.pl ps k) js) n)=true:=by (intro n; match n with | 0=>rfl | 1=>rfl | 2=>rfl | 3=>rfl | _+4=>rfl)) (hv:∀u,aj.gv vs k u:=by exact fun _=>trivial) (hg:∀u W,gw gs k u W:=by exact fun _ _=>trivial)
  (h:∀W (z:Array Ef) X M v2 v3,ai W b ty z->W.cell? ⟨b,o0,none⟩=some X->W.cell? ⟨b,o1,none⟩=some M->W.cell? ⟨b,o2,none⟩=some v2->W.cell? ⟨b,o3,none⟩=some v3->∀K:Act->Ee->Prop,Hid (∀W',Wr b W W'->ai W' b ty ((((z.setIfInBounds o0 (p (qI a (aj.pl ps k) js) 0)).setIfInBounds o1 (p (qI a (aj.pl ps k) js) 1)).setIfInBounds o2 (p (qI a (aj.pl ps k) js) 2)).setIfInBounds o3 (p (qI a (aj.pl ps k) js) 3))->K (a.put o.dst Em) W')->o.wp P a W K (fun e _ _=>match e with | .panic _=>False | _=>False):=by (intro W z X M v2 v3 hb c0 c1 c2 c3 K hK; have ff:=hb.fr; go_step; exact hK.out _ (Wr.set (Wr.set (Wr.set (Wr.set (Wr.refl _ _))))) (ai.st (ai.st (ai.st (ai.st hb)))))):RJ P ops Q wb w0 N L cs vs gs ps qs k (o::rest) a:=by
 refine aj.aC hc (fun s hs=>by rw[hd]at hs; cases hs) (by rw[hL]; exact hw) (fun D v W I hj hf K hK=> ?_) (fun x _=>by rw[show a.put o.dst x=a by rw[hd]; rfl]; exact hr);have Fj:=xg hf hk;have hm:(.m b ty c k js (aj.fw o0 o1 o2 o3 p) k [] aj.fi:aE)∈L:=by rw[he]; exact List.mem_append_right _ (.head _)
 obtain⟨H,zu⟩:=xJ.1 hj.e _ hm;have br:=hj.lt _ hm b rfl;have ez:aE.app k js (aj.fw o0 o1 o2 o3 p) (aE.app k [] aj.fi c D v) D v=c:=by unfold aE.app; rw[I.1,E9 Bool.false_ne_true,E9 Bool.false_ne_true]
 rw[ez]at H zu;obtain⟨X,c0⟩:=H.dE (i:=o0) (Eb s0);obtain⟨M,c1⟩:=H.dE (i:=o1) (Eb s1);obtain⟨v2,c2⟩:=H.dE (i:=o2) (Eb s2);obtain⟨v3,c3⟩:=H.dE (i:=o3) (Eb s3);refine h W c X M v2 v3 H c0 c1 c2 c3 K (E6 fun W' bh T=> ?_);rw[<- Zn]at T
 have S:=hj.store (y:=aj.dv o Em) he I.1 Y (fun x Z=>by cases Z) (fun q hq bt j E=>by
  rcases List.mem_cons.1 hq with rfl | hq; · exact(Fj j E).1
  . rw[List.mem_singleton.1 hq]at E; cases E) hb H zu (fun x Z g hg=> ?_) bh ?_
 . exact hK.out _ _ S.2 S.1 (hg _ _) (hv _)
 .
  have ah:x∈L:=by
   rw[he,List.mem_append,List.mem_cons]
   rcases Z with m | m
   . exact .inl m
   . exact .inr (.inr m)
  rw[Bool.and_eq_true,List.all_eq_true,List.all_eq_true]at Y
  rcases hg with hp | ⟨x1,hl,d1,M,hN⟩
  . exact aE.apart_spec ap x ah (Z.elim (Y.1 x) (Y.2 x)) g hp
  . omega
 .
  show ai W' b ty (aE.app k js (aj.fw o0 o1 o2 o3 p) (aE.app k [] aj.fi c (aj.upd D k) (aj.aS v k _)) (aj.upd D k) (aj.aS v k _))/\zU _=true
  have ea:aE.app k js (aj.fw o0 o1 o2 o3 p) (aE.app k [] aj.fi c (aj.upd D k) (aj.aS v k (aj.dv o Em))) (aj.upd D k) (aj.aS v k (aj.dv o Em))=aj.fw o0 o1 o2 o3 p (qI a (aj.pl ps k) js) c:=by
   unfold aE.app;rw[YI,E8 rfl,E8 rfl,Zm I.1 fun j E=>(Fj j E).1,jh fun j E=>(Fj j E).2]; rfl
  rw[ea];exact⟨T,J3 zu (fun n=>bg n)⟩
end
theorem aE.cJ {W:Ee} {f:List Ef->Array Ef->Array Ef} {D:Nat->Bool} {v:Nat->Ef} (h:ai W b t (aE.app i js f (aE.app i [] aj.fi c D v) D v)/\zU (aE.app i js f (aE.app i [] aj.fi c D v) D v)=true) (E:D i=false):ai W b t c:=by
 have h:=h.1;unfold aE.app at h
 rwa[E,E9 Bool.false_ne_true,E9 Bool.false_ne_true]at h
theorem aj.RQ {P:Program} {ops LL:Array Oper} {Q:Exit->Act->Ee->Prop} {G:Nat->Ef->Ee->Prop} {k:Nat} {o:Oper} {rest:List Oper} {a:Act} {x:Ef} (H:ops=LL) (t:Tmp) (I:aj.RC P ops Q J a9 V G Sx be pre post (k+1) rest a')
  (hc:a9 k=false:=by exact rfl) (hst:kv o.op=true:=by exact rfl) (hw:Region.wanted o (yielded LL a.tmps)=true:=by exact rfl) (hd:o.dst=some t:=by exact rfl) (ht:Nat.ble (t+1) a.tmps.size=true:=by exact rfl)
  (h:∀W,∀K:Act->World->Prop,Hid (K a' W)->o.wp P a W K (fun _ _ _=>False):=by (intro W' K E; go_step; exact E.out)) (M:a'=a.put o.dst x:=by exact rfl):aj.RC P ops Q J a9 V G Sx be pre post k (o::rest) a:=
 aj.bD a' x hc hst (by rw[H]; exact hw) (fun _ _ W _ _ _ K E=>h W K E) t hd (Eb ht) M I
end Go.Proofs.YtffmbepfbienaaaGreat
/- Four points: the arrangement that comes before all others (plain Lean). -/
namespace Go.Proofs.YtffmbepfbienaaaGreat
def jP:List Int->List Int->Int
 | x::xs,y::ys=>if x=y then jP xs ys else if x<y then -1 else 1
 | _,_=>0
theorem kS:∀l:List Int,jP l l=0
 | []=>rfl
 | x::xs=>by rw[jP,E8 rfl]; exact kS xs
theorem Xx:∀a b:List Int,jP b a = - jP a b
 | [],[]=>rfl
 | [],_::_=>rfl
 | _::_,[]=>rfl
 | x::xs,y::ys=>by
  unfold jP
  by_cases h:x=y
  . rw[E8 h,E8 h.symm]; exact Xx xs ys
  .
   rw[E9 h,E9 (Ne.symm h)]
   by_cases g:x<y
   . rw[E8 g,E9 D5]; rfl
   . rw[E9 g,E8 D5]
theorem Xy:∀a b:List Int,a.length=b.length->jP a b=0->a=b
 | [],[],_,_=>rfl
 | [],_::_,h,_=>by simp at h
 | _::_,[],h,_=>by simp at h
 | x::xs,y::ys,h,e=>by
  unfold jP at e
  by_cases g:x=y
  .
   rw[E8 g]at e;rw[g,Xy xs ys (by simpa using h) e]
  .
   rw[E9 g]at e
   split at e<;>cases e
theorem vK:∀a b c:List Int,jP a b<0->jP b c<0->jP a c<0
 | [],_,_,h,_=>by simp[jP]at h
 | _::_,[],_,h,_=>by simp[jP]at h
 | _::_,_::_,[],_,h=>by simp[jP]at h
 | x::xs,y::ys,z::zs,h,k=>by
  unfold jP at h k|-
  by_cases g:x=y
  .
   subst g;rw[E8 rfl]at h
   by_cases g2:x=z
   . rw[E8 g2]at k|-; exact vK xs ys zs h k
   . rw[E9 g2]at k|-; exact k
  .
   rw[E9 g]at h
   have E:x<y:=by
    by_cases q:x<y
    . exact q
    . rw[E9 q]at h; omega
   by_cases g2:y=z
   .
    subst g2;rw[E9 g,E8 E]; decide
   .
    rw[E9 g2]at k
    have H:y<z:=by
     by_cases q:y<z
     . exact q
     . rw[E9 q]at k; omega
    rw[E9 D5,E8 D5]; decide
structure aV where
 k0:Int
 k1:Int
 k2:Int
 k3:Int
 a1:Int
 a2:Int
 b1:Int
 b2:Int
 n:Int
deriving DecidableEq
def aV.key (a:aV):List Int:= [a.a1+a.b1,a.a1,a.a2,a.b1,a.b2,a.k0,a.k1,a.k2,a.k3]
def jy (a b:aV):Int:=jP a.key b.key
def zK:aV:=⟨0,0,0,0,0,0,0,0,0⟩
def aV.aQ (a b:aV):Bool:=decide (b.n<a.n)||(a.n==b.n&&(decide (0<a.n)&&decide (jy a b<0)))
theorem yW {a b:aV} : a.aQ b=true↔b.n<a.n\/(a.n=b.n/\0<a.n/\jy a b<0):=by
 unfold aV.aQ;simp only[Bool.or_eq_true,decide_eq_true_eq,Bool.and_eq_true,beq_iff_eq]
theorem QT {a b c:aV} (h:a.aQ b=true) (k:b.aQ c=true):a.aQ c=true:=by
 rw[yW]at *
 rcases h with h | ⟨I,H,E⟩<;>rcases k with k | ⟨k1,k2,k3⟩
 . exact .inl D5
 . exact .inl D5
 . exact .inl D5
 . exact .inr ⟨by omega,H,vK _ _ _ E k3⟩
theorem J4 (a:aV):a.aQ a=false:=by
 cases h:a.aQ a
 . rfl
 .
  rw[yW]at h;unfold jy at h;rw[kS]at h;omega
def xN (l:List aV):aV:=l.foldl (fun b a=>if a.aQ b then a else b) zK
theorem ZX (l:List aV) (a:aV):xN (l ++ [a])=if a.aQ (xN l)then a else xN l:=by unfold xN; rw[List.foldl_append]; rfl
theorem ZI (l:List aV) (h0:∀a∈l,0<=a.n):(xN l=zK/\∀a∈l,a.n=0)\/(xN l∈l/\0<(xN l).n/\∀a∈l,a.aQ (xN l)=false):=by
 have key:∀l r:List aV,l=r.reverse->(∀a∈l,0<=a.n)->(xN l=zK/\∀a∈l,a.n=0)\/(xN l∈l/\0<(xN l).n/\∀a∈l,a.aQ (xN l)=false):=by
  intro l r
  induction r generalizing l with
  | nil=>rintro rfl _; exact .inl ⟨rfl,fun a h=>by simp at h⟩
  | cons x r ih=>
   rintro rfl h0;rw[List.reverse_cons]at h0|-;rw[ZX];have H:=h0 x D8
   cases hb:x.aQ (xN r.reverse)
   .
    rw[E9 D8]
    rcases ih _ rfl (fun a E=>h0 a (List.mem_append_left _ E))with⟨h1,h2⟩ | ⟨h1,h2,h3⟩
    .
     refine .inl ⟨h1,fun a E=> ?_⟩
     rcases List.mem_append.1 E with g | g
     . exact h2 a g
     .
      rw[List.mem_singleton]at g; subst g;rw[h1]at hb;have:¬a.aQ zK=true:=by simp[hb]
      rw[yW]at this;simp only[zK]at this;omega
    .
     refine .inr ⟨List.mem_append_left _ h1,h2,fun a E=> ?_⟩
     rcases List.mem_append.1 E with g | g
     . exact h3 a g
     . rw[List.mem_singleton]at g; subst g; exact hb
   .
    rw[E8 rfl];refine .inr ⟨by simp,?_,fun a E=> ?_⟩
    .
     rcases ih _ rfl (fun a E=>h0 a (List.mem_append_left _ E))with⟨h1,h2⟩ | ⟨h1,h2,h3⟩
     .
      rw[h1]at hb;rw[yW]at hb;simp only[zK]at hb;omega
     . rw[yW]at hb; omega
    .
     rcases List.mem_append.1 E with g | g
     .
      rcases ih _ rfl (fun a E=>h0 a (List.mem_append_left _ E))with⟨h1,h2⟩ | ⟨h1,h2,h3⟩
      .
       cases hc:a.aQ x
       . rfl
       .
        rw[yW]at hc;have:=h2 a g;omega
      .
       cases hc:a.aQ x
       . rfl
       .
        have:=QT hc hb;rw[h3 a g]at this; cases this
     . rw[List.mem_singleton]at g; subst g; exact J4 a
 exact key l l.reverse (by rw[List.reverse_reverse]) h0
def jG (N:Int) (l:List aV):Option aV:=l.foldl (fun b a=>if a.n=N then(match b with | none=>some a | some c=>if jy a c<0 then some a else some c)else b) none
theorem j4 (N:Int) (l:List aV) (a:aV):jG N (l ++ [a])=if a.n=N then(match jG N l with | none=>some a | some c=>if jy a c<0 then some a else some c)else jG N l:=by unfold jG; rw[List.foldl_append]; rfl
theorem YL (N:Int) (l:List aV):(jG N l=none/\∀a∈l,a.n≠N)\/∃c,jG N l=some c/\c∈l/\c.n=N/\∀a∈l,a.n=N->¬jy a c<0:=by
 have key:∀l r:List aV,l=r.reverse->(jG N l=none/\∀a∈l,a.n≠N)\/∃c,jG N l=some c/\c∈l/\c.n=N/\∀a∈l,a.n=N->¬jy a c<0:=by
  intro l r
  induction r generalizing l with
  | nil=>rintro rfl; exact .inl ⟨rfl,fun a h=>by simp at h⟩
  | cons x r ih=>
   rintro rfl;rw[List.reverse_cons];rw[j4]
   by_cases hx:x.n=N
   .
    rw[E8 hx]
    rcases ih _ rfl with⟨h1,h2⟩ | ⟨c,h1,h2,h3,h4⟩
    .
     rw[h1];refine .inr ⟨x,rfl,by simp,hx,fun a E H=> ?_⟩
     rcases List.mem_append.1 E with g | g
     . exact absurd H (h2 a g)
     . rw[List.mem_singleton]at g; subst g; unfold jy; rw[kS]; omega
    .
     rw[h1];dsimp only
     by_cases hc:jy x c<0
     .
      rw[E8 hc];refine .inr ⟨x,rfl,by simp,hx,fun a E H I=> ?_⟩
      rcases List.mem_append.1 E with g | g
      . exact h4 a g H (vK _ _ _ I hc)
      . rw[List.mem_singleton]at g; subst g; unfold jy at I; rw[kS]at I; omega
     .
      rw[E9 hc];refine .inr ⟨c,rfl,List.mem_append_left _ h2,h3,fun a E H=> ?_⟩
      rcases List.mem_append.1 E with g | g
      . exact h4 a g H
      . rw[List.mem_singleton]at g; subst g; exact hc
   .
    rw[E9 hx]
    rcases ih _ rfl with⟨h1,h2⟩ | ⟨c,h1,h2,h3,h4⟩
    .
     refine .inl ⟨h1,fun a E=> ?_⟩
     rcases List.mem_append.1 E with g | g
     . exact h2 a g
     . rw[List.mem_singleton]at g; subst g; exact hx
    .
     refine .inr ⟨c,h1,List.mem_append_left _ h2,h3,fun a E H=> ?_⟩
     rcases List.mem_append.1 E with g | g
     . exact h4 a g H
     . rw[List.mem_singleton]at g; subst g; exact absurd H hx
 exact key l l.reverse (by rw[List.reverse_reverse])
theorem WR {a b:aV} (h:a.key=b.key) (M:a.n=b.n):a=b:=by
 unfold aV.key at h;simp only[List.cons.injEq,and_true]at h;obtain⟨-,H,E,X,Y,Z,T,h7,I⟩:=h
 cases a; cases b
 simp_all
theorem VN (l Y:List aV) (h0:∀a∈l,0<=a.n) (H:∀a,a∈l↔a∈Y) (N:Int) (hN:0<N) (E:∀a∈l,a.n<=N) (T:∃a∈l,a.n=N):jG N Y=some (xN l):=by
 obtain⟨x,I,M⟩:=T
 rcases ZI l h0 with⟨-,h2⟩ | ⟨h1,h2,h3⟩
 . have:=h2 x I; omega
 .
  have X:(xN l).n=N:=by
   have h4:=E _ h1;have h5:=h3 x I
   rcases(show (xN l).n<N\/(xN l).n>=N by omega)with g | g
   .
    have:x.aQ (xN l)=true:=yW.2 (.inl D5);rw[h5]at this; cases this
   . omega
  rcases YL N Y with⟨-,g2⟩ | ⟨c,g1,g2,g3,g4⟩
  . exact absurd M (g2 x ((H x).1 I))
  .
   rw[g1];have e1:=g4 _ ((H _).1 h1) X
   have e2:¬jy c (xN l)<0:=fun Z=>by
    have:=h3 c ((H c).2 g2);have t:c.aQ (xN l)=true:=yW.2 (.inr ⟨by omega,by omega,Z⟩);rw[this]at t; cases t
   have e3:jy c (xN l) = - jy (xN l) c:=Xx _ _;have e4:jy c (xN l)=0:=D5
   rw[WR (a:=c) (b:=xN l) (Xy c.key (xN l).key rfl e4) D5]
theorem VO (l:List aV) (h0:∀a∈l,a.n=0):xN l=zK:=by
 rcases ZI l (fun a E=>by rw[h0 a E]; omega)with⟨h,-⟩ | ⟨h1,h2,-⟩
 . exact h
 . have:=h0 _ h1; omega
theorem G_ (l:List aV) (h0:∀a∈l,0<=a.n) (E:∃a∈l,0<a.n):xN l∈l/\0<(xN l).n/\∀a∈l,a.aQ (xN l)=false:=by
 rcases ZI l h0 with⟨-,h⟩ | h
 .
  obtain⟨a,H,I⟩:=E;have:=h a H; omega
 . exact h
abbrev P4:=Nat×Nat×Nat×Nat
def bV:List P4:=(List.range 4).flatMap fun a=>(List.range 4).flatMap fun b=>(List.range 4).filterMap fun c=>if a≠b/\a≠c/\b≠c then some (a,b,c,6-a-b-c)else none
def xO (a b c:Nat):List P4:=bV.filter fun p=>decide (16*p.1+4*p.2.1+p.2.2.1<16*a+4*b+c)
theorem Yj:∀a,a<4->∀b,b<4->∀c,c<4->xO a b (c+1)=if a≠b/\a≠c/\b≠c then xO a b c ++ [(a,b,c,6-a-b-c)]else xO a b c:=by
 intro a H b E c hc
 rcases(show a=0\/a=1\/a=2\/a=3 by omega)with rfl | rfl | rfl | rfl<;>rcases(show b=0\/b=1\/b=2\/b=3 by omega)with rfl | rfl | rfl | rfl<;>rcases(show c=0\/c=1\/c=2\/c=3 by omega)with rfl | rfl | rfl | rfl<;>decide
theorem KV:∀a,a<4->∀b,b<4->xO a b 4=xO a (b+1) 0:=by
 intro a H b E
 rcases(show a=0\/a=1\/a=2\/a=3 by omega)with rfl | rfl | rfl | rfl<;>rcases(show b=0\/b=1\/b=2\/b=3 by omega)with rfl | rfl | rfl | rfl<;>decide
theorem UL:∀a,a<4->∀b,b<4->a=b->xO a b 0=xO a (b+1) 0:=by
 intro a H b E
 rcases(show a=0\/a=1\/a=2\/a=3 by omega)with rfl | rfl | rfl | rfl<;>rcases(show b=0\/b=1\/b=2\/b=3 by omega)with rfl | rfl | rfl | rfl<;>decide
theorem KW:∀a,a<4->xO a 4 0=xO (a+1) 0 0:=by decide
theorem KX:xO 0 0 0 = []:=by decide
theorem Xz:xO 4 0 0=bV:=by decide
theorem VP:∀p∈bV,p.1<4/\p.2.1<4/\p.2.2.1<4/\p.2.2.2<4/\p.1≠p.2.1/\p.1≠p.2.2.1/\p.1≠p.2.2.2/\p.2.1≠p.2.2.1/\p.2.1≠p.2.2.2/\p.2.2.1≠p.2.2.2:=by decide
theorem QU:∀a,a<4->∀b,b<4->a≠b->∃p∈bV,p.1=a/\p.2.1=b:=by decide
end Go.Proofs.YtffmbepfbienaaaGreat
/- Four points: the arrangements' numbers (plain Lean). -/
namespace Go.Proofs.YtffmbepfbienaaaGreat
def j5 (I H vx E:Int):Int:=vx*I+E*H
def kl (I H vx E:Int):Int:=E*I-vx*H
def kh (H E:Int):Int:=H*H+E*E
def XA (k0 k1 k2 k3 i:Nat):Nat:=match i with | 0=>k0 | 1=>k1 | 2=>k2 | _=>k3
abbrev PL:=List (Int×Int)
def pt (l:PL) (k:Nat):Int×Int:=l.getD k (0,0)
def XB (p q:Int×Int):Int:=kh (q.1-p.1) (q.2-p.2)
theorem Zo (p q:Int×Int):XB p q=XB q p:=by
 unfold XB kh;have E:q.1-p.1 = -(p.1-q.1):=D5
 have H:q.2-p.2 = -(p.2-q.2):=D5
 rw[E,H,Int.neg_mul_neg,Int.neg_mul_neg]
theorem jz (x y:Int):0<=kh x y:=by
 unfold kh;have E:0<=x*x:=by rcases Int.le_total 0 x with h | h; exact Int.mul_nonneg h h; exact Int.mul_nonneg_of_nonpos_of_nonpos h h
 have H:0<=y*y:=by rcases Int.le_total 0 y with h | h; exact Int.mul_nonneg h h; exact Int.mul_nonneg_of_nonpos_of_nonpos h h
 omega
theorem YM (p q:Int×Int):0<=XB p q:=jz _ _
def UM (k0 k1 k2 k3:Nat) (p0 p1 p2 p3:Int×Int):aV:=
 ⟨k0,k1,k2,k3,j5 (p1.1-p0.1) (p1.2-p0.2) (p2.1-p0.1) (p2.2-p0.2),kl (p1.1-p0.1) (p1.2-p0.2) (p2.1-p0.1) (p2.2-p0.2),
  j5 (p1.1-p0.1) (p1.2-p0.2) (p3.1-p0.1) (p3.2-p0.2),kl (p1.1-p0.1) (p1.2-p0.2) (p3.1-p0.1) (p3.2-p0.2),XB p0 p1⟩
def yQ (l:PL) (K:Nat->Nat) (p:P4):aV:=UM (K p.1) (K p.2.1) (K p.2.2.1) (K p.2.2.2) (pt l (K p.1)) (pt l (K p.2.1)) (pt l (K p.2.2.1)) (pt l (K p.2.2.2))
def dst (l:PL) (K:Nat->Nat) (i k:Nat):Int:=XB (pt l (K i)) (pt l (K k))
theorem WS (l:PL) (K:Nat->Nat) (p:P4):(yQ l K p).n=dst l K p.1 p.2.1:=rfl
def jB (l:PL) (K:Nat->Nat):Int:=
 max (max (max (max (max (max 0 (dst l K 1 0)) (dst l K 2 0)) (dst l K 2 1)) (dst l K 3 0)) (dst l K 3 1)) (dst l K 3 2)
theorem jQ (l:PL) (K:Nat->Nat) (i k:Nat):dst l K i k=dst l K k i:=Zo _ _
theorem G' (l:PL) (K:Nat->Nat) {i k:Nat} (I:i<4) (H:k<4) (E:i≠k):dst l K i k<=jB l K:=by
 have a:=jQ l K 0 1;have b:=jQ l K 0 2;have c:=jQ l K 0 3;have d:=jQ l K 1 2;have e:=jQ l K 1 3;have f:=jQ l K 2 3;unfold jB
 rcases(show i=0\/i=1\/i=2\/i=3 by omega)with rfl | rfl | rfl | rfl<;>rcases(show k=0\/k=1\/k=2\/k=3 by omega)with rfl | rfl | rfl | rfl<;>first | exact absurd rfl E | omega
theorem J5 (l:PL) (K:Nat->Nat):0<=jB l K:=by unfold jB; omega
theorem Ha (l:PL) (K:Nat->Nat) (h:0<jB l K):∃i k,i<4/\k<4/\i≠k/\dst l K i k=jB l K:=by
 have key:jB l K=0\/jB l K=dst l K 1 0\/jB l K=dst l K 2 0\/jB l K=dst l K 2 1\/jB l K=dst l K 3 0\/jB l K=dst l K 3 1\/jB l K=dst l K 3 2:=by unfold jB; omega
 rcases key with e | e | e | e | e | e | e
 . omega
 . exact⟨1,0,by decide,by decide,by decide,e.symm⟩
 . exact⟨2,0,by decide,by decide,by decide,e.symm⟩
 . exact⟨2,1,by decide,by decide,by decide,e.symm⟩
 . exact⟨3,0,by decide,by decide,by decide,e.symm⟩
 . exact⟨3,1,by decide,by decide,by decide,e.symm⟩
 . exact⟨3,2,by decide,by decide,by decide,e.symm⟩
def QW (l:PL) (K:Nat->Nat):List aV:=bV.map (yQ l K)
theorem kH (l:PL) (K:Nat->Nat):∀a∈QW l K,0<=a.n:=by
 intro a E;obtain⟨p,-,rfl⟩:=List.mem_map.1 E;exact YM _ _
theorem X5 (l:PL) (K:Nat->Nat):∀a∈QW l K,a.n<=jB l K:=by
 intro a H;obtain⟨p,M,rfl⟩:=List.mem_map.1 H;obtain⟨I,E,-,-,T,-⟩:=VP p M;exact G' l K I E T
theorem KY (l:PL) (K:Nat->Nat) (h:0<jB l K):∃a∈QW l K,a.n=jB l K:=by
 obtain⟨i,k,I,H,E,e⟩:=Ha l K h;obtain⟨p,M,rfl,rfl⟩:=QU i I k H E;exact⟨_,List.mem_map.2 ⟨p,M,rfl⟩,e⟩
def yA (l:PL) (K:Nat->Nat):aV:=xN (QW l K)
theorem J6 (l:PL) (K:Nat->Nat) (h:0<jB l K):jG (jB l K) (QW l K)=some (yA l K):=
 VN _ _ (kH l K) (fun _=>Iff.rfl) _ h (X5 l K) (KY l K h)
theorem QY (l:PL) (K:Nat->Nat) (h:jB l K=0):yA l K=zK:=
 VO _ fun a E=>by have:=kH l K a E; have:=X5 l K a E; omega
theorem qU (l:PL) (K:Nat->Nat) (h:0<jB l K):yA l K∈QW l K/\(yA l K).n=jB l K/\∀a∈QW l K,a.aQ (yA l K)=false:=by
 obtain⟨a,E,X⟩:=KY l K h;obtain⟨H,T,I⟩:=G_ _ (kH l K) ⟨a,E,by omega⟩;refine⟨H,?_,I⟩;have Y:=X5 l K _ H;have M:=I a E
 rcases(show (yA l K).n<jB l K\/(yA l K).n=jB l K by unfold yA at *; omega)with g | g
 .
  have:a.aQ (xN (QW l K))=true:=yW.2 (.inl (by unfold yA at g; omega));rw[M]at this; cases this
 . exact g
end Go.Proofs.YtffmbepfbienaaaGreat
/- Four points: other orders of the indices, and moved points (plain Lean). -/
namespace Go.Proofs.YtffmbepfbienaaaGreat
def K' (K:Nat->Nat) (i:Nat):Nat:=K (XA 2 0 3 1 i)
def aV.scale (s:Int) (a:aV):aV:=⟨a.k0,a.k1,a.k2,a.k3,s*a.a1,s*a.a2,s*a.b1,s*a.b2,s*a.n⟩
def mv (E H M I:Int) (p:Int×Int):Int×Int:=(p.1*E-p.2*H+M,p.1*H+p.2*E+I)
end Go.Proofs.YtffmbepfbienaaaGreat
/- Four points: the code of the xN arrangement lies Hb its bounds (plain Lean). -/
namespace Go.Proofs.YtffmbepfbienaaaGreat
variable {x:Int}
theorem YN (x:Int):0<=x*x:=by
 rcases Int.le_total 0 x with h | h
 . exact Int.mul_nonneg h h
 . exact Int.mul_nonneg_of_nonpos_of_nonpos h h
theorem UN {y:Int} (h0:0<=x) (h:x<y):x*x<y*y:=by
 have E:0<(y-x)*(y+x):=Int.mul_pos D5 D5;simp only[Int.sub_mul,Int.mul_add]at E;have H:x*y=y*x:=Int.mul_comm x y;omega
theorem XC {n:Int} (E:0<=n) (h:x*x<=n*n) : -n<=x/\x<=n:=by
 constructor
 .
  rcases(show x < -n\/ -n<=x by omega)with g | g
  .
   have:=UN E (show n < -x by omega);rw[Int.neg_mul_neg]at this;omega
  . exact g
 .
  rcases(show n<x\/x<=n by omega)with g | g
  .
   have:=UN E g;omega
  . exact g
theorem Hb {H E vx I:Int} (T:kh vx I<=kh H E) (X:kh (vx-H) (I-E)<=kh H E) :
  (0<=j5 H E vx I/\j5 H E vx I<=kh H E)/\(-kh H E<=kl H E vx I/\kl H E vx I<=kh H E):=by
 have M:=jz H E;have Y:=jz vx I;have Z:=jz (vx-H) (I-E)
 have e:kh (vx-H) (I-E)=kh vx I-2*j5 H E vx I+kh H E:=by
  unfold kh j5; simp only[Int.sub_mul,Int.mul_sub]; simp only[Int.mul_comm H vx,Int.mul_comm E I]; omega
 have q:j5 H E vx I*j5 H E vx I+kl H E vx I*kl H E vx I=kh H E*kh vx I:=by
  unfold kh j5 kl; simp only[Int.sub_mul,Int.mul_sub,Int.add_mul,Int.mul_add]; simp only[Int.mul_comm,Int.mul_left_comm,Int.mul_assoc]; omega
 have m:=Int.mul_le_mul_of_nonneg_left T M;have s1:=YN (j5 H E vx I);have s2:=YN (kl H E vx I);have a:=XC (x:=j5 H E vx I) M D5;have b:=XC (x:=kl H E vx I) M D5;exact⟨⟨by omega,a.2⟩,b⟩
theorem UO {l:PL} {K:Nat->Nat} (h:0<jB l K):∃p∈bV,yA l K=yQ l K p:=by
 obtain⟨p,E,e⟩:=List.mem_map.1 (qU l K h).1;exact⟨p,E,e.symm⟩
end Go.Proofs.YtffmbepfbienaaaGreat
/- The sets of four of the first n indices (plain Lean): the iterator's order, and the nested loops'. -/
namespace Go.Proofs.YtffmbepfbienaaaGreat
variable {a b c n:Nat}
def J7 (n:Nat) (x:P4):P4:=
 if x.2.2.2+1<n then(x.1,x.2.1,x.2.2.1,x.2.2.2+1)else if x.2.2.1+2<n then(x.1,x.2.1,x.2.2.1+1,x.2.2.1+2)else if x.2.1+3<n then(x.1,x.2.1+1,x.2.1+2,x.2.1+3)else(x.1+1,x.1+2,x.1+3,x.1+4)
def X6 (n:Nat):Nat->P4
 | 0=>(0,1,2,3)
 | i+1=>J7 n (X6 n i)
def Qp (a b c:Nat) (d:Nat):List P4:=(List.range' (c+1) (d-(c+1))).map fun d=>(a,b,c,d)
def Y' (n a b:Nat) (c:Nat):List P4:=(List.range' (b+1) (c-(b+1))).flatMap fun c=>Qp a b c n
def Yk (n a:Nat) (b:Nat):List P4:=(List.range' (a+1) (b-(a+1))).flatMap fun b=>Y' n a b n
def Ya (n:Nat) (a:Nat):List P4:=(List.range' 0 a).flatMap fun a=>Yk n a n
def yy (n:Nat):List P4:=Ya n n
theorem j6 {s m:Nat} (h:s<=m):List.range' s (m+1-s)=List.range' s (m-s) ++ [m]:=by
 rw[show m+1-s=(m-s)+1 by omega,List.range'_concat]; congr 2; omega
theorem Bo (a b c:Nat):Qp a b c (c+1) = []:=by unfold Qp; simp
theorem Bp (n a b:Nat):Y' n a b (b+1) = []:=by unfold Y'; simp
theorem Bq (n a:Nat):Yk n a (a+1) = []:=by unfold Yk; simp
theorem Br (n:Nat):Ya n 0 = []:=by unfold Ya; simp
theorem Bt {d:Nat} (h:c+1<=d):Qp a b c (d+1)=Qp a b c d ++ [(a,b,c,d)]:=by unfold Qp; rw[j6 h,List.map_append]; rfl
theorem Bu (h:b+1<=c):Y' n a b (c+1)=Y' n a b c++Qp a b c n:=by unfold Y'; rw[j6 h,List.flatMap_append]; simp
theorem Bv (h:a+1<=b):Yk n a (b+1)=Yk n a b++Y' n a b n:=by unfold Yk; rw[j6 h,List.flatMap_append]; simp
theorem Bx : Ya n (a+1)=Ya n a++Yk n a n:=by unfold Ya; have:=j6 (s:=0) (m:=a) (Nat.zero_le _); simp only[Nat.sub_zero]at this; rw[this,List.flatMap_append]; simp
def Zp (n:Nat) (x:P4):Bool:=decide (x.1<x.2.1)&&decide (x.2.1<x.2.2.1)&&decide (x.2.2.1<x.2.2.2)&&decide (x.2.2.2<n)
theorem KZ:∀n,n<=7->(yy n).length<=35/\(∀i,i<(yy n).length->(yy n)[i]? = some (X6 n i)/\Zp n (X6 n i)=true)/\n<=(X6 n (yy n).length).2.2.2:=by
 intro n E
 rcases(show n=0\/n=1\/n=2\/n=3\/n=4\/n=5\/n=6\/n=7 by omega)with rfl | rfl | rfl | rfl | rfl | rfl | rfl | rfl<;>decide
theorem ZJ {x:P4} (h:Zp n x=true):x.1<x.2.1/\x.2.1<x.2.2.1/\x.2.2.1<x.2.2.2/\x.2.2.2<n:=by
 unfold Zp at h;simp only[Bool.and_eq_true,decide_eq_true_eq]at h;exact⟨h.1.1.1,h.1.1.2,h.1.2,h.2⟩
def K4 (x:P4):Nat->Nat:=XA x.1 x.2.1 x.2.2.1 x.2.2.2
def qs (l:PL) (xs:List P4):List aV:=xs.filterMap fun x=>if 0<jB l (K4 x)then some (yA l (K4 x))else none
theorem K5 (l:PL) (xs:List P4) (x:P4):qs l (xs ++ [x])=if 0<jB l (K4 x)then qs l xs ++ [yA l (K4 x)]else qs l xs:=by
 unfold qs; rw[List.filterMap_append]; by_cases h:0<jB l (K4 x)<;>simp[h]
theorem J8 (l:PL) (xs:List P4):(qs l xs).length<=xs.length:=List.length_filterMap_le _ _
end Go.Proofs.YtffmbepfbienaaaGreat
/- a call that gives Cp fractions, in a drawn region (w3.chain's kind fr2) -/
namespace Go.Proofs.YtffmbepfbienaaaGreat
open Go.RowKit
variable {e:Int} {r s:Rat} {u v:Ef} {W:Ee}
def By (x:Ef):Prop:=∃a s n c b t m d a' T E c' b' H M I,x = Ev #[Ej #[Ez a,Ex s n c,Ez b,Ex t m d],Ej #[Ez a',Ex T E c',Ez b',Ex H M I]]
def dV (r s:Rat) (x:Ef) (W:Ee):Prop:=∃u v,x = Ev #[u,v]/\FR W u r/\FR W v s
theorem dV.af (x:Ef) (W W':Ee) (k:av W W') (h:dV r s x W):dV r s x W':=by obtain⟨u,v,E,I,H⟩:=h; exact⟨u,v,E,I.af k,H.af k⟩
theorem dV.get (h:dV r s (Ev #[u,v]) W):FR W u r/\FR W v s:=by
 obtain⟨M,v',E,I,H⟩:=h;simp only[Value.tuple.injEq,Array.mk.injEq,List.cons.injEq,and_true]at E;obtain⟨rfl,rfl⟩:=E;exact⟨I,H⟩
def Cy (e:Int) (x:Ef):Prop:=∃a s n c b t m d a' T E c' b' H M I,x = Ev #[Ej #[Ez a,Ex s n c,Ez b,Ex t m d],Ej #[Ez a',Ex T E c',Ez b',Ex H M I],Ey Ew e]
def dM (r s:Rat) (e:Int) (x:Ef) (W:Ee):Prop:=∃u v,x = Ev #[u,v,Ey Ew e]/\FR W u r/\FR W v s
theorem dM.af (x:Ef) (W W':Ee) (k:av W W') (h:dM r s e x W):dM r s e x W':=by obtain⟨u,v,E,I,H⟩:=h; exact⟨u,v,E,I.af k,H.af k⟩
theorem dM.get (h:dM r s e (Ev #[u,v,Ey Ew e]) W):FR W u r/\FR W v s:=by
 obtain⟨M,v',E,I,H⟩:=h;simp only[Value.tuple.injEq,Array.mk.injEq,List.cons.injEq,and_true]at E;obtain⟨rfl,rfl⟩:=E;exact⟨I,H⟩
def XD (i:Nat):Ef->Ef
 | Ev a=>a.getD i (Ez false)
 | _=> Ez false
end Go.Proofs.YtffmbepfbienaaaGreat
