import Derived.Test.YtffmbepfbienaaaGreatZNe
set_option linter.unusedVariables false
set_option linter.unusedSimpArgs false
set_option maxHeartbeats 6400000
set_option maxRecDepth 1000000
open Go.Value renaming slice->Cq,bool->Cx,int->Cz,agg->Cy,pointer->Cj,tuple->Ck
open Go.IntKind renaming i64->Cv
open Go.Ending renaming returned->Cg
open Go.Proofs.Tryz renaming prog->Ch
open Go renaming Calls->Cb,World->Cc,Value->Cd,TypeId->Ce,undef->Cf,bodyPost_ret->Ci
open Nat renaming le_refl->Cl
open Go.World renaming cell?->Cn,size_alloc->Co
namespace Go.Proofs.YtffmbepfbienaaaGreat
open Go.RowKit
variable {cs:Array Cd} {L g k p q x y:Int} {r:Nat} {t:Ce} {v va vb:Cd} {w w':Cc}
theorem KS (I gy:Bool) {sa sb:Cd} {la lb:List Int} (w:Cc) (ha:aA w sa la) (hb:aA w sb lb) :
  Cb Ch 58 #[Cy #[Cx I,sa,Cx gy,sb]] w fun e w'=>e = Cg (Cz Cv (xp (jC I la gy lb)))/\zf w w':=by
 have gb:¬(zS I la/\zS gy lb)->∀w',zf w w'->Cb Ch 96 #[Cy #[Cx I,sa],Cy #[Cx gy,sb]] w' fun e w2=>e = Cg (Ck #[Cy #[Cx false,Cq none 0 0],Cz Cv 8])/\zf w' w2:=fun hv w' h=>Ud I gy w' (ha.ae h) (hb.ae h) hv
 have gc:zS I la->zS gy lb->∀w',zf w w'->Cb Ch 96 #[Cy #[Cx I,sa],Cy #[Cx gy,sb]] w' fun e w2=>∃v,e = Cg (Ck #[v,Cz Cv 0])/\az w2 v (ym (zv I (zj la)) (zv gy (zj lb)))/\fits (ym (zv I (zj la)) (zv gy (zj lb)))/\zf w' w2:=fun va vb w' h=>
  Gn w' (kR (ha.ae h) va) (kR (hb.ae h) vb) (Zq ha.ok va) (Zq hb.ok vb)
 have zr:zS gy lb->∀w',zf w w'->Cb Ch 97 #[Cy #[Cx gy,sb]] w' fun e w2=>e = Cg (Cx (decide (zv gy (zj lb)=0)))/\zf w' w2:=fun vb w' h=>KO w' (kR (hb.ae h) vb)
 have dd:zS gy lb->(zv gy (zj lb)=0↔lb = []):=fun vb=>by
  have h1:=zD hb.ok;have h2:=ye hb.ok;rw[vb.2.1]at h2;have h3:=zT h1;rw[h2]at h3;rw[h3];unfold zv
  split<;>omega
 obtain⟨aa,ca,rfl⟩:=ha.au;obtain⟨ab,cb,rfl⟩:=hb.au;obtain⟨n,hn⟩:∃n,la.length=n:=⟨_,rfl⟩;obtain⟨m,hm⟩:∃m,lb.length=m:=⟨_,rfl⟩;rw[hn]at gb gc|-;rw[hm]at gb gc zr|-;have dc:m=0↔lb = []:=by rw[<- hm]; exact List.length_eq_zero_iff
 clear ha hb hn hm
 by_cases hv:zS I la/\zS gy lb
 .
  obtain⟨h1,h2⟩:=hv;have br:=gc h1 h2;have bt:=zr h2;have hz:=dd h2;clear gc gb zr dd
  cases gy with
  | true=>
   have H:Hid (xp (jC I la true lb)=8):=C8 (fun h=>by have:=h.2.2.1; cases this);clear h1 h2 dc bt hz
   go_enter Tryz.func58,Tryz.ntmps58
   go_wp2_with fail
   refine(br _ zi).mono ?_;rintro e M ⟨vg,rfl,Y,d9,cY⟩;have st:zf _ M:=cY;have T:=bA w st;have of:ai M w.heap.size 28 #[Cx I,Cq aa n ca,Cx true,Cq ab m cb]:=ai.aw st;clear st;have B:=T;clear T;obtain⟨bh,X,Z,ah,ff,lf⟩:=of.s3;clear br;obtain⟨bg,ag,ng,cg,rfl⟩:=Y.au;have NG:=C5 Y;clear Y;have dl:w.heap.size<M.heap.size:=of.lt;go_wp2_with fail
   go_quiet (fail)
   go_wp2
   go_returns
   exact⟨yT H.out.symm,zi⟩
  | false=>
   by_cases h0:lb = []
   .
    have H:Hid (xp (jC I la false lb)=8):=C8 (fun h=>h.2.2.2.1 h0);simp only[C9 (hz.2 h0)]at bt;clear h1 h2 dc hz h0
    go_enter Tryz.func58,Tryz.ntmps58
    go_wp2_with fail
    refine(br _ zi).mono ?_;rintro e M ⟨vg,rfl,Y,d9,cY⟩;have st:zf _ M:=cY;have T:=bA w st;have of:ai M w.heap.size 28 #[Cx I,Cq aa n ca,Cx false,Cq ab m cb]:=ai.aw st;clear st;have B:=T;clear T;obtain⟨bh,X,Z,ah,ff,lf⟩:=of.s3;clear br;obtain⟨bg,ag,ng,cg,rfl⟩:=Y.au;have NG:=C5 Y;clear Y;have dl:w.heap.size<M.heap.size:=of.lt;go_wp2_with fail
    go_region_with (go_at_call 97; refine(bt _ zi).mono ?_; rintro e E ⟨rfl,bq⟩; go_must (have st:zf _ E:=bq; have T:=bA w st; have nf:ai E w.heap.size 28 #[Cx I,Cq aa n ca,Cx false,Cq ab m cb]:=ai.aw st; have ng:ai E M.heap.size 26 #[Cx bg,Cq ag ng cg]:=ai.aw st; clear B of bh X Z ah ff lf; clear st; have B:=T; clear T; have of:=nf; clear nf; have bh:Cn E ⟨w.heap.size,0,none⟩=some (Cx I):=of.c 0 rfl; have X:Cn E ⟨w.heap.size,1,none⟩=some (Cq aa n ca):=of.c 1 rfl; have Z:Cn E ⟨w.heap.size,2,none⟩=some (Cx false):=of.c 2 rfl; have ah:Cn E ⟨w.heap.size,3,none⟩=some (Cq ab m cb):=of.c 3 rfl; have ff:=of.fr; have lf:=of.lt; have og:=ng; clear ng; have cN:Cn E ⟨M.heap.size,0,none⟩=some (Cx bg):=og.c 0 rfl; have cy:Cn E ⟨M.heap.size,1,none⟩=some (Cq ag ng cg):=og.c 1 rfl; have fg:=og.fr; have lg:=og.lt))
    all_goals (go_wp2; go_returns; exact⟨yT H.out.symm,zi⟩)
   .
    have HV:xp (jC I la false lb)=if ym (zv I (zj la)) (zv false (zj lb))=1 then 0 else 8:=by
     by_cases hg:ym (zv I (zj la)) (zv false (zj lb))=1
     . rw[C7 hg]; exact C7 ⟨h1,h2,rfl,h0,hg⟩
     . rw[C8 hg]; exact C8 (fun h=>hg h.2.2.2.2)
    simp only[C_ (fun e=>h0 (hz.1 e))]at bt;obtain⟨G,hG⟩:∃G,ym (zv I (zj la)) (zv false (zj lb))=G:=⟨_,rfl⟩;rw[hG]at br HV;clear h1 h2 dc hG h0 hz;have sm:∀w' va vb,az w' va G->az w' vb 1->fits G->Cb Ch 98 #[va,vb] w' fun e w2=>e = Cg (Cx (decide (G=1)))/\zf w' w2:=fun w' va vb h1 h2 h3=>Gm w' h1 h2 h3 (xO (by unfold zh; omega))
    by_cases hg:G=1
    focus
     rw[C7 hg]at HV;have H:=C5 HV;simp only[C9 hg]at sm
    rotate_left
    focus
     rw[C8 hg]at HV;have H:=C5 HV;simp only[C_ hg]at sm
    rotate_left
    all_goals
     clear HV hg
     go_enter Tryz.func58,Tryz.ntmps58
     go_wp2_with fail
     refine(br _ zi).mono ?_;rintro e M ⟨vg,rfl,Y,d9,cY⟩;have st:zf _ M:=cY;have T:=bA w st;have of:ai M w.heap.size 28 #[Cx I,Cq aa n ca,Cx false,Cq ab m cb]:=ai.aw st;clear st;have B:=T;clear T;obtain⟨bh,X,Z,ah,ff,lf⟩:=of.s3;clear br;obtain⟨bg,ag,ng,cg,rfl⟩:=Y.au;have NG:=C5 Y;clear Y;have dl:w.heap.size<M.heap.size:=of.lt;go_wp2_with fail
     go_region_held3 (fun w'=>w'.cell? ⟨w.heap.size,0,none⟩=some (Cx I)/\w'.cell? ⟨w.heap.size,1,none⟩=some (Cq aa n ca)/\w'.cell? ⟨w.heap.size,2,none⟩=some (Cx false)/\w'.cell? ⟨w.heap.size,3,none⟩=some (Cq ab m cb)/\w'.cell? ⟨M.heap.size,0,none⟩=some (Cx bg)/\w'.cell? ⟨M.heap.size,1,none⟩=some (Cq ag ng cg))
      ((refine⟨ai.c (t:=28) (cs:=#[Cx I,Cq aa n ca,Cx false,Cq ab m cb]) ?_ 0 rfl,ai.c (t:=28) (cs:=#[Cx I,Cq aa n ca,Cx false,Cq ab m cb]) ?_ 1 rfl,ai.c (t:=28) (cs:=#[Cx I,Cq aa n ca,Cx false,Cq ab m cb]) ?_ 2 rfl,ai.c (t:=28) (cs:=#[Cx I,Cq aa n ca,Cx false,Cq ab m cb]) ?_ 3 rfl,ai.c (t:=26) (cs:=#[Cx bg,Cq ag ng cg]) ?_ 0 rfl,ai.c (t:=26) (cs:=#[Cx bg,Cq ag ng cg]) ?_ 1 rfl⟩<;>(repeat' first | with_reducible assumption | (with_reducible refine ai.bO ?_; first | with_reducible rfl | (simp only[Co,World.size_setCell,World.size_drew]; done)) | with_reducible refine ai.alloc ?_ _ | with_reducible refine ai.drew ?_ | with_reducible refine ai.drewN ?_ _ | with_reducible apply ai.both | with_reducible refine ai.aG ?_ ?_ | (show _≠_; omega))))
      (first
       | ((go_at_call 97; refine(bt _ zi).mono ?_; rintro e E ⟨rfl,bq⟩; go_must (have dP:=C5 (NG.out.ae (((Below.refl _ _).alloc (Cl _) _).drew.trans (bq.mono C3))); have st:zf _ E:=bq; have T:=bA w st; have nf:ai E w.heap.size 28 #[Cx I,Cq aa n ca,Cx false,Cq ab m cb]:=ai.aw st; have ng:ai E M.heap.size 26 #[Cx bg,Cq ag ng cg]:=ai.aw st; clear B of bh X Z ah ff lf; clear st; have B:=T; clear T; have of:=nf; clear nf; have bh:Cn E ⟨w.heap.size,0,none⟩=some (Cx I):=of.c 0 rfl; have X:Cn E ⟨w.heap.size,1,none⟩=some (Cq aa n ca):=of.c 1 rfl; have Z:Cn E ⟨w.heap.size,2,none⟩=some (Cx false):=of.c 2 rfl; have ah:Cn E ⟨w.heap.size,3,none⟩=some (Cq ab m cb):=of.c 3 rfl; have ff:=of.fr; have lf:=of.lt; have og:=ng; clear ng; have cN:Cn E ⟨M.heap.size,0,none⟩=some (Cx bg):=og.c 0 rfl; have cy:Cn E ⟨M.heap.size,1,none⟩=some (Cq ag ng cg):=og.c 1 rfl; have fg:=og.fr; have lg:=og.lt; have Z1:=C5 (C6 bq trivial))))
       | ((go_at_call 99; refine(Hf _).mono ?_; rintro e E ⟨vo,rfl,dk,bq⟩; go_must (have dy:=C5 (dP.out.ae bq); have st:zf _ E:=bq; have T:=bA w st; have nf:ai E w.heap.size 28 #[Cx I,Cq aa n ca,Cx false,Cq ab m cb]:=ai.aw st; have ng:ai E M.heap.size 26 #[Cx bg,Cq ag ng cg]:=ai.aw st; clear B of og bh X Z ah ff lf cN cy fg lg; clear st; have B:=T; clear T; have of:=nf; clear nf; have bh:Cn E ⟨w.heap.size,0,none⟩=some (Cx I):=of.c 0 rfl; have X:Cn E ⟨w.heap.size,1,none⟩=some (Cq aa n ca):=of.c 1 rfl; have Z:Cn E ⟨w.heap.size,2,none⟩=some (Cx false):=of.c 2 rfl; have ah:Cn E ⟨w.heap.size,3,none⟩=some (Cq ab m cb):=of.c 3 rfl; have ff:=of.fr; have lf:=of.lt; have og:=ng; clear ng; have cN:Cn E ⟨M.heap.size,0,none⟩=some (Cx bg):=og.c 0 rfl; have cy:Cn E ⟨M.heap.size,1,none⟩=some (Cq ag ng cg):=og.c 1 rfl; have fg:=og.fr; have lg:=og.lt; obtain⟨em,ec,ek,er,rfl⟩:=dk.au; have NO:=C5 dk; clear dk)))
       | ((go_at_call 98; refine(sm _ _ _ dy.out NO.out d9).mono ?_; rintro e E ⟨rfl,bq⟩; go_must (have st:zf _ E:=bq; have T:=bA w st; have nf:ai E w.heap.size 28 #[Cx I,Cq aa n ca,Cx false,Cq ab m cb]:=ai.aw st; have ng:ai E M.heap.size 26 #[Cx bg,Cq ag ng cg]:=ai.aw st; clear B of og bh X Z ah ff lf cN cy fg lg; clear st; have B:=T; clear T; have of:=nf; clear nf; have bh:Cn E ⟨w.heap.size,0,none⟩=some (Cx I):=of.c 0 rfl; have X:Cn E ⟨w.heap.size,1,none⟩=some (Cq aa n ca):=of.c 1 rfl; have Z:Cn E ⟨w.heap.size,2,none⟩=some (Cx false):=of.c 2 rfl; have ah:Cn E ⟨w.heap.size,3,none⟩=some (Cq ab m cb):=of.c 3 rfl; have ff:=of.fr; have lf:=of.lt; have og:=ng; clear ng; have cN:Cn E ⟨M.heap.size,0,none⟩=some (Cx bg):=og.c 0 rfl; have cy:Cn E ⟨M.heap.size,1,none⟩=some (Cq ag ng cg):=og.c 1 rfl; have fg:=og.fr; have lg:=og.lt))))
     go_wp2
     go_returns
     exact⟨yT H.out.symm,zi⟩
 .
  have H:Hid (xp (jC I la gy lb)=8):=C8 (fun h=>hv ⟨h.1,h.2.1⟩);have dx:=gb hv;clear gb gc zr dd hv dc
  go_enter Tryz.func58,Tryz.ntmps58
  go_wp2_with fail
  refine(dx _ zi).mono ?_;rintro e M ⟨rfl,st⟩;have T:=bA w st;have of:ai M w.heap.size 28 #[Cx I,Cq aa n ca,Cx gy,Cq ab m cb]:=ai.aw st;clear st;have B:=T;clear T;obtain⟨bh,X,Z,ah,ff,lf⟩:=of.s3;clear dx;go_wp2_with fail
  go_quiet (fail)
  go_wp2
  go_returns
  exact⟨yT H.out.symm,zi⟩
def cB (w:Cc) (v:Cd) (p q:Int):Prop:=∃H E,v = Cy #[Cx (decide (p<0)),H,Cx false,E]/\aA w H (zn (zh p))/\aA w E (zn q)/\0<q/\ym p q=1/\fits p/\fits q
theorem cB.ae (h:cB w v p q) (E:zf w w'):cB w' v p q:=by
 obtain⟨T,I,e,M,H,h⟩:=h;exact⟨T,I,e,M.ae E,H.ae E,h⟩
theorem Ue (p:Int):zv (decide (p<0)) (zh p)=p:=by
 unfold zv zh
 by_cases h:p<0
 . rw[C9 h]; simp; omega
 . rw[C_ h]; simp; omega
theorem JP (q0:0<q) (I:ym p q=1) (H:fits p) (M:fits q):jC (decide (p<0)) (zn (zh p)) false (zn q):=by
 have E:=xf M;rw[C_ B_,qL B_]at E;refine⟨xf H,E,rfl,fun e=>by have:=(zT B_).1 e; omega,?_⟩;rw[zA (zt p),zA B_,Ue];exact I
theorem JQ (w:Cc) (h:cB w v p q):Cb Ch 58 #[v] w fun e w'=>e = Cg (Cz Cv 0)/\zf w w':=by
 obtain⟨Y,X,rfl,M,E,q0,H,T,I⟩:=h;have:=KS (decide (p<0)) false w M E;rw[YN,C7 (JP q0 H T I)]at this;exact this
def BO (p q:Int):Int×Int×Int:=md (yO (p*1099511627776) q) (yO (p*1099511627776) q+if 0<y9 (p*1099511627776) q then 1 else 0)
def BP (n:Int):Int×Int×Int:=if n < -2097152\/2097152<n then(0,0,16)else(n*1099511627776,n*1099511627776,0)
theorem JR {r:Int} (h0:0<=r) (E:r<y) (h:L*y+r=x):yO x y=L/\y9 x y=r:=
 ji (by rw[Int.mul_comm]; exact h.symm) (.inl ⟨h0,E⟩)
def dS (p q:Int) (j:Nat) (L r S:Int):Prop:=0<=r/\r<q/\L*q+r=p*((2^(40-j):Nat):Int)/\S=L*((2^j:Nat):Int)/\-2305843009213693952<=S/\S+((2^j:Nat):Int)<=2305844108725321728
theorem dS.start {N E:Int} (H:N*q+E=p/\0<=E/\E<q) (M : -2097152<=N) (I:N<=2097152):dS p q 40 N E (N*1099511627776):=by
 refine⟨H.2.1,H.2.2,by simp; exact H.1,by simp,by omega,by simp; omega⟩
theorem dS.done {r S:Int} (I:dS p q 0 L r S):yO (p*1099511627776) q=S/\y9 (p*1099511627776) q=r:=by
 obtain⟨a,b,c,d,e,f⟩:=I;simp at c d;rw[d];exact JR a b c
def rg (x y:Int):Int:=if y<0 then -ym x y else ym x y
def Xc (x y:Int):Int:=yO x (rg x y)
def Ya (x y:Int):Int:=yO y (rg x y)
theorem Zz (h:y≠0):0<ym x y:=by
 unfold ym;have:=Int.gcd_pos_of_ne_zero_right x h;omega
theorem ZA (h:g≠0):yO (k*g) g=k:=by
 unfold yO;exact Int.mul_fdiv_cancel k h
theorem Xx (h:y≠0):rg x y≠0:=by
 have:=Zz (x:=x) h;unfold rg
 split<;>omega
theorem KU (x y:Int):ym x y∣x/\ym x y∣y:=⟨Int.gcd_dvd_left x y,Int.gcd_dvd_right x y⟩
theorem Wu (x y:Int):rg x y∣x/\rg x y∣y:=by
 have:=KU x y;unfold rg
 split
 . exact⟨Int.neg_dvd.2 this.1,Int.neg_dvd.2 this.2⟩
 . exact this
theorem YQ (h:y≠0):Xc x y*rg x y=x/\Ya x y*rg x y=y:=by
 obtain⟨⟨a,E⟩,⟨b,H⟩⟩:=Wu x y;have I:=Xx (x:=x) h;unfold Xc Ya
 have T:yO x (rg x y)=a:=by
  conv=>lhs; rw[E,Int.mul_comm]
  rw[show rg (a*rg x y) y=rg (a*rg x y) y from rfl];rw[Int.mul_comm a,<- E];have:=ZA (k:=a) I;rw[Int.mul_comm,<- E]at this;exact this
 have M:yO y (rg x y)=b:=by
  have:=ZA (k:=b) I;rw[Int.mul_comm,<- H]at this;exact this
 rw[T,M,Int.mul_comm a,Int.mul_comm b];exact⟨E.symm,H.symm⟩
theorem Za (h:y≠0):0<Ya x y:=by
 have m:=(YQ (x:=x) h).2;have g:=Zz (x:=x) h;obtain⟨G,E⟩:∃G,ym x y=G:=⟨_,rfl⟩;unfold rg at m;rw[E]at m g
 rcases Int.lt_or_le 0 (Ya x y)with k | k
 . exact k
 .
  exfalso
  split at m
  .
   have H:=Int.mul_nonneg_of_nonpos_of_nonpos k (show -G<=0 by omega);rw[m]at H;omega
  .
   have:=Int.mul_le_mul_of_nonneg_right k (show 0<=G by omega);rw[m]at this;omega
theorem ZB {a b:Int} (E:0<g) (h:ym (a*g) (b*g)=g):ym a b=1:=by
 unfold ym at h|-;rw[Int.gcd_mul_right]at h;have e:((g.natAbs:Nat):Int)=g:=B_
 have k:((Int.gcd a b:Nat):Int)*g=1*g:=by
  rw[Int.one_mul]
  conv=>rhs; rw[<- h]
  rw[Int.natCast_mul,e]
 exact Int.eq_of_mul_eq_mul_right B_ k
theorem Qp (h:y≠0):ym (Xc x y) (Ya x y)=1:=by
 have m:=YQ (x:=x) h;have g:=Zz (x:=x) h;unfold rg at m
 split at m
 .
  rw[Int.mul_neg,Int.mul_neg]at m;refine ZB g ?_;have E:Xc x y*ym x y = -x:=B_
  have H:Ya x y*ym x y = -y:=B_
  rw[E,H];unfold ym;rw[Int.neg_gcd,Int.gcd_neg]
 .
  refine ZB g ?_;rw[m.1,m.2]
theorem jD {n m:Int} (h:Int.gcd k n=1) (hd:k∣n*m):k∣m:=by
 have:=(Int.dvd_gcd_mul_iff_dvd_mul (k:=k) (n:=n) (m:=m)).2 hd;rw[h]at this;simpa using this
theorem Qq {p' E:Int} (q0:0<q) (H:0<E) (g:ym p q=1) (T:ym p' E=1) (h:p*E=p'*q):p=p'/\q=E:=by
 unfold ym at g T;have I:Int.gcd p q=1:=B_
 have X:Int.gcd p' E=1:=B_
 have M:q∣E:=by
  have:q∣p*E:=⟨p',by rw[h,Int.mul_comm]⟩;exact jD (by rw[Int.gcd_comm]; exact I) this
 have Y:E∣q:=by
  have:E∣p'*q:=⟨p,by rw[<- h,Int.mul_comm]⟩;exact jD (by rw[Int.gcd_comm]; exact X) this
 have e:q=E:=by
  have l1:=Int.le_of_dvd H M;have Z:=Int.le_of_dvd q0 Y;omega
 subst e;exact⟨Int.eq_of_mul_eq_mul_right B_ h,rfl⟩
theorem JS (E:y≠0) (q0:0<q) (g:ym p q=1) (h:p*y=x*q):Xc x y=p/\Ya x y=q:=by
 have m:=YQ (x:=x) E;have H:=Xx (x:=x) E;refine Qq (Za E) q0 (Qp E) g ?_
 have e:(Xc x y*q)*rg x y=(p*Ya x y)*rg x y:=by
  rw[Int.mul_right_comm,m.1,Int.mul_assoc,m.2]; exact h.symm
 exact Int.eq_of_mul_eq_mul_right H e
theorem Qr (h:y≠0):zh (Xc x y)<=zh x/\zh (Ya x y)<=zh y/\zh (rg x y)<=zh y:=by
 have m:=YQ (x:=x) h;have E:=Xx (x:=x) h
 have key:∀a g:Int,g≠0->zh a<=zh (a*g):=fun a g H=>by
  unfold zh;rw[Int.natAbs_mul];have:1<=g.natAbs:=B_
  have:=Nat.mul_le_mul_left a.natAbs this;omega
 have k1:=key (Xc x y) (rg x y) E;have k2:=key (Ya x y) (rg x y) E;have q0:=Za (x:=x) h;have k3:=key (rg x y) (Ya x y) B_;rw[m.1]at k1;rw[m.2]at k2;rw[Int.mul_comm,m.2]at k3;exact⟨k1,k2,k3⟩
theorem cB.mk' {a b:Bool} {s t:Cd} (Y:az w (Cy #[Cx a,s]) p) (Z:az w (Cy #[Cx b,t]) q) (q0:0<q) (M:ym p q=1) (fp:fits p) (T:fits q):cB w (Cy #[Cx a,s,Cx b,t]) p q:=by
 obtain⟨s1,I,X⟩:=Y;obtain⟨s2,H,E⟩:=Z;simp only[Value.agg.injEq,Array.mk.injEq,List.cons.injEq,Value.bool.injEq,and_true]at I H;obtain⟨rfl,rfl⟩:=I;obtain⟨rfl,rfl⟩:=H;rw[qL B_]at E;exact⟨s,t,by rw[C_ (by omega:¬q<0)],X,E,q0,M,fp,T⟩
theorem cB.cj (h:cB w v p q):∃I np E H X M,v = Cy #[Cx (decide (p<0)),Cq I np E,Cx false,Cq H X M]/\az w (Cy #[Cx (decide (p<0)),Cq I np E]) p/\az w (Cy #[Cx false,Cq H X M]) q:=by
 obtain⟨sp,sq,rfl,Z,T,q0,hg,fp,fq⟩:=h;obtain⟨I,E,e1⟩:=Z.au;obtain⟨H,M,Y⟩:=T.au;refine⟨I,(zn (zh p)).length,E,H,(zn q).length,M,by rw[e1,Y],⟨_,rfl,by rw[<- e1]; exact Z⟩,⟨_,by rw[C_ (by omega:¬q<0)],by rw[qL B_,<- Y]; exact T⟩⟩
def bC (r:Nat) (w w':Cc):Prop:=w'.heap.size=w.heap.size/\∀k,k≠r->w'.heap[k]? = w.heap[k]?
theorem bC.refl (r:Nat) (w:Cc):bC r w w:=⟨rfl,fun _ _=>rfl⟩
theorem bC.set {i:Nat} {u:Cd} (h:bC r w w'):bC r w (w'.setCell ⟨r,i,none⟩ u):=
 ⟨by rw[World.size_setCell]; exact h.1,fun k E=>(Below.heap_setCell w' ⟨r,i,none⟩ u k E).trans (h.2 k E)⟩
def zL (cs:Array Cd):Bool:=cs.toList.all fun v=>match v with | Cz .u32 _=>false | _=>true
theorem Yr {k:Nat} (h:zL cs=true):cs[k]?≠some (Cz .u32 x):=by
 intro e;obtain⟨E,e⟩:=Array.getElem?_eq_some_iff.1 e;have:=List.all_eq_true.1 h cs[k] C3;rw[e]at this
 cases this
theorem aA.only {l:List Int} (h:aA w v l) (Z:ai w r t cs) (hn:zL cs=true) (M:bC r w w'):aA w' v l:=by
 obtain⟨h0,H,cap,rfl,X,T,Y⟩:=h;refine⟨h0,H,cap,rfl,X,T,fun E=> ?_⟩;obtain⟨b,o,rfl,I,hc⟩:=Y E
 have hr:b≠r:=by
  rintro rfl;have g:=hc 0 (List.length_pos_iff.2 E);rw[Z.cell]at g;exact Yr hn g
 exact⟨b,o,rfl,by rw[M.1]; exact I,fun t ht=>(World.cell?_of_block (a:=⟨b,o+t,none⟩) (M.2 b hr)).trans (hc t ht)⟩
theorem az.only {z:Int} (h:az w v z) (M:ai w r t cs) (E:zL cs=true) (I:bC r w w'):az w' v z:=by
 obtain⟨s,e,H⟩:=h;exact⟨s,e,H.only M E I⟩
theorem cB.only (h:cB w v p q) (H:ai w r t cs) (I:zL cs=true) (E:bC r w w'):cB w' v p q:=by
 obtain⟨Y,T,e,X,M,h⟩:=h;exact⟨Y,T,e,X.only H I E,M.only H I E,h⟩
theorem cB.bc (h:cB w v p q) (o:Obj):cB (w.alloc o) v p q:=h.ae ((Below.refl _ _).alloc (Cl _) _)
theorem cB.au (h:cB w v p q):∃a s n c b t m d,v = Cy #[Cx a,Cq s n c,Cx b,Cq t m d]:=by
 obtain⟨M,H,T,I,E,X,e,-⟩:=h.cj;exact⟨_,_,_,_,_,_,_,_,e⟩
theorem jE (h:fits x):fits (-x):=by
 unfold fits at *;rw[show zh (-x)=zh x by unfold zh; omega];exact h
theorem Wv (x:Int):zv (!decide (x<0)) (zh x) = -x:=by
 unfold zv zh
 by_cases h:x<0
 . rw[C9 h]; simp; omega
 . rw[C_ h]; simp; omega
theorem Gp (w:Cc) (ha:az w va x) (fx:fits x) :
  Cb Ch 168 #[va] w fun e w'=>∃v,e = Cg (Ck #[v,Cz Cv 0])/\az w' v (-x)/\zf w w':=by
 have fn:=jE fx;obtain⟨aa,ca,rfl,pa⟩:=ha.parts
 have ck:∀w',zf w w'->Cb Ch 124 #[Cy #[Cx (decide (x<0)),Cq aa (zn (zh x)).length ca]] w' fun e Y=>e = Cg (Cz Cv 0)/\zf w' Y:=fun w' h=>by
  have:=je (decide (x<0)) w' (pa.ae h);rw[show xp (zS (decide (x<0)) (zn (zh x)))=0 from C7 (xf fx)]at this;exact this
 have mk:∀w',zf w w'->Cb Ch 139 #[Cx (!decide (x<0)),Cq aa (zn (zh x)).length ca] w' fun e Y=>∃v',e = Cg (Ck #[v',Cz Cv 0])/\az Y v' (-x)/\zf w' Y:=fun w' h=>by
  have:=qr (!decide (x<0)) w' (pa.ae h) (by unfold fits at fx; unfold aE; omega);rw[zA (zt x),Wv,zK fn,zG fn]at this;exact this
 obtain⟨n,hn⟩:∃n,(zn (zh x)).length=n:=⟨_,rfl⟩;obtain⟨gx,ah⟩:∃b,decide (x<0)=b:=⟨_,rfl⟩;rw[hn,ah]at ck mk|-;clear ha pa hn ah fx fn
 go_enter Tryz.func168,Tryz.ntmps168
 go_wp2_with fail
 refine(ck _ zi).mono ?_;rintro e w1 ⟨rfl,st⟩;have X:=bA w st;have Z:ai w1 w.heap.size 26 #[Cx gx,Cq aa n ca]:=ai.aw st;have or:ai w1 (w.heap.size+1) 26 #[Cx false,Cq none 0 0]:=ai.aw st;clear st;have B:=X;clear X;obtain⟨T,M,fa,la⟩:=Z.s1;obtain⟨I,H,fr,lr⟩:=or.s1;clear ck;go_wp2_with fail
 refine(mk _ B).mono ?_;rintro e Y ⟨v2,rfl,E,st⟩;have X:=bA w st;have na:=Z.aN st;have nr:=or.aN st;clear B Z or T M fa la I H fr lr;clear st;have B:=X;clear X;have Z:=na;clear na;obtain⟨T,M,fa,la⟩:=Z.s1;have or:=nr;clear nr;obtain⟨I,H,fr,lr⟩:=or.s1;clear mk;obtain⟨bb,ao,k,c,rfl⟩:=E.au;have HV:=C5 E;clear E
 go_wp2
 refine Ci (by simp[results,Tryz.results168,go_sem,T,M,fa,la,I,H,fr,lr]; rfl) rfl ?_;exact⟨_,rfl,HV.out.aL or,zi⟩
theorem KV (w:Cc) (ha:az w va x) (hb:az w vb y) (fx:fits x) (fy:fits y) (hy:y≠0) :
  Cb Ch 138 #[va,vb] w fun e w'=>∃v,e = Cg v/\cB w' v (Xc x y) (Ya x y)/\zf w w':=by
 have RA:=Qr (x:=x) hy;have fP:fits (Xc x y):=yj RA.1 fx;have fQ:fits (Ya x y):=yj RA.2.1 fy;have fG:fits (rg x y):=yj RA.2.2 fy;have g0:=Xx (x:=x) hy;have gc:=fun(w':Cc) (h:zf w w')=>Hd w' (ha.ae h) (hb.ae h) fx fy;have d1:∀w' v,zf w w'->az w' v (rg x y)->Cb Ch 169 #[va,v] w' fun e w2=>∃q r,e = Cg (Ck #[q,r,Cz Cv 0])/\az w2 q (Xc x y)/\az w2 r (y9 x (rg x y))/\zf w' w2:=fun w' v h hv=>Jk w' (ha.ae h) hv fx fG g0;have d2:∀w' v,zf w w'->az w' v (rg x y)->Cb Ch 169 #[vb,v] w' fun e w2=>∃q r,e = Cg (Ck #[q,r,Cz Cv 0])/\az w2 q (Ya x y)/\az w2 r (y9 y (rg x y))/\zf w' w2:=fun w' v h hv=>Jk w' (hb.ae h) hv fy fG g0;have MK:=C5 (C6 (Za (x:=x) hy) (C6 (Qp (x:=x) hy) (C6 fP fQ)))
 have fg:fits (ym x y):=by
  unfold rg at fG
  split at fG
  . have:=jE fG; rwa[Int.neg_neg]at this
  . exact fG
 obtain⟨aa,ca,rfl,-⟩:=ha.parts;obtain⟨ab,cb,rfl,-⟩:=hb.parts;obtain⟨n,hn⟩:∃n,(zn (zh x)).length=n:=⟨_,rfl⟩;obtain⟨m,hm⟩:∃m,(zn (zh y)).length=m:=⟨_,rfl⟩;rw[hn]at gc d1|-;rw[hm]at gc d2|-;obtain⟨gx,dP⟩:∃b,decide (x<0)=b:=⟨_,rfl⟩;rw[dP]at gc d1|-;clear ha hb hn hm dP RA fP fQ fG g0 fx fy
 by_cases hs:y<0
 focus
  have e:=C9 hs;rw[e]at gc d2|-;have HG:rg x y = -ym x y:=C7 hs;rw[HG]at d1 d2;have ng:∀w' v,az w' v (ym x y)->Cb Ch 168 #[v] w' fun e w2=>∃v',e = Cg (Ck #[v',Cz Cv 0])/\az w2 v' (-ym x y)/\zf w' w2:=fun w' v h=>Gp w' h fg;clear hs e HG fg hy
  go_enter Tryz.func138,Tryz.ntmps138
  go_wp2_with fail
  refine(gc _ zi).mono ?_;rintro e w1 ⟨vg,rfl,hg,fg,eM⟩;have st:zf _ w1:=eM;have Bn:=bA w st;have oa:ai w1 w.heap.size 26 #[Cx gx,Cq aa n ca]:=ai.aw st;have ob:ai w1 (w.heap.size+1) 26 #[Cx true,Cq ab m cb]:=ai.aw st;have or:ai w1 (w.heap.size+1+1) 28 qE:=ai.aw st;clear st;have B:=Bn;clear Bn;obtain⟨E,Z,fa,la⟩:=oa.s1;obtain⟨X,T,fb,lb⟩:=ob.s1;obtain⟨Y,I,M,H,fr,lr⟩:=or.s3;clear gc fg;obtain⟨bg,ag,dd,cg,rfl⟩:=hg.au;have NG:=C5 hg;clear hg;have z1:w.heap.size+1+1<w1.heap.size:=or.lt;go_wp2_with fail
  refine(ng _ _ (NG.out.bc _)).mono ?_;rintro e w2 ⟨vh,rfl,hh,cY⟩;have st:zf _ w2:=cY;have Bn:=bA w st;have na:=oa.aN st;have nb:=ob.aN st;have nr:=or.aN st;have og:ai w2 w1.heap.size 26 #[Cx bg,Cq ag dd cg]:=ai.aw st;clear B oa ob or E Z fa la X T fb lb Y I M H fr lr;clear st;have B:=Bn;clear Bn;have oa:=na;clear na;obtain⟨E,Z,fa,la⟩:=oa.s1;have ob:=nb;clear nb;obtain⟨X,T,fb,lb⟩:=ob.s1;have or:=nr;clear nr;obtain⟨Y,I,M,H,fr,lr⟩:=or.s3;obtain⟨cN,cy,fg,lg⟩:=og.s1;clear ng NG;obtain⟨bh,ah,nh,ch,rfl⟩:=hh.au;have NH:=C5 hh;clear hh;have dc:=og;go_wp2_with fail
  refine(d1 _ _ zi (NH.out.aL dc)).mono ?_;rintro e w3 ⟨vp,vr,rfl,hp,hr,dk⟩;have st:zf _ w3:=dk;have Bn:=bA w st;have na:=oa.aN st;have nb:=ob.aN st;have nr:=or.aN st;replace og:ai w3 w1.heap.size 26 #[Cx bh,Cq ah nh ch]:=ai.aw st;clear B oa ob or E Z fa la X T fb lb Y I M H fr lr cN cy fg lg;clear st;have B:=Bn;clear Bn;have oa:=na;clear na;obtain⟨E,Z,fa,la⟩:=oa.s1;have ob:=nb;clear nb;obtain⟨X,T,fb,lb⟩:=ob.s1;have or:=nr;clear nr;obtain⟨Y,I,M,H,fr,lr⟩:=or.s3;obtain⟨cN,cy,fg,lg⟩:=og.s1;clear d1;have d9:=C5 ((NH.out.aL dc).ae dk);clear NH dc
 rotate_left
 focus
  have e:=C_ hs;rw[e]at gc d2|-;have HG:rg x y=ym x y:=C8 hs;rw[HG]at d1 d2;clear hs e HG fg hy
  go_enter Tryz.func138,Tryz.ntmps138
  go_wp2_with fail
  refine(gc _ zi).mono ?_;rintro e w1 ⟨vg,rfl,hg,fg,st⟩;have Bn:=bA w st;have oa:ai w1 w.heap.size 26 #[Cx gx,Cq aa n ca]:=ai.aw st;have ob:ai w1 (w.heap.size+1) 26 #[Cx false,Cq ab m cb]:=ai.aw st;have or:ai w1 (w.heap.size+1+1) 28 qE:=ai.aw st;clear st;have B:=Bn;clear Bn;obtain⟨E,Z,fa,la⟩:=oa.s1;obtain⟨X,T,fb,lb⟩:=ob.s1;obtain⟨Y,I,M,H,fr,lr⟩:=or.s3;clear gc fg;obtain⟨bg,ag,dd,cg,rfl⟩:=hg.au;have NG:=C5 hg;clear hg;have z1:w.heap.size+1+1<w1.heap.size:=or.lt;go_wp2_with fail
  refine(d1 _ _ zi (NG.out.bc _)).mono ?_;rintro e w3 ⟨vp,vr,rfl,hp,hr,cY⟩;have st:zf _ w3:=cY;have Bn:=bA w st;have na:=oa.aN st;have nb:=ob.aN st;have nr:=or.aN st;have og:ai w3 w1.heap.size 26 #[Cx bg,Cq ag dd cg]:=ai.aw st;clear B oa ob or E Z fa la X T fb lb Y I M H fr lr;clear st;have B:=Bn;clear Bn;have oa:=na;clear na;obtain⟨E,Z,fa,la⟩:=oa.s1;have ob:=nb;clear nb;obtain⟨X,T,fb,lb⟩:=ob.s1;have or:=nr;clear nr;obtain⟨Y,I,M,H,fr,lr⟩:=or.s3;obtain⟨cN,cy,fg,lg⟩:=og.s1;clear d1;have d9:=C5 ((NG.out.bc _).ae cY);clear NG
 rotate_left
 all_goals
  obtain⟨dl,ap,np,cp,rfl⟩:=hp.au;have NP:=C5 hp;clear hp;obtain⟨br,ar,dx,cr,rfl⟩:=hr.au;clear hr;have z2:w1.heap.size<w3.heap.size:=og.lt;go_wp2_with fail
  refine(d2 _ _ zi ((d9.out.bc _).bc _)).mono ?_;rintro e w4 ⟨vq,vt,rfl,hq,ht,dy⟩;have st:zf _ w4:=dy;have Bn:=bA w st;have na:=oa.aN st;have nb:=ob.aN st;have nr:=or.aN st;have ng:=og.aN st;have op:ai w4 w3.heap.size 26 #[Cx dl,Cq ap np cp]:=ai.aw st;have os:ai w4 (w3.heap.size+1) 26 #[Cx br,Cq ar dx cr]:=ai.aw st;clear B oa ob or og E Z fa la X T fb lb Y I M H fr lr cN cy fg lg;clear st;have B:=Bn;clear Bn;have oa:=na;clear na;obtain⟨E,Z,fa,la⟩:=oa.s1;have ob:=nb;clear nb;obtain⟨X,T,fb,lb⟩:=ob.s1;have or:=nr;clear nr;obtain⟨Y,I,M,H,fr,lr⟩:=or.s3;have og:=ng;clear ng;obtain⟨cN,cy,fg,lg⟩:=og.s1;obtain⟨eF,em,fp,lp⟩:=op.s1;obtain⟨ec,ek,fs,ls⟩:=os.s1;clear d2;have er:=C5 (((NP.out.bc (.cells #[Cx dl,Cq ap np cp] 26)).bc (.cells #[Cx br,Cq ar dx cr] 26)).ae dy);clear NP d9;obtain⟨bq,aq,nq,cq,rfl⟩:=hq.au;have NQ:=C5 hq;clear hq;obtain⟨bt,eW,f7,ct,rfl⟩:=ht.au;clear ht;dsimp only; repeat' (first | go_values | go_skip | go_guarded | go_step | go_upon)
  refine Ci (by simp[results,Tryz.results138,go_sem,E,Z,fa,la,X,T,fb,lb,Y,I,M,H,fr,lr,cN,cy,fg,lg,eF,em,fp,lp,ec,ek,fs,ls]; rfl) rfl ?_;refine⟨_,rfl,?_,zi⟩;have HM:=MK.out;exact(((cB.mk' er.out NQ.out HM.1 HM.2.1 HM.2.2.1 HM.2.2.2).only or rfl ((bC.refl _ _).set.set.set.set)).bc _).bc _
theorem Gq (w:Cc) (ha:az w va x) (hb:az w vb y) (fx:fits x) (fy:fits y) (hy:y≠0) :
  Cb Ch 103 #[va,vb] w fun e w'=>∃v,e = Cg (Ck #[v,Cz Cv 0])/\cB w' v (Xc x y) (Ya x y)/\zf w w':=by
 have bg:∀w',zf w w'->Cb Ch 124 #[va] w' fun e w2=>e = Cg (Cz Cv 0)/\zf w' w2:=fun w' h=>by
  obtain⟨sa,rfl,la⟩:=ha;have:=je (decide (x<0)) w' (la.ae h);rw[show xp (zS (decide (x<0)) (zn (zh x)))=0 from C7 (xf fx)]at this;exact this
 have ah:∀w',zf w w'->Cb Ch 124 #[vb] w' fun e w2=>e = Cg (Cz Cv 0)/\zf w' w2:=fun w' h=>by
  obtain⟨sb,rfl,lb⟩:=hb;have:=je (decide (y<0)) w' (lb.ae h);rw[show xp (zS (decide (y<0)) (zn (zh y)))=0 from C7 (xf fy)]at this;exact this
 have rd:=fun(w':Cc) (h:zf w w')=>KV w' (ha.ae h) (hb.ae h) fx fy hy;have y0:0<(zn (zh y)).length:=List.length_pos_iff.2 (fun e=>by have:=(zT (zt y)).1 e; unfold zh at this; omega);obtain⟨aa,ca,rfl,-⟩:=ha.parts;obtain⟨ab,cb,rfl,-⟩:=hb.parts;obtain⟨n,hn⟩:∃n,(zn (zh x)).length=n:=⟨_,rfl⟩;obtain⟨m,hm⟩:∃m,(zn (zh y)).length=m:=⟨_,rfl⟩;rw[hn]at bg rd|-;rw[hm]at ah rd y0|-;obtain⟨gx,bq⟩:∃b,decide (x<0)=b:=⟨_,rfl⟩;obtain⟨gy,bh⟩:∃b,decide (y<0)=b:=⟨_,rfl⟩;rw[bq]at bg rd|-;rw[bh]at ah rd|-;clear ha hb hn hm bq bh fx fy hy
 go_enter Tryz.func103,Tryz.ntmps103
 go_wp2_with fail
 refine(bg _ zi).mono ?_;rintro e w1 ⟨rfl,st⟩;have Bn:=bA w st;have oa:ai w1 w.heap.size 26 #[Cx gx,Cq aa n ca]:=ai.aw st;have ob:ai w1 (w.heap.size+1) 26 #[Cx gy,Cq ab m cb]:=ai.aw st;have or:ai w1 (w.heap.size+1+1) 28 qE:=ai.aw st;clear st;have B:=Bn;clear Bn;obtain⟨Z,Y,fa,la⟩:=oa.s1;obtain⟨T,I,fb,lb⟩:=ob.s1;obtain⟨X,M,E,H,fr,lr⟩:=or.s3;clear bg;go_wp2_with fail
 refine(ah _ B).mono ?_;rintro e w2 ⟨rfl,st⟩;have Bn:=bA w st;have na:=oa.aN st;have nb:=ob.aN st;have nr:=or.aN st;clear B oa ob or Z Y fa la T I fb lb X M E H fr lr;clear st;have B:=Bn;clear Bn;have oa:=na;clear na;obtain⟨Z,Y,fa,la⟩:=oa.s1;have ob:=nb;clear nb;obtain⟨T,I,fb,lb⟩:=ob.s1;have or:=nr;clear nr;obtain⟨X,M,E,H,fr,lr⟩:=or.s3;clear ah;go_wp2_with fail
 refine(rd _ B).mono ?_;rintro e w3 ⟨v3,rfl,hf,st⟩;have Bn:=bA w st;have na:=oa.aN st;have nb:=ob.aN st;have nr:=or.aN st;clear B oa ob or Z Y fa la T I fb lb X M E H fr lr;clear st;have B:=Bn;clear Bn;have oa:=na;clear na;obtain⟨Z,Y,fa,la⟩:=oa.s1;have ob:=nb;clear nb;obtain⟨T,I,fb,lb⟩:=ob.s1;have or:=nr;clear nr;obtain⟨X,M,E,H,fr,lr⟩:=or.s3;clear rd;obtain⟨k1,k2,k3,k4,k5,k6,k7,k8,rfl⟩:=hf.au;have HF:=C5 hf;clear hf
 go_wp2
 refine Ci (by simp[results,Tryz.results103,go_sem,Z,Y,fa,la,T,I,fb,lb,X,M,E,H,fr,lr]; rfl) rfl ?_;exact⟨_,rfl,HF.out.only or rfl ((bC.refl _ _).set.set.set.set),zi⟩
theorem Bh (x y:Int) (w:Cc) (x0 : -9223372036854775808<=x) (x1:x<=9223372036854775807) (y0 : -9223372036854775808<=y) (y1:y<=9223372036854775807) (hy:y≠0) :
  Cb Ch 69 #[Cz Cv x,Cz Cv y] w fun e w'=>∃v,e = Cg (Ck #[v,Cz Cv 0])/\cB w' v (Xc x y) (Ya x y)/\zf w w':=by
 have fx:fits x:=xO (by unfold zh; omega);have fy:fits y:=xO (by unfold zh; omega)
 go_enter Tryz.func69,Tryz.ntmps69
 go_wp2_with fail
 refine(Kv x _ x0 x1).mono ?_;rintro e w1 ⟨va,rfl,na,st⟩;have T:=bA w st;have or:ai w1 w.heap.size 28 qE:=ai.aw st;clear st;have B:=T;clear T;obtain⟨I,H,M,E,fr,Y⟩:=or.s3;go_wp2_with fail
 refine(Kv y _ y0 y1).mono ?_;rintro e w2 ⟨vb,rfl,nb,X⟩;have st:zf _ w2:=X;have T:=bA w st;have nr:=or.aN st;clear B or I H M E fr Y;clear st;have B:=T;clear T;have or:=nr;clear nr;obtain⟨I,H,M,E,fr,Y⟩:=or.s3;have Z:=na.ae X;clear na;go_wp2_with fail
 refine(Gq _ Z nb fx fy hy).mono ?_;rintro e w3 ⟨v3,rfl,hf,st⟩;have T:=bA w st;have nr:=or.aN st;clear B or I H M E fr Y;clear st;have B:=T;clear T;have or:=nr;clear nr;obtain⟨I,H,M,E,fr,Y⟩:=or.s3;clear Z nb;obtain⟨k1,k2,k3,k4,k5,k6,k7,k8,rfl⟩:=hf.au;have HF:=C5 hf;clear hf
 go_wp2
 refine Ci (by simp[results,Tryz.results69,go_sem,I,H,M,E,fr,Y]; rfl) rfl ?_;exact⟨_,rfl,HF.out.only or rfl ((bC.refl _ _).set.set.set.set),zi⟩
end Go.Proofs.YtffmbepfbienaaaGreat
/- Fractions in memory as rational numbers; their sizes. -/
namespace Go.Proofs.YtffmbepfbienaaaGreat
open Go.RowKit
variable {p q x y:Int} {i j k:Nat} {r s:Rat} {v:Cd} {w w':Cc}
def yJ (r s:Rat):Int:=if r=s then 0 else if r<s then -1 else 1
theorem Jm (r:Rat):ym r.num r.den=1:=by
 have h:=r.reduced;unfold ym Int.gcd;rw[Int.natAbs_natCast];have E:Nat.gcd r.num.natAbs r.den=1:=h;rw[E];rfl
theorem qc (r:Rat):(0:Int)<r.den:=by have:=r.den_nz; omega
theorem Ww (q0:0<q) (E:ym p q=1):∃r:Rat,r.num=p/\(r.den:Int)=q:=by
 refine⟨⟨p,q.toNat,by omega,?_⟩,rfl,?_⟩
 .
  unfold ym Int.gcd at E;have e:q.natAbs=q.toNat:=B_
  rw[e]at E
  show Nat.gcd p.natAbs q.toNat=1
  omega
 .
  show ((q.toNat:Nat):Int)=q
  omega
theorem ZC (r s:Rat):zI (r.num*s.den) (s.num*r.den)=yJ r s:=by
 unfold zI yJ
 by_cases h:r=s
 . rw[C7 h,C7 (Rat.eq_iff_mul_eq_mul.1 h)]
 .
  rw[C8 h,C8 (fun e=>h (Rat.eq_iff_mul_eq_mul.2 e))]
  by_cases h2:r<s
  . rw[C7 h2,C7 ((Rat.lt_iff r s).1 h2)]
  . rw[C8 h2,C8 (fun e=>h2 ((Rat.lt_iff r s).2 e))]
theorem bH : yJ r s<0↔r<s:=by
 rw[<- ZC,Kn,Rat.lt_iff]
theorem kD : 0<yJ r s↔s<r:=by
 rw[<- ZC,Ko,Rat.lt_iff]
theorem Zb : yJ r s=0↔r=s:=by
 unfold yJ
 by_cases h:r=s
 . simp[h]
 .
  rw[C8 h]
  constructor
  . intro e; split at e<;>omega
  . intro e; exact absurd e h
theorem Xy (x y:Int):(x:Rat) / (y:Rat)=Rat.divInt x y:=(Rat.divInt_eq_div x y).symm
theorem KW (E:y≠0):((x:Rat) / (y:Rat)).num*y=x*(((x:Rat) / (y:Rat)).den:Int):=by
 have h:=Rat.num_divInt_den ((x:Rat) / (y:Rat))
 conv at h=>rhs; rw[Xy]
 exact(Rat.divInt_eq_divInt_iff (by have:=qc ((x:Rat) / (y:Rat)); omega) E).1 h
theorem YR (E:y≠0):Xc x y=((x:Rat) / (y:Rat)).num/\Ya x y=(((x:Rat) / (y:Rat)).den:Int):=
 JS E (qc _) (Jm _) (KW E)
def sz (r:Rat) (k:Nat):Prop:=zh r.num<=bp k/\(r.den:Int)<=bp k
theorem sz.mono (h:sz r i) (E:i<=j):sz r j:=⟨Int.le_trans h.1 (jO E),Int.le_trans h.2 (jO E)⟩
theorem xV (E:y≠0) (I:zh x<=bp k) (H:zh y<=bp k):sz ((x:Rat) / (y:Rat)) k:=by
 have h:=Qr (x:=x) E;rw[(YR E).1,(YR E).2]at h;refine⟨Int.le_trans h.1 I,?_⟩;have:=h.2.1;rw[qL (by have:=qc ((x:Rat) / (y:Rat)); omega)]at this;exact Int.le_trans this H
theorem KX (x y:Int):zh (x*y)=zh x*zh y:=by unfold zh; rw[Int.natAbs_mul]; simp
theorem yv (E:zh x<=bp i) (H:zh y<=bp j):zh (x*y)<=bp (i+j):=by
 rw[KX,X8];exact Int.mul_le_mul E H (zt y) (by have:=xu i; omega)
theorem qM (H:zh x<=bp i) (E:zh y<=bp i):zh (x+y)<=bp (i+1):=by
 have h:=xd i;have M:=xu i;have I:zh (x+y)<=zh x+zh y:=by unfold zh; omega
 omega
theorem ZD (x:Int):zh (-x)=zh x:=by unfold zh; omega
theorem xH (r:Rat):zh (r.den:Int)=r.den:=qL (by have:=qc r; omega)
theorem yK {z:Int} (h:zh z<=bp k) (E:k<=4095):fits z:=by
 unfold fits;refine(yV (zt z) 4096).2 ?_;have M:=jO E;have I:bp 4096=4294967296*bp 4095:=xd 4095;have H:=xu 4095;omega
theorem yy (r:Rat):((r.den:Int):Rat)=(r.den:Rat):=Rat.intCast_natCast _
theorem jj (r:Rat):(r.den:Rat)≠0:=fun h=>r.den_nz (Rat.natCast_eq_zero_iff.1 h)
theorem KY (r:Rat):r=(r.num:Rat) / ((r.den:Int):Rat):=by rw[Xy,Rat.num_divInt_den]
theorem jF (r:Rat):(r.num:Rat)=r*(r.den:Rat):=by
 have:=KY r;rw[yy]at this;have h:=Rat.div_mul_cancel (a:=(r.num:Rat)) (jj r);rw[<- this]at h;exact h.symm
theorem qA {x y z:Rat} (E:y≠0) (h:x=z*y):x / y=z:=by rw[h]; exact Rat.mul_div_cancel E
theorem Xz (r s:Rat):((r.num*s.num:Int):Rat) / ((r.den*s.den:Int):Rat)=r*s:=by
 refine qA ?_ ?_
 .
  rw[Rat.intCast_mul,yy,yy];intro h
  rcases Rat.mul_eq_zero.1 h with h | h
  . exact jj r h
  . exact jj s h
 .
  rw[Rat.intCast_mul,Rat.intCast_mul,yy,yy,jF r,jF s]
  grind
theorem XA (r s:Rat):((r.num*s.den+s.num*r.den:Int):Rat) / ((r.den*s.den:Int):Rat)=r+s:=by
 refine qA ?_ ?_
 .
  rw[Rat.intCast_mul,yy,yy];intro h
  rcases Rat.mul_eq_zero.1 h with h | h
  . exact jj r h
  . exact jj s h
 .
  rw[Rat.intCast_add,Rat.intCast_mul,Rat.intCast_mul,Rat.intCast_mul,yy,yy,jF r,jF s]
  grind
theorem XB (r s:Rat):((r.num*s.den-s.num*r.den:Int):Rat) / ((r.den*s.den:Int):Rat)=r-s:=by
 refine qA ?_ ?_
 .
  rw[Rat.intCast_mul,yy,yy];intro h
  rcases Rat.mul_eq_zero.1 h with h | h
  . exact jj r h
  . exact jj s h
 .
  rw[Rat.intCast_sub,Rat.intCast_mul,Rat.intCast_mul,Rat.intCast_mul,yy,yy,jF r,jF s]
  grind
theorem KZ (h:s≠0):s.num≠0:=fun e=>h (Rat.num_eq_zero.1 e)
theorem XC (r:Rat) {s:Rat} (H:s≠0):((r.num*s.den:Int):Rat) / ((r.den*s.num:Int):Rat)=r / s:=by
 have X:=jF r;have E:=jF s;have I:=jj r;have T:=jj s;refine qA ?_ ?_
 .
  rw[Rat.intCast_mul,yy,E];intro h
  rcases Rat.mul_eq_zero.1 h with h | h
  . exact I h
  .
   rcases Rat.mul_eq_zero.1 h with h | h
   . exact H h
   . exact T h
 .
  rw[Rat.intCast_mul,Rat.intCast_mul,yy,yy,X,E];have e:=Rat.div_mul_cancel (a:=r) H;have M:r / s*(↑r.den*(s*↑s.den))=(r / s*s)*(↑r.den*↑s.den):=by grind
  rw[M,e]
  grind
theorem jS (r s:Rat):(r.den*s.den:Int)≠0:=by
 have:=Int.mul_pos (qc r) (qc s);omega
theorem sz.mul (H:sz r i) (E:sz s j):sz (r*s) (i+j):=by
 rw[<- Xz];exact xV (jS r s) (yv H.1 E.1) (yv (by rw[xH]; exact H.2) (by rw[xH]; exact E.2))
theorem jG (T:sz r i) (M:sz s j):zh (r.num*s.den)<=bp (i+j)/\zh (s.num*r.den)<=bp (i+j)/\zh (r.den*s.den:Int)<=bp (i+j):=by
 have E:zh (r.den:Int)<=bp i:=by rw[xH]; exact T.2
 have I:zh (s.den:Int)<=bp j:=by rw[xH]; exact M.2
 have H:=yv M.1 E;rw[Nat.add_comm]at H;exact⟨yv T.1 I,H,yv E I⟩
theorem sz.add (T:sz r i) (M:sz s j):sz (r+s) (i+j+1):=by
 obtain⟨H,I,E⟩:=jG T M;rw[<- XA];exact xV (jS r s) (qM H I) (Int.le_trans E (jO B_))
theorem sz.sub (T:sz r i) (M:sz s j):sz (r-s) (i+j+1):=by
 obtain⟨H,I,E⟩:=jG T M;rw[<- XB,Int.sub_eq_add_neg];exact xV (jS r s) (qM H (by rw[ZD]; exact I)) (Int.le_trans E (jO B_))
theorem sz.neg (E:sz r i):sz (-r) i:=⟨by rw[Rat.neg_num,ZD]; exact E.1,E.2⟩
theorem XD (r:Rat) {s:Rat} (E:s≠0):(r.den*s.num:Int)≠0:=by
 intro h
 rcases Int.mul_eq_zero.1 h with h | h
 . have:=qc r; omega
 . exact KZ E h
theorem sz.div (H:sz r i) (E:sz s j) (s0:s≠0):sz (r / s) (i+j):=by
 rw[<- XC r s0];exact xV (XD r s0) (yv H.1 (by rw[xH]; exact E.2)) (yv (by rw[xH]; exact H.2) E.1)
theorem Wx (h:zh x<=bp k):sz (x:Rat) k:=⟨h,by have:=xu k; simpa using this⟩
theorem sz.fits (h:sz r k) (E:k<=4095):Go.Proofs.YtffmbepfbienaaaGreat.fits r.num/\Go.Proofs.YtffmbepfbienaaaGreat.fits (r.den:Int):=⟨yK h.1 E,yK (by rw[xH]; exact h.2) E⟩
def FR (w:Cc) (v:Cd) (r:Rat):Prop:=cB w v r.num r.den
theorem FR.ae (h:FR w v r) (E:zf w w'):FR w' v r:=cB.ae h E
theorem cB.fr (h:cB w v p q):∃r:Rat,r.num=p/\(r.den:Int)=q/\FR w v r:=by
 have M:=h;obtain⟨_,_,_,_,_,q0,I,_,_⟩:=M;obtain⟨r,E,H⟩:=Ww q0 I;refine⟨r,E,H,?_⟩;unfold FR;rw[E,H];exact h
theorem FR.ev (E:y≠0) (h:cB w v (Xc x y) (Ya x y)):FR w v ((x:Rat) / (y:Rat)):=by
 unfold FR;rw[<- (YR E).1,<- (YR E).2];exact h
theorem FR.only {q:Rat} {r:Nat} {t:Ce} {cs:Array Cd} (h:FR w v q) (I:ai w r t cs) (E:zL cs=true) (H:bC r w w'):FR w' v q:=cB.only h I E H
theorem FR.bc {q:Rat} (h:FR w v q) (o:Obj):FR (w.alloc o) v q:=cB.bc h o
theorem Wy (x y:Int):zv (decide (x<0) != decide (y<0)) (zh x*zh y)=x*y:=by
 by_cases h1:x<0
 .
  by_cases h2:y<0
  .
   have e:zh x*zh y=x*y:=by
    rw[show zh x = -x by unfold zh; omega,show zh y = -y by unfold zh; omega,Int.neg_mul_neg]
   simp[h1,h2,zv,e]
  .
   have e:zh x*zh y = -(x*y):=by
    rw[show zh x = -x by unfold zh; omega,show zh y=y by unfold zh; omega,Int.neg_mul]
   simp[h1,h2,zv,e]
 .
  by_cases h2:y<0
  .
   have e:zh x*zh y = -(x*y):=by
    rw[show zh x=x by unfold zh; omega,show zh y = -y by unfold zh; omega,Int.mul_neg]
   simp[h1,h2,zv,e]
  .
   have e:zh x*zh y=x*y:=by
    rw[show zh x=x by unfold zh; omega,show zh y=y by unfold zh; omega]
   simp[h1,h2,zv,e]
end Go.Proofs.YtffmbepfbienaaaGreat
/- What reads as zn goes on to do so: 'Keeps'; drawn regions whose calls yield numbers and fractions. -/
namespace Go.Proofs.YtffmbepfbienaaaGreat
open Go.RowKit
variable {cs:Array Cd} {e z:Int} {p:List Int->Prop} {g i i0 i1 i2 i3 i4 i5 i6 i7 i8 r:Nat} {t:Ce} {a c d u u0 u1 u2 u3 u4 u5 u6 u7 u8 v x:Cd} {W W2:Cc}
theorem ai.four {w:Cc} {b y z:Cd} (h:ai w g t #[a,b,c,d]) :
  ai ((((w.setCell ⟨g,0,none⟩ x).setCell ⟨g,1,none⟩ y).setCell ⟨g,2,none⟩ z).setCell ⟨g,3,none⟩ u) g t #[x,y,z,u]:=(((h.bI 0 x).bI 1 y).bI 2 z).bI 3 u
theorem ai.eV {w:Cc} {b:Cd} (h:ai w g t #[a,b,c,d]):ai (w.setCell ⟨g,0,none⟩ x) g t #[x,b,c,d]:=h.bI 0 x
theorem zw {w:World} (h:ai w g t cs:=by (repeat' first | with_reducible assumption | (with_reducible refine ai.bO ?_; first | with_reducible rfl | (simp only[World.size_alloc,World.size_setCell,World.size_drew]; done)) | with_reducible refine ai.alloc ?_ _ | with_reducible refine ai.drew ?_ | with_reducible refine ai.drewN ?_ _ | with_reducible apply ai.both | with_reducible apply ai.four | with_reducible apply ai.eV | with_reducible refine ai.aG ?_ ?_ | (show _≠_; omega))):ai w g t cs:=h
theorem ai.ak {w w':World} (st:zf w w') (h:ai w g t cs:=by (repeat' first | with_reducible assumption | (with_reducible refine ai.bO ?_; first | with_reducible rfl | (simp only[World.size_alloc,World.size_setCell,World.size_drew]; done)) | with_reducible refine ai.alloc ?_ _ | with_reducible refine ai.drew ?_ | with_reducible refine ai.drewN ?_ _ | with_reducible apply ai.both | with_reducible apply ai.four | with_reducible apply ai.eV | with_reducible refine ai.aG ?_ ?_ | (show _≠_; omega))):ai w' g t cs:=h.ae st
theorem ai.ey {w0 w w':World} (E:ai w0 g t cs) (st:zf w w') (h:ai w g t cs:=by (repeat' first | with_reducible assumption | (with_reducible refine ai.bO ?_; first | with_reducible rfl | (simp only[World.size_alloc,World.size_setCell,World.size_drew]; done)) | with_reducible refine ai.alloc ?_ _ | with_reducible refine ai.drew ?_ | with_reducible refine ai.drewN ?_ _ | with_reducible apply ai.both | with_reducible apply ai.four | with_reducible apply ai.eV | with_reducible refine ai.aG ?_ ?_ | (show _≠_; omega))):ai w' g t cs:=h.ae st
def av (w w':Cc):Prop:=∀v l,aA w v l->aA w' v l
section
variable {w w' b9:Cc}
theorem av.refl (w:Cc):av w w:=fun _ _ h=>h
theorem av.trans (h:av w w') (E:av w' b9):av w b9:=fun v l x=>E v l (h v l x)
theorem av.ae (h:zf w w'):av w w':=fun _ _ x=>x.ae h
theorem av.aI (h:av w w') (E:zf w' b9):av w b9:=h.trans (av.ae E)
theorem av.alloc (h:av w w') (o:Obj):av w (w'.alloc o):=h.aI ((Below.refl _ _).alloc (Cl _) _)
theorem av.drew (h:av w w'):av w w'.drew:=fun v l x=>h v l x
theorem av.drewN (h:av w w') (n:Nat):av w (w'.drewN n):=fun v l x=>h v l x
def cH (w:Cc) (r:Nat):Prop:=∃t cs,ai w r t cs/\zL cs=true
def qi (v:Cd):Bool:=match v with | Cz .u32 _=>false | _=>true
theorem qp (h:zL cs=true) (H:qi u=true):zL (cs.setIfInBounds i u)=true:=by
 unfold zL at *;rw[List.all_eq_true]at *;intro x E;rw[Array.toList_setIfInBounds]at E
 rcases List.mem_or_eq_of_mem_set E with g | g
 . exact h x g
 . subst g; exact H
theorem cH.of (h:ai w r t cs) (E:zL cs=true):cH w r:=⟨t,cs,h,E⟩
theorem cH.alloc (h:cH w r) (o:Obj):cH (w.alloc o) r:=by obtain⟨t,cs,h,e⟩:=h; exact⟨t,cs,h.alloc o,e⟩
theorem cH.drew (h:cH w r):cH w.drew r:=by obtain⟨t,cs,h,e⟩:=h; exact⟨t,cs,h.drew,e⟩
theorem cH.drewN (h:cH w r) (n:Nat):cH (w.drewN n) r:=by obtain⟨t,cs,h,e⟩:=h; exact⟨t,cs,h.drewN n,e⟩
theorem cH.set {b:Nat} (h:cH w r) (E:qi u=true):cH (w.setCell ⟨b,i,none⟩ u) r:=by
 obtain⟨t,cs,h,e⟩:=h
 by_cases hb:r=b
 . subst hb; exact⟨t,_,h.bI i u,qp e E⟩
 . exact⟨t,cs,h.aG hb,e⟩
theorem cH.new (h:w.heap.size=r) (e:zL cs=true):cH (w.alloc (.cells cs t)) r:=⟨t,cs,ai.bO h,e⟩
theorem cH.ae (h:cH w r) (st:zf w w'):cH w' r:=by obtain⟨t,cs,h,e⟩:=h; exact⟨t,cs,h.ae st,e⟩
theorem av.set (h:av w w') (E:cH w' r):av w (w'.setCell ⟨r,i,none⟩ u):=by
 obtain⟨t,cs,H,e⟩:=E;exact fun v l x=>(h v l x).only H e ((bC.refl _ _).set)
theorem av.only (I:ai w r t cs) (E:zL cs=true) (H:bC r w w'):av w w':=fun _ _ x=>x.only I E H
theorem az.af (h:az w v z) (k:av w w'):az w' v z:=by
 obtain⟨s,e,E⟩:=h;exact⟨s,e,k _ _ E⟩
theorem cB.af {p q:Int} (h:cB w v p q) (k:av w w'):cB w' v p q:=by
 obtain⟨I,H,e,M,E,h⟩:=h;exact⟨I,H,e,k _ _ M,k _ _ E,h⟩
theorem FR.af {r:Rat} (h:FR w v r) (k:av w w'):FR w' v r:=cB.af h k
theorem aA.af {l:List Int} (h:aA w v l) (k:av w w'):aA w' v l:=k _ _ h
theorem FR.au {r:Rat} (h:FR w v r):∃a s n c b t m d,v = Cy #[Cx a,Cq s n c,Cx b,Cq t m d]:=cB.au h
theorem FR.cj {r:Rat} (h:FR w v r):∃I T E H Y M,v = Cy #[Cx (decide (r<0)),Cq I T E,Cx false,Cq H Y M]/\az w (Cy #[Cx (decide (r<0)),Cq I T E]) r.num/\az w (Cy #[Cx false,Cq H Y M]) (r.den:Int)/\(T=0↔r=0):=by
 have h2:=h;obtain⟨sp,sq,rfl,lp,X,q0,hg,fp,fq⟩:=h;obtain⟨I,E,e1⟩:=lp.au;obtain⟨H,M,Z⟩:=X.au
 have e3:decide (r<0)=decide (r.num<0):=by
  have:r<0↔r.num<0:=by
   rw[<- Rat.not_le,<- Rat.num_nonneg]; omega
  simp[this]
 refine⟨I,(zn (zh r.num)).length,E,H,(zn (r.den:Int)).length,M,by rw[e1,Z,e3],⟨_,by rw[e3],by rw[<- e1]; exact lp⟩,⟨_,by rw[C_ (by omega:¬(r.den:Int)<0)],by rw[qL B_,<- Z]; exact X⟩,?_⟩;rw[List.length_eq_zero_iff,zT (zt _),<- Rat.num_eq_zero];unfold zh; omega
theorem FR.fit {r:Rat} (h:FR w v r):fits r.num/\fits (r.den:Int):=by
 obtain⟨_,_,_,_,_,q0,_,E,H⟩:=h;exact⟨E,H⟩
end
theorem zo {w:World} (h:av w W:=by (repeat' first | with_reducible assumption | with_reducible exact av.refl _ | with_reducible refine av.alloc ?_ _ | with_reducible refine av.drew ?_ | with_reducible refine av.drewN ?_ _ | with_reducible refine av.set ?_ ?_ | ((with_reducible apply cH.of); (with_reducible assumption); exact Eq.refl true) | with_reducible refine cH.alloc ?_ _ | with_reducible refine cH.drew ?_ | with_reducible refine cH.drewN ?_ _ | refine cH.set ?_ (Eq.refl true) | (refine cH.new ?_ (Eq.refl true); first | with_reducible rfl | (simp only[World.size_alloc,World.size_setCell,World.size_drew]; done)))):av w W:=h
def gw:List (Nat×(Cd->Cc->Prop))->Nat->Cd->Cc->Prop
 | [],_,_,_=>True
 | (i,e)::r,k,x,W=>if k=i then e x W else gw r k x W
theorem qW (l:List (Nat×(Cd->Cc->Prop))) (h:∀p∈l,∀x W W',av W W'->p.2 x W->p.2 x W') {k:Nat} {x:Cd} {W W':Cc} (H:av W W') (E:gw l k x W):gw l k x W':=by
 induction l with
 | nil=>exact E
 | cons p r ih=>
  obtain⟨i,e⟩:=p;unfold gw at E|-
  by_cases hi:k=i
  . rw[C7 hi]at E|-; exact h _ (.head _) x W W' H E
  . rw[C8 hi]at E|-; exact ih (fun p I=>h p (.tail _ I)) E
def y_ (x:Cd):Prop:=∃a s n c b t m d,x = Cy #[Cx a,Cq s n c,Cx b,Cq t m d]
def UZ (e:Int) (x:Cd):Prop:=∃a s n c b t m d,x = Ck #[Cy #[Cx a,Cq s n c,Cx b,Cq t m d],Cz Cv e]
def kF (x:Cd):Prop:=∃a s n c,x = Cy #[Cx a,Cq s n c]
def kG (e:Int) (x:Cd):Prop:=∃a s n c,x = Ck #[Cy #[Cx a,Cq s n c],Cz Cv e]
def aj.cat (l:List (Array Cd)):Array Cd:=(l.flatMap Array.toList).toArray
def JT (x:Cd):Prop:=∃s n c,x = Cq s n c
def dN (p:List Int->Prop) (x:Cd) (W:Cc):Prop:=∃l,p l/\aA W x l
theorem dN.af (x:Cd) (W W':Cc) (k:av W W') (h:dN p x W):dN p x W':=by obtain⟨l,H,E⟩:=h; exact⟨l,H,k _ _ E⟩
theorem dN.au (h:dN p x W):∃s n c,x = Cq s n c:=by obtain⟨l,_,E⟩:=h; obtain⟨s,c,e⟩:=E.au; exact⟨s,_,c,e⟩
def jH (x:Cd):Prop:=∃g:Nat,x = Cj (some ⟨g,0,none⟩)
def bU (r:Rat) (x:Cd) (W:Cc):Prop:=FR W x r
def cZ (r:Rat) (e:Int) (x:Cd) (W:Cc):Prop:=∃v,x = Ck #[v,Cz Cv e]/\FR W v r
def dm (z:Int) (x:Cd) (W:Cc):Prop:=az W x z
def bZ (z e:Int) (x:Cd) (W:Cc):Prop:=∃v,x = Ck #[v,Cz Cv e]/\az W v z
def eU (_:Cd) (_:Cc):Prop:=True
theorem bU.af {r:Rat} (x:Cd) (W W':Cc) (k:av W W') (h:bU r x W):bU r x W':=FR.af h k
theorem cZ.af {r:Rat} (x:Cd) (W W':Cc) (k:av W W') (h:cZ r e x W):cZ r e x W':=by obtain⟨v,H,E⟩:=h; exact⟨v,H,E.af k⟩
theorem dm.af (x:Cd) (W W':Cc) (k:av W W') (h:dm z x W):dm z x W':=az.af h k
theorem bZ.af (x:Cd) (W W':Cc) (k:av W W') (h:bZ z e x W):bZ z e x W':=by obtain⟨v,H,E⟩:=h; exact⟨v,H,E.af k⟩
theorem eU.af (x:Cd) (W W':Cc) (_:av W W') (_:eU x W):eU x W':=trivial
theorem cZ.get {r:Rat} (h:cZ r e (Ck #[v,Cz Cv e]) W):FR W v r:=by
 obtain⟨u,E,H⟩:=h;simp only[Value.tuple.injEq,Array.mk.injEq,List.cons.injEq,and_true]at E;rw[E]; exact H
theorem bZ.get (h:bZ z e (Ck #[v,Cz Cv e]) W):az W v z:=by
 obtain⟨u,E,H⟩:=h;simp only[Value.tuple.injEq,Array.mk.injEq,List.cons.injEq,and_true]at E;rw[E]; exact H
theorem aj.dK (l:List (Nat×(Value->Prop))) (h:∀p∈l,∃x,p.2 x:=by (repeat' refine List.forall_mem_cons.2 ⟨?_,?_⟩)<;>first | exact⟨_,rfl⟩ | exact⟨_,0,rfl⟩ | exact⟨_,none,0,0,rfl⟩ | exact⟨_,false,none,0,0,rfl⟩ | exact⟨_,false,none,0,0,false,none,0,0,rfl⟩ | (intro p E; cases E)):∀k,∃x,aj.gv l k x:=aj.bk l h
theorem Hv {l:List (Nat×(Value->World->Prop))} {k:Nat} {W':World} (H:av W W') (E:gw l k x W) (h:∀p∈l,∀x W W',av W W'->p.2 x W->p.2 x W':=by (repeat' refine List.forall_mem_cons.2 ⟨?_,?_⟩)<;>first | exact bU.af | exact cZ.af | exact dm.af | exact bZ.af | exact dN.af | (intro p I; cases I)):gw l k x W':=qW l h H E
theorem Zc {a:Cc} (h:Below a.heap.size a W) (E:zf W W2):Below a.heap.size a W2:=zp h (Cl _) E
theorem Uf {n:Nat} (h:n<=W.heap.size) (E:zf W W2):n<=W2.heap.size:=Nat.le_trans h E.size
theorem j9 {x n:Nat} (h:Nat.ble (x+1) n=true):∀t,some x=some t->t<n:=by intro t ht; cases ht; exact Ca h
theorem kB (w:World) {W W':World} (st:zf W W') (h:av w W:=by (repeat' first | with_reducible assumption | with_reducible exact av.refl _ | with_reducible refine av.alloc ?_ _ | with_reducible refine av.drew ?_ | with_reducible refine av.drewN ?_ _ | with_reducible refine av.set ?_ ?_ | ((with_reducible apply cH.of); (with_reducible assumption); exact Eq.refl true) | with_reducible refine cH.alloc ?_ _ | with_reducible refine cH.drew ?_ | with_reducible refine cH.drewN ?_ _ | refine cH.set ?_ (Eq.refl true) | (refine cH.new ?_ (Eq.refl true); first | with_reducible rfl | (simp only[World.size_alloc,World.size_setCell,World.size_drew]; done)))):av w W':=av.aI h st
theorem Bi {n:Nat} (h:Hid (n=W.heap.size)):n<=W.drew.heap.size:=Nat.le_of_eq h.out
/-- cells of one block written -/
structure Wr (r:Nat) (w w':Cc):Prop where
 os:w'.os=w.os
 tape:w'.tape=w.tape
 output:w'.output=w.output
 only:bC r w w'
theorem Wr.refl (r:Nat) (w:Cc):Wr r w w:=⟨rfl,rfl,rfl,bC.refl r w⟩
theorem Wr.set {w w':Cc} (h:Wr r w w'):Wr r w (w'.setCell ⟨r,i,none⟩ u):=⟨h.os,h.tape,h.output,h.only.set⟩
theorem Wr.b {n:Nat} {a w w':Cc} (h:Wr r w w') (j:Below n a w) (H:n<=r:=by omega):Below n a w':=j.trans ⟨h.os,h.tape,h.output,Nat.le_of_eq h.only.1.symm,fun k E=>h.only.2 k B_⟩
theorem Wr.n {n:Nat} {w w':Cc} (h:Wr r w w') (j:n<=w.heap.size):n<=w'.heap.size:=h.only.1▸j
theorem Wr.k {w w':Cc} (h:Wr r w w') (H:ai w r t cs) (E:zL cs=true:=by exact rfl):av w w':=av.only H E h.only
theorem Wr.f {w w':Cc} (h:Wr r w w') (b:ai w g t cs) (E:g≠r:=by omega):ai w' g t cs:=(h.only.2 g E).trans b
theorem ai.st {w:Cc} (h:ai w g t cs):ai (w.setCell ⟨g,i,none⟩ u) g t (cs.setIfInBounds i u):=h.bI i u
theorem aj.ew {P:Program} {ops:Array Oper} {Q:Exit->Act->Cc->Prop} {id:Nat} {E:Act} {w:Cc} (J:Nat->(Nat->Bool)->(Nat->Cd)->Cc->Prop) (cs:List Nat) (vs:List (Nat×(Cd->Prop))) (gs:List (Nat×(Cd->Cc->Prop))) (ps:List (Nat×List (Nat×Option Tmp))) (qs:List (Nat×List Nat))
  (h:∀I,Hid (I=w.heap.size)->(∀v,J I (fun _=>false) v w.drew)/\(∀D v v' W,(∀j,D j=true->v j=v' j)->J I D v W->J I D v' W)/\
   ∀H X,H=ops->(∀a W,Q .normal a W->X .normal a W)->aj.RC P H X (J I) (aj.inl cs) (aj.gv vs) (gw gs) (fun _=>av) (fun _ _=>False) (aj.pl ps) (aj.pl qs) 0 ops.toList E)
  (hm:P.follows .mixedOrders=true:=by kernel_rfl) (ht:aj.tidy ops E.tmps.size=true:=by kernel_rfl) (M:aj.cS ops (aj.inl cs) (aj.pl ps) (aj.pl qs)=true:=by kernel_rfl)
  (hv:∀p∈vs,∃x,p.2 x:=by ((repeat' refine List.forall_mem_cons.2 ⟨?_,?_⟩)<;>first | exact⟨_,rfl⟩ | exact⟨_,0,rfl⟩ | exact⟨_,none,0,rfl⟩ | exact⟨_,none,0,0,rfl⟩ | exact⟨_,false,none,0,0,rfl⟩ | exact⟨_,false,none,0,0,false,none,0,0,rfl⟩ | (intro p T; cases T))) (Y:∀p∈gs,∀x W W',av W W'->p.2 x W->p.2 x W':=by ((repeat' refine List.forall_mem_cons.2 ⟨?_,?_⟩)<;>first | exact bU.af | exact cZ.af | exact dm.af | exact bZ.af | exact dN.af | (intro p T; cases T))):(Code.region id ops true).wp P Q E w:=
 aj.bz J (aj.inl cs) (aj.gv vs) (gw gs) (fun _=>av) (fun _ _=>False) (aj.pl ps) (aj.pl qs) hm ht M (aj.bk vs hv) fun I hn=>let ⟨h1,h2,h3⟩:=h I hn; ⟨h1,h2,fun _ _ _ _ _ _ _ _ _ _ _ hk Z=>qW gs Y hk Z,fun _ _ _ _ h=>h.elim,h3⟩
theorem bV {w:Cc} : Wr r w (World.setCell (World.setCell w ⟨r,i0,none⟩ u0) ⟨r,i1,none⟩ u1):=(Wr.refl r w).set.set
theorem ei {w:Cc} : Wr r w (World.setCell (World.setCell (World.setCell (World.setCell (World.setCell (World.setCell (World.setCell (World.setCell (World.setCell w ⟨r,i0,none⟩ u0) ⟨r,i1,none⟩ u1) ⟨r,i2,none⟩ u2) ⟨r,i3,none⟩ u3) ⟨r,i4,none⟩ u4) ⟨r,i5,none⟩ u5) ⟨r,i6,none⟩ u6) ⟨r,i7,none⟩ u7) ⟨r,i8,none⟩ u8):=(Wr.refl r w).set.set.set.set.set.set.set.set.set
theorem dW {T H E I M:Nat} {u9 u10 u11 u12 u13:Cd} {w:Cc} : Wr r w (World.setCell (World.setCell (World.setCell (World.setCell (World.setCell (World.setCell (World.setCell (World.setCell (World.setCell (World.setCell (World.setCell (World.setCell (World.setCell (World.setCell w ⟨r,i0,none⟩ u0) ⟨r,i1,none⟩ u1) ⟨r,i2,none⟩ u2) ⟨r,i3,none⟩ u3) ⟨r,i4,none⟩ u4) ⟨r,i5,none⟩ u5) ⟨r,i6,none⟩ u6) ⟨r,i7,none⟩ u7) ⟨r,i8,none⟩ u8) ⟨r,T,none⟩ u9) ⟨r,H,none⟩ u10) ⟨r,E,none⟩ u11) ⟨r,I,none⟩ u12) ⟨r,M,none⟩ u13):=(Wr.refl r w).set.set.set.set.set.set.set.set.set.set.set.set.set.set
end Go.Proofs.YtffmbepfbienaaaGreat
/- A drawn region's blocks as data: what each operation does to them is said once, by laws Xb a list of entries. -/
namespace Go.Proofs.YtffmbepfbienaaaGreat
open Go.RowKit
variable {J:(Nat->Bool)->(Nat->Cd)->Cc->Prop} {a':Act} {args c:Array Cd} {js:List Nat} {ce:List PanicEntry->Cc->Prop} {l:List Cd} {f:List Cd->Array Cd} {p p':List Cd->Nat->Cd} {G b g i j o0 o1 o2 o3 q0 q1 q2 q3:Nat} {a9:Nat->Bool} {pre:Nat->List (Nat×Option Tmp)} {post:Nat->List Nat} {v':Nat->Cd} {V:Nat->Cd->Prop} {Sx:Nat->Cc->Cc->Prop} {t:Ce} {u x x0 x1 bl be ci bf cx bi x2 x3 x4 x5 x6 x7 x8 x9:Cd} {w:Cc}
/-- a block in a drawn region. o: it stands; s: operation i stores f of the values of js into it; n: operation k lays it, operation i stores into it; m: G9 operations store into it, each some cells -/
inductive aF
 | o (b:Nat) (t:Ce) (c:Array Cd)
 | s (b:Nat) (t:Ce) (c:Array Cd) (i:Nat) (js:List Nat) (f:List Cd->Array Cd)
 | n (k:Nat) (t:Ce) (c:Array Cd) (i:Nat) (js:List Nat) (f:List Cd->Array Cd)
 | m (b:Nat) (t:Ce) (c:Array Cd) (i:Nat) (js:List Nat) (f:List Cd->Array Cd->Array Cd) (i':Nat) (js':List Nat) (f':List Cd->Array Cd->Array Cd)
namespace aF
def de (i:Nat) (js:List Nat) (f:List Cd->Array Cd) (c:Array Cd) (D:Nat->Bool) (v:Nat->Cd):Array Cd:=if D i=true then f (js.map v)else c
def app (i:Nat) (js:List Nat) (f:List Cd->Array Cd->Array Cd) (c:Array Cd) (D:Nat->Bool) (v:Nat->Cd):Array Cd:=if D i=true then f (js.map v) c else c
def B (N:Nat) (D:Nat->Bool) (v:Nat->Cd) (W:Cc):aF->Prop
 | .o b t c=>ai W b t c
 | .s b t c i js f=>ai W b t (de i js f c D v)
 | .n k t c i js f=>D k=true->∃g:Nat,v k = Cj (some ⟨g,0,none⟩)/\N<=g/\ai W g t (de i js f c D v)
 | .m b t c i js f i' js' f'=>ai W b t (app i js f (app i' js' f' c D v) D v)/\zL (app i js f (app i' js' f' c D v) D v)=true
def place:aF->Option Nat | .o b _ _=>some b | .s b _ _ _ _ _=>some b | .n .. =>none | .m b .. =>some b
def eF:aF->List (Nat×List Nat) | .o .. => [] | .s _ _ _ i js _=> [(i,js)] | .n _ _ _ i js _=> [(i,js)] | .m _ _ _ i js _ i' js' _=> [(i,js),(i',js')]
def lay:aF->Option Nat | .n k _ _ _ _ _=>some k | _=>none
/-- operation k neither lays nor stores into it -/
def fr (k:Nat):aF->Bool | .o .. =>true | .s _ _ _ i _ _=> !(i==k) | .n a _ _ i _ _=> !(a==k) && !(i==k) | .m _ _ _ i _ _ i' _ _=> !(i==k) && !(i'==k)
def ns (k:Nat):aF->Bool | .o .. =>true | .s _ _ _ i _ _=> !(i==k) | .n _ _ _ i _ _=> !(i==k) | .m _ _ _ i _ _ i' _ _=> !(i==k) && !(i'==k)
def nl (k:Nat):aF->Bool | .n a _ _ _ _ _=> !(a==k) | _=>true
end aF
def Bd (N:Nat) (D:Nat->Bool) (v:Nat->Cd) (W:Cc):List aF->Prop
 | []=>True
 | e::r=>e.B N D v W/\Bd N D v W r
theorem xq {N:Nat} {D:Nat->Bool} {v:Nat->Cd} {W:Cc} : ∀{L:List aF},Bd N D v W L↔∀x∈L,x.B N D v W
 | []=>⟨fun _ x h=>(by cases h),fun _=>trivial⟩
 | e::r=>by
  rw[List.forall_mem_cons,<- xq]; rfl
structure SJ (wb w0:Cc) (N:Nat) (L:List aF) (D:Nat->Bool) (v:Nat->Cd) (W:Cc):Prop where
 b:Below wb.heap.size wb W
 k:av w0 W
 n:N<=W.heap.size
 e:Bd N D v W L
 lt:∀x∈L,∀b,x.place=some b->b<N
 src:∀x∈L,∀p∈x.eF,D p.1=true->∀j∈p.2,D j=true
 dis:∀k k',(∃x∈L,x.lay=some k)->(∃x∈L,x.lay=some k')->k≠k'->D k=true->D k'=true->v k≠v k'
 iw:wb.heap.size<=N
theorem Qs {k:Nat} {D:Nat->Bool} {v:Nat->Cd} {y:Cd} (I:i≠k) (E:D k=false) (H:D i=true->∀j∈js,D j=true):aF.de i js f c (aj.upd D k) (aj.aQ v k y)=aF.de i js f c D v:=by
 have T:aj.upd D k i=D i:=by unfold aj.upd; rw[beq_eq_false_iff_ne.2 I,Bool.false_or]
 unfold aF.de;rw[T]
 by_cases h:D i=true
 .
  rw[C7 h,C7 h]
  congr 1
  refine List.map_congr_left fun j M=> ?_;unfold aj.aQ;rw[C8];rintro rfl;rw[H h _ M]at E; cases E
 . rw[C8 h,C8 h]
theorem YS {k:Nat} {f:List Cd->Array Cd->Array Cd} {D:Nat->Bool} {v:Nat->Cd} {y:Cd} (E:i≠k) (H:D k=false) (I:D i=true->∀j∈js,D j=true):aF.app i js f c (aj.upd D k) (aj.aQ v k y)=aF.app i js f c D v:=Qs (f:=fun l=>f l c) E H I
theorem K5 {D:Nat->Bool} {v:Nat->Cd} (H:D i=true->∀j∈js,D j=true) (hv:∀j,D j=true->v j=v' j):aF.de i js f c D v'=aF.de i js f c D v:=by
 unfold aF.de
 by_cases h:D i=true
 .
  rw[C7 h,C7 h]
  congr 1
  exact List.map_congr_left fun j E=>(hv j (H h j E)).symm
 . rw[C8 h,C8 h]
theorem U0 {f:List Cd->Array Cd->Array Cd} {D:Nat->Bool} {v:Nat->Cd} (E:D i=true->∀j∈js,D j=true) (hv:∀j,D j=true->v j=v' j):aF.app i js f c D v'=aF.app i js f c D v:=K5 (f:=fun l=>f l c) E hv
theorem xQ {D:Nat->Bool} {k:Nat} (h:j≠k):aj.upd D k j=D j:=by unfold aj.upd; rw[beq_eq_false_iff_ne.2 h,Bool.false_or]
theorem jI {D:Nat->Bool} {k:Nat} (h:D j=true):aj.upd D k j=true:=by unfold aj.upd; rw[h,Bool.or_true]
theorem xW {v:Nat->Cd} {k:Nat} {y:Cd} (h:j≠k):aj.aQ v k y j=v j:=by unfold aj.aQ; rw[C8 h]
theorem YT {v:Nat->Cd} {k:Nat} {y:Cd} : aj.aQ v k y k=y:=by unfold aj.aQ; rw[C7 rfl]
theorem YU {D:Nat->Bool} {k:Nat} : aj.upd D k k=true:=by unfold aj.upd; rw[beq_self_eq_true,Bool.true_or]
/-- an entry that operation k does not touch -/
theorem aF.dO {N k:Nat} {D:Nat->Bool} {v:Nat->Cd} {y:Cd} {W W':Cc} {x:aF} (X:x.fr k=true) (I:D k=false) (M:∀p∈x.eF,D p.1=true->∀j∈p.2,D j=true)
  (H:∀g t c,(x.place=some g\/∃a,x.lay=some a/\D a=true/\v a = Cj (some ⟨g,0,none⟩)/\N<=g)->ai W g t c->ai W' g t c) (h:x.B N D v W):x.B N (aj.upd D k) (aj.aQ v k y) W':=by
 cases x with
 | o b t c=>exact H _ _ _ (.inl rfl) h
 | s b t c i js f=>
  have E:i≠k:=by simpa[aF.fr]using X
  show ai W' b t _
  rw[Qs E I (M _ (.head _))];exact H _ _ _ (.inl rfl) h
 | m b t c i js f i' js' f'=>
  have E:i≠k/\i'≠k:=by simpa[aF.fr]using X
  show ai W' b t _/\zL _=true
  rw[YS E.2 I (M _ (.tail _ (.head _))),YS E.1 I (M _ (.head _))];exact⟨H _ _ _ (.inl rfl) h.1,h.2⟩
 | n a t c i js f=>
  have E:a≠k/\i≠k:=by simpa[aF.fr]using X
  intro T;rw[xQ E.1]at T;obtain⟨g,Z,Y,e3⟩:=h T;refine⟨g,by rw[xW E.1]; exact Z,Y,?_⟩;rw[Qs E.2 I (M _ (.head _))];exact H _ _ _ (.inr ⟨a,rfl,T,Z,Y⟩) e3
theorem aF.dI {k:Nat} {x:aF} (h:x.fr k=true):∀p∈x.eF,p.1≠k:=fun p E=>by
 cases x with
 | o b t c=>cases E
 | s b t c i js f=>
           have:i≠k:=by simpa[aF.fr]using h
           rw[List.mem_singleton.1 E]; exact this
 | n a t c i js f=>
           have:a≠k/\i≠k:=by simpa[aF.fr]using h
           rw[List.mem_singleton.1 E]; exact this.2
 | m b t c i js f i' js' f'=>
  have:i≠k/\i'≠k:=by simpa[aF.fr]using h
  rcases List.mem_cons.1 E with rfl | E
  . exact this.1
  . rw[List.mem_singleton.1 E]; exact this.2
section
variable {wb w0:Cc} {N k:Nat} {L L1 L2:List aF} {D:Nat->Bool} {v:Nat->Cd} {y:Cd} {W W':Cc}
theorem SJ.vv (h:SJ wb w0 N L D v W) {v':Nat->Cd} (hv:∀j,D j=true->v j=v' j):SJ wb w0 N L D v' W:=by
 refine⟨h.b,h.k,h.n,xq.2 fun x E=> ?_,h.lt,h.src,fun k T h1 h2 H M X=>by rw[<- hv k M,<- hv T X]; exact h.dis k T h1 h2 H M X,h.iw⟩;have:=xq.1 h.e x E
 cases x with
 | o b t c=>exact this
 | s b t c i js f=>show ai W b t _; rw[K5 (h.src _ E _ (.head _)) hv]; exact this
 | m b t c i js f i' js' f'=>show ai W b t _/\zL _=true; rw[U0 (h.src _ E _ (.tail _ (.head _))) hv,U0 (h.src _ E _ (.head _)) hv]; exact this
 | n a t c i js f=>
  intro I;obtain⟨g,e1,Y,Z⟩:=this I;exact⟨g,by rw[<- hv a I]; exact e1,Y,by rw[K5 (h.src _ E _ (.head _)) hv]; exact Z⟩
theorem SJ.call (h:SJ wb w0 N L D v W) (hk:D k=false) (M:L.all (aF.fr k)=true) (I:zf W W'):SJ wb w0 N L (aj.upd D k) (aj.aQ v k y) W':=by
 rw[List.all_eq_true]at M
 have nl:∀x∈L,∀a,x.lay=some a->a≠k:=fun x E a Y=>by
  have:=M x E
  cases x<;>simp[aF.lay,aF.fr]at Y this
  subst Y; exact this.1
 have X:∀x∈L,∀p∈x.eF,p.1≠k:=fun x E=>aF.dI (M x E);refine⟨zp h.b (Cl _) I,h.k.aI I,Nat.le_trans h.n I.size,xq.2 fun x E=>aF.dO (M x E) hk (h.src x E) (fun _ _ _ _ b=>b.ae I) (xq.1 h.e x E),h.lt,fun x E p hp d=> ?_,fun a a' h1 h2 T d1 d2=> ?_,h.iw⟩
 .
  rw[xQ (X x E p hp)]at d;exact fun j hj=>jI (h.src x E p hp d j hj)
 .
  obtain⟨x,E,e1⟩:=h1;obtain⟨x',H,Z⟩:=h2;have n1:=nl x E a e1;have n2:=nl x' H a' Z;rw[xQ n1]at d1;rw[xQ n2]at d2;rw[xW n1,xW n2];exact h.dis a a' ⟨x,E,e1⟩ ⟨x',H,Z⟩ T d1 d2
theorem SJ.alloc (h:SJ wb w0 N L D v W) (hL:L=L1 ++ .n k t c i js f::L2) (hk:D k=false) (hi:D i=false) (Y:i≠k) (h1:(L1.all (aF.fr k)&&L2.all (aF.fr k))=true) :
  SJ wb w0 N L (aj.upd D k) (aj.aQ v k (Cj (some ⟨W.heap.size,0,none⟩))) (W.alloc (.cells c t)):=by
 rw[Bool.and_eq_true,List.all_eq_true,List.all_eq_true]at h1;have hs:zf W (W.alloc (.cells c t)):=(Below.refl _ _).alloc (Cl _) _
 have X:∀x∈L,x = .n k t c i js f\/x.fr k=true:=fun x E=>by
  rw[hL,List.mem_append,List.mem_cons]at E
  rcases E with g | g | g
  . exact .inr (h1.1 x g)
  . exact .inl g
  . exact .inr (h1.2 x g)
 have ah:∀x∈L,∀p∈x.eF,p.1≠k:=fun x E p M=>by
  rcases X x E with rfl | this
  . rw[List.mem_singleton.1 M]; exact Y
  . exact aF.dI this p M
 have old:∀x∈L,∀a,x.lay=some a->a≠k->D a=true->∃g,v a = Cj (some ⟨g,0,none⟩)/\g<W.heap.size:=fun x E a ha I d=>by
  have:=xq.1 h.e x E
  cases x<;>simp[aF.lay]at ha
  subst ha;obtain⟨g,e1,_,Z⟩:=this d;exact⟨g,e1,Z.lt⟩
 refine⟨zp h.b (Cl _) hs,h.k.aI hs,Nat.le_trans h.n hs.size,xq.2 fun x E=> ?_,h.lt,fun x E p M d=> ?_,fun a a' g1 g2 I d1 d2=> ?_,h.iw⟩
 .
  rcases X x E with rfl | hf
  .
   intro _;refine⟨W.heap.size,YT,h.n,?_⟩;unfold aF.de;rw[xQ Y,hi,C8 Bool.false_ne_true];exact ai.new _ _ _
  . exact aF.dO hf hk (h.src x E) (fun _ _ _ _ b=>b.ae hs) (xq.1 h.e x E)
 .
  rw[xQ (ah x E p M)]at d;exact fun j hj=>jI (h.src x E p M d j hj)
 .
  obtain⟨x,E,e1⟩:=g1;obtain⟨x',T,e2⟩:=g2
  by_cases n1:a=k
  .
   subst n1;have H:a'≠a:=fun e=>I e.symm;rw[xQ H]at d2;rw[YT,xW H];obtain⟨g,Z,e4⟩:=old x' T a' e2 H d2;rw[Z]; exact aj.dw e4
  .
   rw[xQ n1]at d1;rw[xW n1]
   by_cases H:a'=k
   .
    subst H;rw[YT];obtain⟨g,Z,e4⟩:=old x E a e1 n1 d1;rw[Z]; exact(aj.dw e4).symm
   .
    rw[xQ H]at d2;rw[xW H];exact h.dis a a' ⟨x,E,e1⟩ ⟨x',T,e2⟩ I d1 d2
/-- a store: e is the entry that operation k stores into, at place G -/
theorem SJ.store {e:aF} (h:SJ wb w0 N L D v W) (hL:L=L1++e::L2) (hk:D k=false) (h1:(L1.all (aF.fr k)&&L2.all (aF.fr k))=true) (M:∀a,e.lay=some a->a≠k)
  (ah:∀p∈e.eF,p.1=k->∀j∈p.2,D j=true) (hG:wb.heap.size<=G) (hb:ai W G t c) (hu:zL c=true)
  (I:∀x,x∈L1\/x∈L2->∀g,(x.place=some g\/∃a,x.lay=some a/\D a=true/\v a = Cj (some ⟨g,0,none⟩)/\N<=g)->g≠G) (hw:Wr G W W') (he:e.B N (aj.upd D k) (aj.aQ v k y) W') :
  SJ wb w0 N L (aj.upd D k) (aj.aQ v k y) W'/\av W W':=by
 rw[Bool.and_eq_true,List.all_eq_true,List.all_eq_true]at h1;have kp:av W W':=av.only hb hu hw.only
 have H:∀x∈L,x=e\/((x∈L1\/x∈L2)/\x.fr k=true):=fun x E=>by
  rw[hL,List.mem_append,List.mem_cons]at E
  rcases E with g | g | g
  . exact .inr ⟨.inl g,h1.1 x g⟩
  . exact .inl g
  . exact .inr ⟨.inr g,h1.2 x g⟩
 have nl:∀x∈L,∀a,x.lay=some a->a≠k:=fun x E a ha=>by
  rcases H x E with rfl | ⟨_,this⟩
  . exact M a ha
  .
   cases x<;>simp[aF.lay,aF.fr]at ha this
   subst ha; exact this.1
 refine⟨⟨h.b.trans ⟨hw.os,hw.tape,hw.output,Nat.le_of_eq hw.only.1.symm,fun j Y=>hw.only.2 j B_⟩,h.k.trans kp,hw.only.1▸h.n,xq.2 fun x E=> ?_,h.lt,fun x E p Z d j Y=> ?_,fun a a' g1 g2 I d1 d2=> ?_,h.iw⟩,kp⟩
 .
  rcases H x E with rfl | ⟨hm,hf⟩
  . exact he
  . exact aF.dO hf hk (h.src x E) (fun g _ _ hg b=>hw.f b (I x hm g hg)) (xq.1 h.e x E)
 .
  rcases H x E with rfl | ⟨_,this⟩
  .
   by_cases X:p.1=k
   . exact jI (ah p Z X j Y)
   .
    rw[xQ X]at d;exact jI (h.src x E p Z d j Y)
  .
   rw[xQ (aF.dI this p Z)]at d;exact jI (h.src x E p Z d j Y)
 .
  obtain⟨x,E,X⟩:=g1;obtain⟨x',T,e2⟩:=g2;have n1:=nl x E a X;have n2:=nl x' T a' e2;rw[xQ n1]at d1;rw[xQ n2]at d2;rw[xW n1,xW n2];exact h.dis a a' ⟨x,E,X⟩ ⟨x',T,e2⟩ I d1 d2
end
def vS:List (Nat×Option Tmp)->Nat->Option Tmp
 | [],_=>none
 | (i,t)::r,j=>if i=j then t else vS r j
def qQ (a:Act) (l:List (Nat×Option Tmp)) (js:List Nat):List Cd:=js.map fun j=>aj.at_ a (vS l j)
def jY (a9:Nat->Bool) (l:List (Nat×Option Tmp)) (js:List Nat):Bool:=js.all fun j=>a9 j&&l.any fun p=>p.1==j
theorem XE : ∀{l:List (Nat×Option Tmp)},(l.any fun p=>p.1==j)=true->(j,vS l j)∈l
 | [],h=>by cases h
 | (i,t)::r,h=>by
  unfold vS
  by_cases e:i=j
  . rw[C7 e,e]; exact .head _
  .
   rw[C8 e];rw[List.any_cons,show (i==j)=false from beq_eq_false_iff_ne.2 e,Bool.false_or]at h;exact .tail _ (XE h)
theorem yW {G:Nat->Cd->Cc->Prop} {k:Nat} {a:Act} {D:Nat->Bool} {v:Nat->Cd} {W:Cc} (I:aj.aJ a9 G pre k a D v W) (E:jY a9 (pre k) js=true) :
  ∀j∈js,D j=true/\v j=aj.at_ a (vS (pre k) j):=fun j H=>by
 unfold jY at E;have h:=List.all_eq_true.1 E j H;rw[Bool.and_eq_true]at h;have:=I _ (XE h.2) h.1;exact⟨this.1,this.2.1⟩
theorem qN {v:Nat->Cd} {a:Act} {l:List (Nat×Option Tmp)} (h:∀j∈js,v j=aj.at_ a (vS l j)):js.map v=qQ a l js:=List.map_congr_left h
namespace aj
def v1:List Cd->Array Cd:=fun l=>match l with | [Cy c]=>c | _=>#[]
def vT (i:Nat):List Cd->Array Cd:=fun l=>match l with | [Ck t]=>(match t[i]? with | some (Cy c)=>c | _=>#[]) | _=>#[]
def vx (c:Array Cd):List Cd->Array Cd:=fun _=>c
def vN:List Cd->Array Cd:=fun l=>(l.flatMap fun x=>match x with | Cy c=>c.toList | _=> []).toArray
end aj
def aX (W:Cc):List aF->Prop
 | []=>True
 | .o b t c::r=>ai W b t c/\aX W r
 | .s b t c _ _ _::r=>ai W b t c/\aX W r
 | .m b t c _ _ _ _ _ _::r=>(ai W b t c/\zL c=true)/\aX W r
 | .n .. :: r=>aX W r
theorem aX.mem {W:Cc} : ∀{L:List aF},aX W L->∀x∈L,match x with | .o b t c=>ai W b t c | .s b t c _ _ _=>ai W b t c | .m b t c _ _ _ _ _ _=>ai W b t c/\zL c=true | .n .. =>True
 | [],_,x,h=>by cases h
 | e::r,h,x,hx=>by
  rw[List.mem_cons]at hx
  rcases hx with rfl | hx
  .
   cases x with
   | o b t c=>exact h.1
   | s b t c i js f=>exact h.1
   | m b t c i js f i' js' f'=>exact h.1
   | n k t c i js f=>trivial
  .
   cases e with
   | o b t c=>exact aX.mem h.2 x hx
   | s b t c i js f=>exact aX.mem h.2 x hx
   | m b t c i js f i' js' f'=>exact aX.mem h.2 x hx
   | n k t c i js f=>exact aX.mem (L:=r) h x hx
theorem SJ.start {wb w0 W:Cc} {L:List aF} (E:Below wb.heap.size wb W/\av w0 W/\aX W L) (v:Nat->Cd):SJ wb w0 W.heap.size L (fun _=>false) v W:=by
 refine⟨E.1,E.2.1,Cl _,xq.2 fun x I=> ?_,fun x I b H=> ?_,fun _ _ _ _ h=>(by cases h),fun _ _ _ _ _ h=>(by cases h),E.1.size⟩
 .
  have:=E.2.2.mem x I
  cases x with
  | o b t c=>exact this
  | s b t c i js f=>exact this
  | m b t c i js f i' js' f'=>exact this
  | n k t c i js f=>intro h; cases h
 .
  have:=E.2.2.mem x I
  cases x with
  | o b' t c=>cases H; exact this.lt
  | s b' t c i js f=>cases H; exact this.lt
  | m b' t c i js f i' js' f'=>cases H; exact this.1.lt
  | n k t c i js f=>cases H
theorem aj.dj {P:Program} {ops:Array Oper} {Q:Exit->Act->Cc->Prop} {id:Nat} {E:Act} (wb w0:Cc) (L:List aF) (cs:List Nat) (vs:List (Nat×(Cd->Prop))) (gs:List (Nat×(Cd->Cc->Prop))) (ps:List (Nat×List (Nat×Option Tmp))) (qs:List (Nat×List Nat))
  (hi:Below wb.heap.size wb w.drew/\av w0 w.drew/\aX w.drew L)
  (h:∀M,Hid (M=w.heap.size)->∀H Y,H=ops->(∀a W,Q .normal a W->Y .normal a W)->aj.RC P H Y (SJ wb w0 M L) (aj.inl cs) (aj.gv vs) (gw gs) (fun _=>av) (fun _ _=>False) (aj.pl ps) (aj.pl qs) 0 ops.toList E)
  (hm:P.follows .mixedOrders=true:=by kernel_rfl) (ht:aj.tidy ops E.tmps.size=true:=by kernel_rfl) (I:aj.cS ops (aj.inl cs) (aj.pl ps) (aj.pl qs)=true:=by kernel_rfl)
  (hv:∀p∈vs,∃x,p.2 x:=by ((repeat' refine List.forall_mem_cons.2 ⟨?_,?_⟩)<;>first | exact⟨_,rfl⟩ | exact⟨_,0,rfl⟩ | exact⟨_,none,0,rfl⟩ | exact⟨_,none,0,0,rfl⟩ | exact⟨_,false,none,0,0,rfl⟩ | exact⟨_,false,none,0,0,false,none,0,0,rfl⟩ | exact⟨_,false,none,0,0,false,none,0,0,false,none,0,0,false,none,0,0,rfl⟩ | (intro p T; cases T))) (hg:∀p∈gs,∀x W W',av W W'->p.2 x W->p.2 x W':=by ((repeat' refine List.forall_mem_cons.2 ⟨?_,?_⟩)<;>first | exact bU.af | exact cZ.af | exact dm.af | exact bZ.af | exact dN.af | (intro p T; cases T))):(Code.region id ops true).wp P Q E w:=
 aj.bz (SJ wb w0 · L) (aj.inl cs) (aj.gv vs) (gw gs) (fun _=>av) (fun _ _=>False) (aj.pl ps) (aj.pl qs) hm ht I (aj.bk vs hv) fun M Z=>
  ⟨fun v=>by have e:M=w.drew.heap.size:=Z.out; rw[e]; exact SJ.start hi v,fun _ _ _ _ X hj=>hj.vv X,fun _ _ _ _ _ _ _ _ _ _ _ hk hx=>qW gs hg hk hx,fun _ _ _ _ h=>h.elim,h M Z⟩
/-- the region from operation k on -/
abbrev RJ (P:Program) (ops:Array Oper) (Q:Exit->Act->Cc->Prop) (wb w0:Cc) (N:Nat) (L:List aF) (cs:List Nat) (vs:List (Nat×(Cd->Prop))) (gs:List (Nat×(Cd->Cc->Prop))) (ps:List (Nat×List (Nat×Option Tmp))) (qs:List (Nat×List Nat)):Nat->List Oper->Act->Prop:=
 aj.RC P ops Q (SJ wb w0 N L) (aj.inl cs) (aj.gv vs) (gw gs) (fun _=>av) (fun _ _=>False) (aj.pl ps) (aj.pl qs)
theorem kH {o:Oper} {t:Tmp} (h:o.dst=some t):aj.dv o x=x:=by unfold aj.dv; rw[h]
theorem ZE {o:Oper} {t:Tmp} {a:Act} (h:o.dst=some t) (ht:Nat.ble (t+1) a.tmps.size=true):∀s,o.dst=some s->s<a.tmps.size:=fun s E=>by rw[h]at E; cases E; exact Ca ht
section
variable {P:Program} {ops LL:Array Oper} {Q:Exit->Act->Cc->Prop} {wb w0:Cc} {N:Nat} {L:List aF} {cs:List Nat} {vs:List (Nat×(Cd->Prop))} {gs:List (Nat×(Cd->Cc->Prop))} {ps:List (Nat×List (Nat×Option Tmp))} {qs:List (Nat×List Nat)} {k:Nat} {o:Oper} {rest:List Oper} {a:Act}
theorem aj.sC {f:FuncId} {m:Cd->Cd} {F:Cc->Cd->Prop} {t:Tmp} (hL:ops=LL) (T:∀D v W,SJ wb w0 N L D v W->aj.aJ (aj.inl cs) (gw gs) (aj.pl ps) k a D v W->Cb P f args W fun e E=>∃u,e = Cg (m u)/\F E u/\zf W E)
  (hr:∀x,aj.gv vs k x->RJ P ops Q wb w0 N L cs vs gs ps qs (k+1) rest (a.put o.dst x)) (hd:o.dst=some t:=by exact rfl) (ht:Nat.ble (t+1) a.tmps.size=true:=by exact rfl) (hc:aj.inl cs k=true:=by exact rfl) (hw:Region.wanted o (yielded LL a.tmps)=true:=by exact rfl) (hn:L.all (aF.fr k)=true:=by exact rfl)
  (hv:∀W u,F W u->aj.gv vs k (m u):=by (intro W u h; first | exact FR.au h | exact az.au h | (obtain⟨a,s,n,c,b,t,m,d,e⟩:=FR.au h; exact⟨a,s,n,c,b,t,m,d,by rw[e]⟩) | (obtain⟨a,s,n,c,e⟩:=az.au h; exact⟨a,s,n,c,by rw[e]⟩) | exact dN.au h)) (Z:∀W u,F W u->gw gs k (m u) W:=by (intro W u h; first | exact h | exact⟨_,rfl,h⟩))
  (h:∀W,(Cb P f args W fun e E=>∃u,e = Cg (m u)/\F E u/\zf W E)->∀K:Act->Cc->Prop,Hid (∀u W2,F W2 u->zf W W2->K (a.put o.dst (m u)) W2)->o.wp P a W K (fun e _ _=>match e with | .panic _=>False | _=>False):=by (intro W T K M; go_step; refine T.mono ?_; rintro e W2 ⟨u,rfl,H,I⟩; exact M.out u W2 H I)):RJ P ops Q wb w0 N L cs vs gs ps qs k (o::rest) a:=
 aj.aB hc (ZE hd ht) (by rw[hL]; exact hw) (fun D v W X Y hf K M=>h W (T D v W Y hf) K (C5 fun u W2 H I=>M.out _ W2 (av.ae I) (Y.call X.1 hn I) (by rw[kH hd]; exact Z _ _ H) (by rw[kH hd]; exact hv _ _ H))) hr
theorem aj.sV {f:FuncId} {yH:Cd} {t:Tmp} (hL:ops=LL) (I:∀D v W,SJ wb w0 N L D v W->aj.aJ (aj.inl cs) (gw gs) (aj.pl ps) k a D v W->Cb P f args W fun e M=>e = Cg yH/\zf W M)
  (hr:RJ P ops Q wb w0 N L cs vs gs ps qs (k+1) rest (a.put o.dst yH)) (hd:o.dst=some t:=by exact rfl) (ht:Nat.ble (t+1) a.tmps.size=true:=by exact rfl) (hc:aj.inl cs k=true:=by exact rfl) (hw:Region.wanted o (yielded LL a.tmps)=true:=by exact rfl) (hn:L.all (aF.fr k)=true:=by exact rfl)
  (hv:aj.gv vs k yH:=by exact rfl) (X:∀x,aj.gv vs k x->x=yH:=by exact fun _ h=>h) (Z:∀u W,gw gs k u W:=by exact fun _ _=>trivial)
  (h:∀W,(Cb P f args W fun e M=>e = Cg yH/\zf W M)->∀K:Act->Cc->Prop,Hid (∀W2,zf W W2->K (a.put o.dst yH) W2)->o.wp P a W K (fun e _ _=>match e with | .panic _=>False | _=>False):=by (intro W I K H; go_step; refine I.mono ?_; rintro e W2 ⟨rfl,E⟩; exact H.out W2 E)):RJ P ops Q wb w0 N L cs vs gs ps qs k (o::rest) a:=
 aj.aB hc (ZE hd ht) (by rw[hL]; exact hw) (fun D v W T Y hf K H=>h W (I D v W Y hf) K (C5 fun W2 E=>H.out _ W2 (av.ae E) (Y.call T.1 hn E) (Z _ _) (by rw[kH hd]; exact hv))) (fun x hx=>X x hx▸hr)
theorem aj.sA {ty:Ce} {c:Array Cd} {i:Nat} {js:List Nat} {f:List Cd->Array Cd} {t:Tmp} (X:ops=LL) (hr:∀x,aj.gv vs k x->RJ P ops Q wb w0 N L cs vs gs ps qs (k+1) rest (a.put o.dst x)) (hd:o.dst=some t:=by exact rfl) (ht:Nat.ble (t+1) a.tmps.size=true:=by exact rfl) (hc:aj.inl cs k=true:=by exact rfl) (hw:Region.wanted o (yielded LL a.tmps)=true:=by exact rfl)
  (Y:L=L.takeWhile (aF.nl k) ++ .n k ty c i js f::(L.dropWhile (aF.nl k)).tail:=by exact rfl) (Z:((L.takeWhile (aF.nl k)).all (aF.fr k)&&(L.dropWhile (aF.nl k)).tail.all (aF.fr k))=true:=by exact rfl) (I:((aj.pl qs k).contains i && !(i==k))=true:=by exact rfl)
  (hv:∀u,jH u->aj.gv vs k u:=by exact fun _ h=>h) (M:∀u W,gw gs k u W:=by exact fun _ _=>trivial)
  (h:∀W,∀K:Act->Cc->Prop,Hid (K (a.put o.dst (Cj (some ⟨W.heap.size,0,none⟩))) (W.alloc (.cells c ty)))->o.wp P a W K (fun e _ _=>match e with | .panic _=>False | _=>False):=by (intro W K H; go_step; exact H.out)):RJ P ops Q wb w0 N L cs vs gs ps qs k (o::rest) a:=by
 rw[Bool.and_eq_true,List.contains_iff_mem,Bool.not_eq_true',beq_eq_false_iff_ne]at I;exact aj.aB hc (ZE hd ht) (by rw[X]; exact hw) (fun D v W E T hf K H=>h W K (C5 (H.out _ _ (av.ae ((Below.refl _ _).alloc (Cl _) _)) (by rw[kH hd]; exact T.alloc Y E.1 (E.2 i I.1) I.2 Z) (M _ _) (by rw[kH hd]; exact hv _ ⟨_,rfl⟩)))) hr
theorem ai.sl (h:ai w g t l.toArray):ai (w.setCell ⟨g,i,none⟩ u) g t (l.set i u).toArray:=by
 have:=h.bI i u
 rwa[List.setIfInBounds_toArray]at this
theorem ai.b1 (h:ai w g t #[x0]):w.cell? ⟨g,0,none⟩=some x0/\True:=⟨h.c 0 rfl,trivial⟩
theorem ai.b2 (h:ai w g t #[x0,x1]):w.cell? ⟨g,0,none⟩=some x0/\w.cell? ⟨g,1,none⟩=some x1:=⟨h.c 0 rfl,h.c 1 rfl⟩
theorem ai.b3 (h:ai w g t #[x0,x1,x2]):w.cell? ⟨g,0,none⟩=some x0/\w.cell? ⟨g,1,none⟩=some x1/\w.cell? ⟨g,2,none⟩=some x2:=⟨h.c 0 rfl,h.c 1 rfl,h.c 2 rfl⟩
theorem ai.b4 (h:ai w g t #[x0,x1,x2,x3]):w.cell? ⟨g,0,none⟩=some x0/\w.cell? ⟨g,1,none⟩=some x1/\w.cell? ⟨g,2,none⟩=some x2/\w.cell? ⟨g,3,none⟩=some x3:=⟨h.c 0 rfl,h.c 1 rfl,h.c 2 rfl,h.c 3 rfl⟩
theorem ai.b5 (h:ai w g t #[x0,x1,x2,x3,x4]):w.cell? ⟨g,0,none⟩=some x0/\w.cell? ⟨g,1,none⟩=some x1/\w.cell? ⟨g,2,none⟩=some x2/\w.cell? ⟨g,3,none⟩=some x3/\w.cell? ⟨g,4,none⟩=some x4:=⟨h.c 0 rfl,h.c 1 rfl,h.c 2 rfl,h.c 3 rfl,h.c 4 rfl⟩
theorem ai.b6 (h:ai w g t #[x0,x1,x2,x3,x4,x5]):w.cell? ⟨g,0,none⟩=some x0/\w.cell? ⟨g,1,none⟩=some x1/\w.cell? ⟨g,2,none⟩=some x2/\w.cell? ⟨g,3,none⟩=some x3/\w.cell? ⟨g,4,none⟩=some x4/\w.cell? ⟨g,5,none⟩=some x5:=⟨h.c 0 rfl,h.c 1 rfl,h.c 2 rfl,h.c 3 rfl,h.c 4 rfl,h.c 5 rfl⟩
theorem ai.b7 (h:ai w g t #[x0,x1,x2,x3,x4,x5,x6]):w.cell? ⟨g,0,none⟩=some x0/\w.cell? ⟨g,1,none⟩=some x1/\w.cell? ⟨g,2,none⟩=some x2/\w.cell? ⟨g,3,none⟩=some x3/\w.cell? ⟨g,4,none⟩=some x4/\w.cell? ⟨g,5,none⟩=some x5/\w.cell? ⟨g,6,none⟩=some x6:=⟨h.c 0 rfl,h.c 1 rfl,h.c 2 rfl,h.c 3 rfl,h.c 4 rfl,h.c 5 rfl,h.c 6 rfl⟩
theorem ai.b8 (h:ai w g t #[x0,x1,x2,x3,x4,x5,x6,x7]):w.cell? ⟨g,0,none⟩=some x0/\w.cell? ⟨g,1,none⟩=some x1/\w.cell? ⟨g,2,none⟩=some x2/\w.cell? ⟨g,3,none⟩=some x3/\w.cell? ⟨g,4,none⟩=some x4/\w.cell? ⟨g,5,none⟩=some x5/\w.cell? ⟨g,6,none⟩=some x6/\w.cell? ⟨g,7,none⟩=some x7:=⟨h.c 0 rfl,h.c 1 rfl,h.c 2 rfl,h.c 3 rfl,h.c 4 rfl,h.c 5 rfl,h.c 6 rfl,h.c 7 rfl⟩
theorem ai.fR (h:ai w g t #[x0,x1,x2,x3,x4,x5,x6,x7,x8,x9,bl,be,ci,bf,cx,bi]):w.cell? ⟨g,0,none⟩=some x0/\w.cell? ⟨g,1,none⟩=some x1/\w.cell? ⟨g,2,none⟩=some x2/\w.cell? ⟨g,3,none⟩=some x3/\w.cell? ⟨g,4,none⟩=some x4/\w.cell? ⟨g,5,none⟩=some x5/\w.cell? ⟨g,6,none⟩=some x6/\w.cell? ⟨g,7,none⟩=some x7/\w.cell? ⟨g,8,none⟩=some x8/\w.cell? ⟨g,9,none⟩=some x9/\w.cell? ⟨g,10,none⟩=some bl/\w.cell? ⟨g,11,none⟩=some be/\w.cell? ⟨g,12,none⟩=some ci/\w.cell? ⟨g,13,none⟩=some bf/\w.cell? ⟨g,14,none⟩=some cx/\w.cell? ⟨g,15,none⟩=some bi:=⟨h.c 0 rfl,h.c 1 rfl,h.c 2 rfl,h.c 3 rfl,h.c 4 rfl,h.c 5 rfl,h.c 6 rfl,h.c 7 rfl,h.c 8 rfl,h.c 9 rfl,h.c 10 rfl,h.c 11 rfl,h.c 12 rfl,h.c 13 rfl,h.c 14 rfl,h.c 15 rfl⟩
theorem ai.fU {I H M E:Cd} (h:ai w g t #[x0,x1,x2,x3,x4,x5,x6,x7,x8,x9,bl,be,ci,bf,cx,bi,I,H,M,E]):w.cell? ⟨g,0,none⟩=some x0/\w.cell? ⟨g,1,none⟩=some x1/\w.cell? ⟨g,2,none⟩=some x2/\w.cell? ⟨g,3,none⟩=some x3/\w.cell? ⟨g,4,none⟩=some x4/\w.cell? ⟨g,5,none⟩=some x5/\w.cell? ⟨g,6,none⟩=some x6/\w.cell? ⟨g,7,none⟩=some x7/\w.cell? ⟨g,8,none⟩=some x8/\w.cell? ⟨g,9,none⟩=some x9/\w.cell? ⟨g,10,none⟩=some bl/\w.cell? ⟨g,11,none⟩=some be/\w.cell? ⟨g,12,none⟩=some ci/\w.cell? ⟨g,13,none⟩=some bf/\w.cell? ⟨g,14,none⟩=some cx/\w.cell? ⟨g,15,none⟩=some bi/\w.cell? ⟨g,16,none⟩=some I/\w.cell? ⟨g,17,none⟩=some H/\w.cell? ⟨g,18,none⟩=some M/\w.cell? ⟨g,19,none⟩=some E:=⟨h.c 0 rfl,h.c 1 rfl,h.c 2 rfl,h.c 3 rfl,h.c 4 rfl,h.c 5 rfl,h.c 6 rfl,h.c 7 rfl,h.c 8 rfl,h.c 9 rfl,h.c 10 rfl,h.c 11 rfl,h.c 12 rfl,h.c 13 rfl,h.c 14 rfl,h.c 15 rfl,h.c 16 rfl,h.c 17 rfl,h.c 18 rfl,h.c 19 rfl⟩
theorem ai.cast {c':Array Cd} (h:ai w g t c) (e:c=c'):ai w g t c':=e▸h
theorem aj.e_ {X:Prop} (h:X:=by (intro W E K hK; have ff:=E.fr; (first | obtain⟨H,I,M,T⟩:=ai.b4 E | obtain⟨H,I⟩:=ai.b2 E | obtain⟨H,-⟩:=ai.b1 E | obtain⟨H,I,M,T,Y,Z,c6,c7⟩:=ai.b8 E | obtain⟨H,I,M⟩:=ai.b3 E | obtain⟨H,I,M,T,Y,Z,c6,c7,c8,c9,ah,bg,bq,bt,br,bh⟩:=ai.fR E | obtain⟨H,I,M,T,Y⟩:=ai.b5 E | obtain⟨H,I,M,T,Y,Z⟩:=ai.b6 E | obtain⟨H,I,M,T,Y,Z,c6⟩:=ai.b7 E | obtain⟨H,I,M,T,Y,Z,c6,c7,c8,c9,ah,bg,bq,bt,br,bh,cg,cN,cY,cy⟩:=ai.fU E); go_step; refine hK.out _ ?_ ?_; (repeat' with_reducible apply Wr.set); exact Wr.refl _ _; apply ai.cast; (repeat' with_reducible apply ai.sl); exact E; rfl)):X:=h
theorem Zd {k:Nat} {D:Nat->Bool} {v:Nat->Cd} {y:Cd} (E:D k=false) (h:∀j∈js,D j=true):js.map (aj.aQ v k y)=js.map v:=
 List.map_congr_left fun j H=>by rw[xW]; rintro rfl; rw[h _ H]at E; cases E
theorem aj.sN {al G:Nat} {ty:Ce} {c:Array Cd} {js:List Nat} {f:List Cd->Array Cd} (hL:ops=LL) (hr:RJ P ops Q wb w0 N L cs vs gs ps qs (k+1) rest a) (hd:o.dst=none:=by exact rfl) (hc:aj.inl cs k=true:=by exact rfl) (hw:Region.wanted o (yielded LL a.tmps)=true:=by exact rfl)
  (Z:L=L.takeWhile (aF.ns k)++(.n al ty c k js f)::(L.dropWhile (aF.ns k)).tail:=by exact rfl) (h1:((L.takeWhile (aF.ns k)).all (aF.fr k)&&(L.dropWhile (aF.ns k)).tail.all (aF.fr k))=true:=by exact rfl) (X:((L.takeWhile (aF.ns k)).all (aF.nl al)&&(L.dropWhile (aF.ns k)).tail.all (aF.nl al) && !(al==k))=true:=by exact rfl) (hG:aj.at_ a (vS (aj.pl ps k) al) = Cj (some ⟨G,0,none⟩):=by exact rfl) (hk:jY (aj.inl cs) (aj.pl ps k) (al::js)=true:=by exact rfl) (nu:zL c=true:=by exact rfl)
  (hv:∀u,aj.gv vs k u:=by exact fun _=>trivial) (hg:∀u W,gw gs k u W:=by exact fun _ _=>trivial)
  (h:∀W,ai W G ty c->∀K:Act->Cc->Prop,Hid (∀W',Wr G W W'->ai W' G ty (f (qQ a (aj.pl ps k) js))->K (a.put o.dst Cf) W')->o.wp P a W K (fun e _ _=>match e with | .panic _=>False | _=>False):=by exact aj.e_):RJ P ops Q wb w0 N L cs vs gs ps qs k (o::rest) a:=by
 refine aj.aB hc (fun s hs=>by rw[hd]at hs; cases hs) (by rw[hL]; exact hw) (fun D v W M H hf K hK=> ?_) (fun x _=>by rw[show a.put o.dst x=a by rw[hd]; rfl]; exact hr);have F:=yW hf hk;obtain⟨da,Y⟩:=F al (.head _);rw[hG]at Y;have Fj:∀j∈js,D j=true/\v j=aj.at_ a (vS (aj.pl ps k) j):=fun j H=>F j (.tail _ H);rw[Bool.and_eq_true,Bool.and_eq_true,Bool.not_eq_true',beq_eq_false_iff_ne,List.all_eq_true,List.all_eq_true]at X;have hm:(.n al ty c k js f:aF)∈L:=by rw[Z]; exact List.mem_append_right _ (.head _)
 obtain⟨g,e1,e2,e3⟩:=xq.1 H.e _ hm da;obtain rfl:G=g:=aj.cL (Y.symm.trans e1);have e4:aF.de k js f c D v=c:=by unfold aF.de; rw[M.1,C8 Bool.false_ne_true]
 rw[e4]at e3;refine h W e3 K (C5 fun W' bh bg=> ?_);have S:=H.store (y:=aj.dv o Cf) Z M.1 h1 (fun x T=>by cases T; exact X.2) (fun p hp _ j E=>by rw[List.mem_singleton.1 hp]at E; exact(Fj j E).1) (Nat.le_trans H.iw e2) e3 nu (fun x T g hg=> ?_) bh ?_
 . exact hK.out _ _ S.2 S.1 (hg _ _) (hv _)
 .
  rcases hg with hp | ⟨x1,hl,d1,v1,_⟩
  .
   have I:x∈L:=by
    rw[Z,List.mem_append,List.mem_cons]
    rcases T with m | m
    . exact .inl m
    . exact .inr (.inr m)
   have:=H.lt x I g hp;omega
  .
   have I:x∈L:=by
    rw[Z,List.mem_append,List.mem_cons]
    rcases T with m | m
    . exact .inl m
    . exact .inr (.inr m)
   have ah:x1≠al:=by
    have:=T.elim (X.1.1 x) (X.1.2 x)
    cases x<;>simp[aF.lay,aF.nl]at hl this
    subst hl; exact this
   intro e;exact H.dis x1 al ⟨x,I,hl⟩ ⟨_,hm,rfl⟩ ah d1 da (by rw[v1,Y,e])
 .
  intro _;refine⟨G,by rw[xW X.2]; exact Y,e2,?_⟩;unfold aF.de;rw[YU,C7 rfl,Zd M.1 fun j E=>(Fj j E).1,qN fun j E=>(Fj j E).2];exact bg
/-- the places of the others -/
def aF.apart (k G:Nat):List aF->Prop
 | []=>True
 | .o b _ _::r=>b≠G/\aF.apart k G r
 | .s b _ _ i _ _::r=>(i=k\/b≠G)/\aF.apart k G r
 | .m b _ _ i _ _ i' _ _::r=>(i=k\/i'=k\/b≠G)/\aF.apart k G r
 | .n .. :: r=>aF.apart k G r
theorem aF.apart_spec {k:Nat} : ∀{L:List aF},aF.apart k G L->∀x∈L,x.fr k=true->∀b,x.place=some b->b≠G
 | [],_,x,h,_,_,_=>by cases h
 | e::r,h,x,hx,hf,b,hb=>by
  rw[List.mem_cons]at hx
  rcases hx with rfl | hx
  .
   cases x with
   | o b' t c=>cases hb; exact h.1
   | s b' t c i js f=>
    cases hb
    have:i≠k:=by simpa[aF.fr]using hf
    exact h.1.resolve_left this
   | m b' t c i js f i' js' f'=>
    cases hb
    have:i≠k/\i'≠k:=by simpa[aF.fr]using hf
    exact(h.1.resolve_left this.1).resolve_left this.2
   | n k' t c i js f=>cases hb
  .
   cases e with
   | o b' t c=>exact aF.apart_spec h.2 x hx hf b hb
   | s b' t c i js f=>exact aF.apart_spec h.2 x hx hf b hb
   | m b' t c i js f i' js' f'=>exact aF.apart_spec h.2 x hx hf b hb
   | n k' t c i js f=>exact aF.apart_spec (L:=r) h x hx hf b hb
theorem aj.sS {b:Nat} {ty:Ce} {c:Array Cd} {js:List Nat} {f:List Cd->Array Cd} (hL:ops=LL) (hr:RJ P ops Q wb w0 N L cs vs gs ps qs (k+1) rest a) (hd:o.dst=none:=by exact rfl) (hc:aj.inl cs k=true:=by exact rfl) (hw:Region.wanted o (yielded LL a.tmps)=true:=by exact rfl)
  (Y:L=L.takeWhile (aF.ns k)++(.s b ty c k js f)::(L.dropWhile (aF.ns k)).tail:=by exact rfl) (I:((L.takeWhile (aF.ns k)).all (aF.fr k)&&(L.dropWhile (aF.ns k)).tail.all (aF.fr k))=true:=by exact rfl) (hk:jY (aj.inl cs) (aj.pl ps k) js=true:=by exact rfl) (hb:wb.heap.size<=b:=by omega) (ap:aF.apart k b L:=by ((repeat' apply C6)<;>first | trivial | omega | exact .inl rfl | exact .inr (.inl rfl) | (right; omega) | (right; right; omega))) (nu:zL c=true:=by exact rfl)
  (hv:∀u,aj.gv vs k u:=by exact fun _=>trivial) (T:∀u W,gw gs k u W:=by exact fun _ _=>trivial)
  (h:∀W,ai W b ty c->∀K:Act->Cc->Prop,Hid (∀W',Wr b W W'->ai W' b ty (f (qQ a (aj.pl ps k) js))->K (a.put o.dst Cf) W')->o.wp P a W K (fun e _ _=>match e with | .panic _=>False | _=>False):=by exact aj.e_):RJ P ops Q wb w0 N L cs vs gs ps qs k (o::rest) a:=by
 refine aj.aB hc (fun s hs=>by rw[hd]at hs; cases hs) (by rw[hL]; exact hw) (fun D v W H X hf K hK=> ?_) (fun x _=>by rw[show a.put o.dst x=a by rw[hd]; rfl]; exact hr);have Fj:=yW hf hk;have hm:(.s b ty c k js f:aF)∈L:=by rw[Y]; exact List.mem_append_right _ (.head _)
 have e3:ai W b ty (aF.de k js f c D v):=xq.1 X.e _ hm;have e4:aF.de k js f c D v=c:=by unfold aF.de; rw[H.1,C8 Bool.false_ne_true]
 rw[e4]at e3;have bq:=X.lt _ hm b rfl;refine h W e3 K (C5 fun W' bh ah=> ?_);have S:=X.store (y:=aj.dv o Cf) Y H.1 I (fun x M=>by cases M) (fun p Z _ j E=>by rw[List.mem_singleton.1 Z]at E; exact(Fj j E).1) hb e3 nu (fun x M g T=> ?_) bh ?_
 . exact hK.out _ _ S.2 S.1 (T _ _) (hv _)
 .
  have bg:x∈L:=by
   rw[Y,List.mem_append,List.mem_cons]
   rcases M with m | m
   . exact .inl m
   . exact .inr (.inr m)
  rw[Bool.and_eq_true,List.all_eq_true,List.all_eq_true]at I
  rcases T with Z | ⟨x1,hl,d1,v1,hN⟩
  . exact aF.apart_spec ap x bg (M.elim (I.1 x) (I.2 x)) g Z
  . omega
 .
  show ai W' b ty (aF.de k js f c (aj.upd D k) (aj.aQ v k _))
  unfold aF.de;rw[YU,C7 rfl,Zd H.1 fun j E=>(Fj j E).1,qN fun j E=>(Fj j E).2];exact ah
def aF.dG (a9:Nat->Bool) (l:List (Nat×Option Tmp)) (n:Nat):aF->Bool
 | .o .. =>true
 | .s _ _ _ i js _=>Nat.ble (i+1) n&&a9 i&&jY a9 l js
 | .n k _ _ i js _=>Nat.ble (i+1) n&&a9 i&&jY a9 l (k::js)
 | .m _ _ _ i js _ i' js' _=>Nat.ble (i+1) n&&a9 i&&jY a9 l js&&(Nat.ble (i'+1) n&&a9 i'&&jY a9 l js')
/-- what has become of a block when the region is through -/
def qF (N:Nat) (a:Act) (l:List (Nat×Option Tmp)) (W:Cc):aF->Prop
 | .o b t c=>ai W b t c
 | .s b t _ _ js f=>ai W b t (f (qQ a l js))
 | .m b t c _ js f _ js' f'=>ai W b t (f (qQ a l js) (f' (qQ a l js') c))
 | .n k t _ _ js f=>∀g:Nat,aj.at_ a (vS l k) = Cj (some ⟨g,0,none⟩)->N<=g/\ai W g t (f (qQ a l js))
def qB (N:Nat) (a:Act) (l:List (Nat×Option Tmp)) (W:Cc):List aF->Prop
 | []=>True
 | e::r=>qF N a l W e/\qB N a l W r
theorem Jn {N:Nat} {a:Act} {l:List (Nat×Option Tmp)} {W:Cc} : ∀{L:List aF},(∀x∈L,qF N a l W x)->qB N a l W L
 | [],_=>trivial
 | e::_,h=>⟨h e (.head _),Jn fun x E=>h x (.tail _ E)⟩
/-- where the old blocks lie -/
def V6 (N:Nat):List aF->Prop
 | []=>True
 | .o b _ _::r=>b<N/\V6 N r
 | .s b _ _ _ _ _::r=>b<N/\V6 N r
 | .m b _ _ _ _ _ _ _ _::r=>b<N/\V6 N r
 | .n .. :: r=>V6 N r
theorem ZF {N:Nat} : ∀{L:List aF},(∀x∈L,∀b,x.place=some b->b<N)->V6 N L
 | [],_=>trivial
 | .o _ _ _::_,h=>⟨h _ (.head _) _ rfl,ZF fun x E=>h x (.tail _ E)⟩
 | .s _ _ _ _ _ _::_,h=>⟨h _ (.head _) _ rfl,ZF fun x E=>h x (.tail _ E)⟩
 | .m _ _ _ _ _ _ _ _ _::_,h=>⟨h _ (.head _) _ rfl,ZF fun x E=>h x (.tail _ E)⟩
 | .n .. :: r,h=>ZF (L:=r) fun x E=>h x (.tail _ E)
theorem aj.sE (h:∀D v W,Below wb.heap.size wb W->av w0 W->qB N a (aj.pl ps k) W L->(∀k1 k2 (g1 g2:Nat),(!(k1==k2)&&(!(L.all (aF.nl k1)) && !(L.all (aF.nl k2))))=true->aj.at_ a (vS (aj.pl ps k) k1) = Cj (some ⟨g1,0,none⟩)->aj.at_ a (vS (aj.pl ps k) k2) = Cj (some ⟨g2,0,none⟩)->g1≠g2)->wb.heap.size<=N/\V6 N L->aj.aJ (aj.inl cs) (gw gs) (aj.pl ps) k a D v W->Q .normal a W)
  (hk:L.all (aF.dG (aj.inl cs) (aj.pl ps k) k)=true:=by exact rfl):RJ P ops Q wb w0 N L cs vs gs ps qs k [] a:=by
 refine aj.aH fun D v W hd T Y=>h D v W T.b T.k (Jn fun x X=> ?_) (fun k1 k2 g1 g2 hn e1 e2 e=> ?_) ⟨T.iw,ZF T.lt⟩ Y
 .
  have E:=List.all_eq_true.1 hk x X;have h2:=xq.1 T.e x X
  cases x with
  | o b t c=>exact h2
  | s b t c i js f=>
   simp only[aF.dG,Bool.and_eq_true]at E;have Fj:=yW Y E.2;have Z:D i=true:=(hd i (Ca E.1.1)).trans E.1.2;have M:ai W b t (aF.de i js f c D v):=h2;unfold aF.de at M;rw[C7 Z,qN fun j H=>(Fj j H).2]at M;exact M
  | m b t c i js f i' js' f'=>
   simp only[aF.dG,Bool.and_eq_true]at E;have Fj:=yW Y E.1.2;have bq:=yW Y E.2.2;have Z:D i=true:=(hd i (Ca E.1.1.1)).trans E.1.1.2;have br:D i'=true:=(hd i' (Ca E.2.1.1)).trans E.2.1.2;have M:ai W b t (aF.app i js f (aF.app i' js' f' c D v) D v):=h2.1;unfold aF.app at M;rw[C7 Z,C7 br,qN fun j H=>(Fj j H).2,qN fun j H=>(bq j H).2]at M;exact M
  | n I t c i js f=>
   simp only[aF.dG,Bool.and_eq_true]at E;have F:=yW Y E.2;have Z:D i=true:=(hd i (Ca E.1.1)).trans E.1.2;intro g hg;obtain⟨dk,ek⟩:=F I (.head _);obtain⟨g',e1,e2,e3⟩:=h2 dk;obtain rfl:g=g':=aj.cL ((hg.symm.trans ek.symm).trans e1);unfold aF.de at e3;rw[C7 Z,qN fun j H=>(F j (.tail _ H)).2]at e3;exact⟨e2,e3⟩
 .
  rw[Bool.and_eq_true,Bool.and_eq_true,Bool.not_eq_true',beq_eq_false_iff_ne,Bool.not_eq_true',Bool.not_eq_true']at hn
  have ah:∀I,L.all (aF.nl I)=false->∃x∈L,x.lay=some I:=fun I bh=>by
   obtain⟨x,X,bg⟩:=List.all_eq_false.1 bh;refine⟨x,X,?_⟩
   cases x<;>simp[aF.nl]at bg
   subst bg; rfl
  have yH:∀I,(∃x∈L,x.lay=some I)->D I=true/\v I=aj.at_ a (vS (aj.pl ps k) I):=fun I ⟨x,X,hl⟩=>by
   have E:=List.all_eq_true.1 hk x X
   cases x<;>simp only[aF.lay,reduceCtorEq,Option.some.injEq]at hl
   subst hl;simp only[aF.dG,Bool.and_eq_true]at E;exact yW Y E.2 _ (.head _)
  have a1:=ah k1 hn.2.1;have a2:=ah k2 hn.2.2;exact T.dis k1 k2 a1 a2 hn.1 (yH k1 a1).1 (yH k2 a2).1 (by rw[(yH k1 a1).2,(yH k2 a2).2,e1,e2,e])
theorem aF.un {W:Cc} {D:Nat->Bool} {v:Nat->Cd} (h:ai W b t (aF.de i js f c D v)) (E:D i=false):ai W b t c:=by
 unfold aF.de at h
 rwa[E,C8 Bool.false_ne_true]at h
theorem aj.cC {P:Program} {ops LL:Array Oper} {Q:Exit->Act->Cc->Prop} {G:Nat->Cd->Cc->Prop} {k:Nat} {o:Oper} {rest:List Oper} {a:Act} {x:Cd} {Φ:Cc->Prop} (M:ops=LL) (t:Tmp) (φ : ∀D v W,aj.bj post k D->J D v W->Φ W) (X:aj.RC P ops Q J a9 V G Sx ce pre post (k+1) rest a')
  (hc:a9 k=false:=by exact rfl) (hst:jz o.op=true:=by exact rfl) (hw:Region.wanted o (yielded LL a.tmps)=true:=by exact rfl) (hd:o.dst=some t:=by exact rfl) (ht:Nat.ble (t+1) a.tmps.size=true:=by exact rfl)
  (h:∀W,Φ W->∀K:Act->World->Prop,Hid (K a' W)->o.wp P a W K (fun _ _ _=>False):=by (intro W' Y K E; go_step; exact E.out)) (T:a'=a.put o.dst x:=by exact rfl):aj.RC P ops Q J a9 V G Sx ce pre post k (o::rest) a:=
 aj.bm a' x hc hst (by rw[M]; exact hw) (fun D v W H I _ K E=>h W (φ D v W H I) K E) t hd (Ca ht) T X
/-- a call's cells, one by one -/
def aj.ca (l:List Cd) (n:Nat):Cd:=match l with | [Cy c]=>c.toList.getD n Cf | _=>Cf
def aj.ct (i:Nat) (l:List Cd) (n:Nat):Cd:=match l with | [Ck t]=>(match t.toList.getD i Cf with | Cy c=>c.toList.getD n Cf | _=>Cf) | _=>Cf
def aj.fw (o0 o1 o2 o3:Nat) (p:List Cd->Nat->Cd) (l:List Cd) (c:Array Cd):Array Cd:=((((c.toList.set o0 (p l 0)).set o1 (p l 1)).set o2 (p l 2)).set o3 (p l 3)).toArray
theorem vF : aj.fw o0 o1 o2 o3 p l c=(((c.setIfInBounds o0 (p l 0)).setIfInBounds o1 (p l 1)).setIfInBounds o2 (p l 2)).setIfInBounds o3 (p l 3):=by
 apply Array.ext'
 unfold aj.fw;simp only[Array.toList_setIfInBounds]
theorem ai.dD {cs:Array Cd} (h:ai w g t cs) (E:i<cs.size):∃v,w.cell? ⟨g,i,none⟩=some v:=⟨cs[i],h.c i (by rw[Array.getElem?_eq_getElem E])⟩
theorem K6 (h:zL c=true) (E:∀n,qi (p l n)=true):zL (aj.fw o0 o1 o2 o3 p l c)=true:=
 vF▸qp (qp (qp (qp h (E 0)) (E 1)) (E 2)) (E 3)
theorem YV {o:Nat} (h:([q0,q1,q2,q3].all fun y=> !(o==y))=true):(aj.fw q0 q1 q2 q3 p l c).setIfInBounds o u=aj.fw q0 q1 q2 q3 p l (c.setIfInBounds o u):=by
 simp only[List.all_cons,List.all_nil,Bool.and_true,Bool.and_eq_true,Bool.not_eq_true',beq_eq_false_iff_ne]at h;rw[vF,vF];rw[Array.setIfInBounds_comm _ _ (Ne.symm h.2.2.2),Array.setIfInBounds_comm _ _ (Ne.symm h.2.2.1),Array.setIfInBounds_comm _ _ (Ne.symm h.2.1),Array.setIfInBounds_comm _ _ (Ne.symm h.1)]
theorem Ug {x y:List Cd} (h:([o0,o1,o2,o3].all fun x=> [q0,q1,q2,q3].all fun y=> !(x==y))=true):aj.fw o0 o1 o2 o3 p x (aj.fw q0 q1 q2 q3 p' y c)=aj.fw q0 q1 q2 q3 p' y (aj.fw o0 o1 o2 o3 p x c):=by
 have E:=List.all_eq_true.1 h;rw[vF,vF (o0:=o0)]
 show (((Array.setIfInBounds _ _ _).setIfInBounds _ _).setIfInBounds _ _).setIfInBounds _ _=_
 rw[YV (E o0 C3),YV (E o1 C3),YV (E o2 C3),YV (E o3 C3)]
theorem Jo : (aj.fw o0 o1 o2 o3 p l c).size=c.size:=by rw[vF]; simp only[Array.size_setIfInBounds]
theorem aj.sM {b:Nat} {ty:Ce} {c:Array Cd} {js E:List Nat} {M:Nat} {p p':List Cd->Nat->Cd} {o0 o1 o2 o3 q0 q1 q2 q3:Nat} (hL:ops=LL) (hr:RJ P ops Q wb w0 N L cs vs gs ps qs (k+1) rest a) (hd:o.dst=none:=by exact rfl) (hc:aj.inl cs k=true:=by exact rfl) (hw:Region.wanted o (yielded LL a.tmps)=true:=by exact rfl)
  (he:L=L.takeWhile (aF.ns k) ++ .m b ty c k js (aj.fw o0 o1 o2 o3 p) M E (aj.fw q0 q1 q2 q3 p')::(L.dropWhile (aF.ns k)).tail:=by exact rfl) (h1:((L.takeWhile (aF.ns k)).all (aF.fr k)&&(L.dropWhile (aF.ns k)).tail.all (aF.fr k))=true:=by exact rfl) (h2:(!(M==k))=true:=by exact rfl) (hk:jY (aj.inl cs) (aj.pl ps k) js=true:=by exact rfl) (hb:wb.heap.size<=b:=by omega)
  (ap:aF.apart k b L:=by ((repeat' apply C6)<;>first | trivial | omega | exact .inl rfl | exact .inr (.inl rfl) | (right; omega) | (right; right; omega))) (s0:Nat.ble (o0+1) c.size=true:=by exact rfl) (s1:Nat.ble (o1+1) c.size=true:=by exact rfl) (s2:Nat.ble (o2+1) c.size=true:=by exact rfl) (s3:Nat.ble (o3+1) c.size=true:=by exact rfl)
  (bq:∀n,qi (p (qQ a (aj.pl ps k) js) n)=true:=by (intro n; match n with | 0=>rfl | 1=>rfl | 2=>rfl | 3=>rfl | _+4=>rfl)) (hv:∀u,aj.gv vs k u:=by exact fun _=>trivial) (hg:∀u W,gw gs k u W:=by exact fun _ _=>trivial)
  (h:∀W (z:Array Cd) v0 v1 v2 v3,ai W b ty z->W.cell? ⟨b,o0,none⟩=some v0->W.cell? ⟨b,o1,none⟩=some v1->W.cell? ⟨b,o2,none⟩=some v2->W.cell? ⟨b,o3,none⟩=some v3->∀K:Act->Cc->Prop,Hid (∀W',Wr b W W'->ai W' b ty ((((z.setIfInBounds o0 (p (qQ a (aj.pl ps k) js) 0)).setIfInBounds o1 (p (qQ a (aj.pl ps k) js) 1)).setIfInBounds o2 (p (qQ a (aj.pl ps k) js) 2)).setIfInBounds o3 (p (qQ a (aj.pl ps k) js) 3))->K (a.put o.dst Cf) W')->o.wp P a W K (fun e _ _=>match e with | .panic _=>False | _=>False):=by (intro W z v0 v1 v2 v3 hb c0 c1 c2 c3 K hK; have ff:=hb.fr; go_step; exact hK.out _ (Wr.set (Wr.set (Wr.set (Wr.set (Wr.refl _ _))))) (ai.st (ai.st (ai.st (ai.st hb)))))):RJ P ops Q wb w0 N L cs vs gs ps qs k (o::rest) a:=by
 refine aj.aB hc (fun s hs=>by rw[hd]at hs; cases hs) (by rw[hL]; exact hw) (fun D v W I hj hf K hK=> ?_) (fun x _=>by rw[show a.put o.dst x=a by rw[hd]; rfl]; exact hr);have Fj:=yW hf hk;have hm:(.m b ty c k js (aj.fw o0 o1 o2 o3 p) M E (aj.fw q0 q1 q2 q3 p'):aF)∈L:=by rw[he]; exact List.mem_append_right _ (.head _)
 obtain⟨e3,bt⟩:=xq.1 hj.e _ hm;have cg:=hj.lt _ hm b rfl
 have ez:∃z:Array Cd,z.size=c.size/\ai W b ty z/\zL z=true/\z=aF.app M E (aj.fw q0 q1 q2 q3 p') c D v:=by
  refine⟨_,?_,?_,?_,rfl⟩
  .
   unfold aF.app; split
   . exact Jo
   . rfl
  . have:=e3; unfold aF.app at this|-; rwa[I.1,C8 Bool.false_ne_true]at this
  . have:=bt; unfold aF.app at this|-; rwa[I.1,C8 Bool.false_ne_true]at this
 obtain⟨z,zs,T,zu,zd⟩:=ez;obtain⟨v0,c0⟩:=T.dD (i:=o0) (by rw[zs]; exact Ca s0);obtain⟨v1,c1⟩:=T.dD (i:=o1) (by rw[zs]; exact Ca s1);obtain⟨v2,c2⟩:=T.dD (i:=o2) (by rw[zs]; exact Ca s2);obtain⟨v3,c3⟩:=T.dD (i:=o3) (by rw[zs]; exact Ca s3);refine h W z v0 v1 v2 v3 T c0 c1 c2 c3 K (C5 fun W' bg ah=> ?_);rw[<- vF]at ah
 have S:=hj.store (y:=aj.dv o Cf) he I.1 h1 (fun x hx=>by cases hx) (fun p Y X j H=>by
  rcases List.mem_cons.1 Y with rfl | Y; · exact(Fj j H).1
  . rw[List.mem_singleton.1 Y]at X; exact absurd X (by simpa using h2)) hb T zu (fun x hx g hg=> ?_) bg ?_
 . exact hK.out _ _ S.2 S.1 (hg _ _) (hv _)
 .
  have br:x∈L:=by
   rw[he,List.mem_append,List.mem_cons]
   rcases hx with m | m
   . exact .inl m
   . exact .inr (.inr m)
  rw[Bool.and_eq_true,List.all_eq_true,List.all_eq_true]at h1
  rcases hg with Y | ⟨x1,hl,d1,v1,hN⟩
  . exact aF.apart_spec ap x br (hx.elim (h1.1 x) (h1.2 x)) g Y
  . omega
 .
  have Z:D M=true->∀j∈E,D j=true:=hj.src _ hm (M,E) (by exact .tail _ (.head _));have bh:M≠k:=by simpa using h2
  show ai W' b ty (aF.app k js (aj.fw o0 o1 o2 o3 p) (aF.app M E (aj.fw q0 q1 q2 q3 p') c (aj.upd D k) (aj.aQ v k _)) (aj.upd D k) (aj.aQ v k _))/\zL _=true
  rw[YS bh I.1 Z,<- zd]
  have ea:aF.app k js (aj.fw o0 o1 o2 o3 p) z (aj.upd D k) (aj.aQ v k (aj.dv o Cf))=aj.fw o0 o1 o2 o3 p (qQ a (aj.pl ps k) js) z:=by
   unfold aF.app;rw[YU,C7 rfl,Zd I.1 fun j H=>(Fj j H).1,qN fun j H=>(Fj j H).2]
  rw[ea];exact⟨ah,K6 zu (fun n=>bq n)⟩
theorem aj.fT {b:Nat} {ty:Ce} {c:Array Cd} {js E:List Nat} {M:Nat} {p p':List Cd->Nat->Cd} {o0 o1 o2 o3 q0 q1 q2 q3:Nat} (hL:ops=LL) (hr:RJ P ops Q wb w0 N L cs vs gs ps qs (k+1) rest a) (hd:o.dst=none:=by exact rfl) (hc:aj.inl cs k=true:=by exact rfl) (hw:Region.wanted o (yielded LL a.tmps)=true:=by exact rfl)
  (he:L=L.takeWhile (aF.ns k) ++ .m b ty c M E (aj.fw q0 q1 q2 q3 p') k js (aj.fw o0 o1 o2 o3 p)::(L.dropWhile (aF.ns k)).tail:=by exact rfl) (h1:((L.takeWhile (aF.ns k)).all (aF.fr k)&&(L.dropWhile (aF.ns k)).tail.all (aF.fr k))=true:=by exact rfl) (h2:(!(M==k))=true:=by exact rfl) (hk:jY (aj.inl cs) (aj.pl ps k) js=true:=by exact rfl) (hb:wb.heap.size<=b:=by omega)
  (ap:aF.apart k b L:=by ((repeat' apply C6)<;>first | trivial | omega | exact .inl rfl | exact .inr (.inl rfl) | (right; omega) | (right; right; omega))) (s0:Nat.ble (o0+1) c.size=true:=by exact rfl) (s1:Nat.ble (o1+1) c.size=true:=by exact rfl) (s2:Nat.ble (o2+1) c.size=true:=by exact rfl) (s3:Nat.ble (o3+1) c.size=true:=by exact rfl)
  (bt:∀n,qi (p (qQ a (aj.pl ps k) js) n)=true:=by (intro n; match n with | 0=>rfl | 1=>rfl | 2=>rfl | 3=>rfl | _+4=>rfl)) (bh:([o0,o1,o2,o3].all fun x=> [q0,q1,q2,q3].all fun y=> !(x==y))=true:=by exact rfl) (hv:∀u,aj.gv vs k u:=by exact fun _=>trivial) (hg:∀u W,gw gs k u W:=by exact fun _ _=>trivial)
  (h:∀W (z:Array Cd) v0 Z v2 v3,ai W b ty z->W.cell? ⟨b,o0,none⟩=some v0->W.cell? ⟨b,o1,none⟩=some Z->W.cell? ⟨b,o2,none⟩=some v2->W.cell? ⟨b,o3,none⟩=some v3->∀K:Act->Cc->Prop,Hid (∀W',Wr b W W'->ai W' b ty ((((z.setIfInBounds o0 (p (qQ a (aj.pl ps k) js) 0)).setIfInBounds o1 (p (qQ a (aj.pl ps k) js) 1)).setIfInBounds o2 (p (qQ a (aj.pl ps k) js) 2)).setIfInBounds o3 (p (qQ a (aj.pl ps k) js) 3))->K (a.put o.dst Cf) W')->o.wp P a W K (fun e _ _=>match e with | .panic _=>False | _=>False):=by (intro W z v0 Z v2 v3 hb c0 c1 c2 c3 K hK; have ff:=hb.fr; go_step; exact hK.out _ (Wr.set (Wr.set (Wr.set (Wr.set (Wr.refl _ _))))) (ai.st (ai.st (ai.st (ai.st hb)))))):RJ P ops Q wb w0 N L cs vs gs ps qs k (o::rest) a:=by
 refine aj.aB hc (fun s hs=>by rw[hd]at hs; cases hs) (by rw[hL]; exact hw) (fun D v W I hj hf K hK=> ?_) (fun x _=>by rw[show a.put o.dst x=a by rw[hd]; rfl]; exact hr);have Fj:=yW hf hk;have hm:(.m b ty c M E (aj.fw q0 q1 q2 q3 p') k js (aj.fw o0 o1 o2 o3 p):aF)∈L:=by rw[he]; exact List.mem_append_right _ (.head _)
 obtain⟨e3,cy⟩:=xq.1 hj.e _ hm;have cN:=hj.lt _ hm b rfl
 have ez:∃z:Array Cd,z.size=c.size/\ai W b ty z/\zL z=true/\z=aF.app M E (aj.fw q0 q1 q2 q3 p') c D v:=by
  refine⟨_,?_,?_,?_,rfl⟩
  .
   unfold aF.app; split
   . exact Jo
   . rfl
  . have:=e3; rwa[show aF.app k js (aj.fw o0 o1 o2 o3 p) c D v=c by unfold aF.app; rw[I.1,C8 Bool.false_ne_true]]at this
  . have:=cy; rwa[show aF.app k js (aj.fw o0 o1 o2 o3 p) c D v=c by unfold aF.app; rw[I.1,C8 Bool.false_ne_true]]at this
 obtain⟨z,zs,T,zu,zd⟩:=ez;obtain⟨v0,c0⟩:=T.dD (i:=o0) (by rw[zs]; exact Ca s0);obtain⟨Z,c1⟩:=T.dD (i:=o1) (by rw[zs]; exact Ca s1);obtain⟨v2,c2⟩:=T.dD (i:=o2) (by rw[zs]; exact Ca s2);obtain⟨v3,c3⟩:=T.dD (i:=o3) (by rw[zs]; exact Ca s3);refine h W z v0 Z v2 v3 T c0 c1 c2 c3 K (C5 fun W' bq ah=> ?_);rw[<- vF]at ah
 have S:=hj.store (y:=aj.dv o Cf) he I.1 h1 (fun x hx=>by cases hx) (fun p X bg j H=>by
  rcases List.mem_cons.1 X with rfl | X; · exact absurd bg (by simpa using h2)
  . rw[List.mem_singleton.1 X]at H; exact(Fj j H).1) hb T zu (fun x hx g hg=> ?_) bq ?_
 . exact hK.out _ _ S.2 S.1 (hg _ _) (hv _)
 .
  have cg:x∈L:=by
   rw[he,List.mem_append,List.mem_cons]
   rcases hx with m | m
   . exact .inl m
   . exact .inr (.inr m)
  rw[Bool.and_eq_true,List.all_eq_true,List.all_eq_true]at h1
  rcases hg with X | ⟨x1,hl,d1,Z,hN⟩
  . exact aF.apart_spec ap x cg (hx.elim (h1.1 x) (h1.2 x)) g X
  . omega
 .
  have Y:D M=true->∀j∈E,D j=true:=hj.src _ hm (M,E) (by exact .head _);have br:M≠k:=by simpa using h2
  show ai W' b ty (aF.app M E (aj.fw q0 q1 q2 q3 p') (aF.app k js (aj.fw o0 o1 o2 o3 p) c (aj.upd D k) (aj.aQ v k _)) (aj.upd D k) (aj.aQ v k _))/\zL _=true
  have ea:aF.app k js (aj.fw o0 o1 o2 o3 p) c (aj.upd D k) (aj.aQ v k (aj.dv o Cf))=aj.fw o0 o1 o2 o3 p (qQ a (aj.pl ps k) js) c:=by
   unfold aF.app;rw[YU,C7 rfl,Zd I.1 fun j H=>(Fj j H).1,qN fun j H=>(Fj j H).2]
  rw[ea,YS br I.1 Y]
  have eb:aj.fw o0 o1 o2 o3 p (qQ a (aj.pl ps k) js) z=aF.app M E (aj.fw q0 q1 q2 q3 p') (aj.fw o0 o1 o2 o3 p (qQ a (aj.pl ps k) js) c) D v:=by
   rw[zd];unfold aF.app
   split
   . exact Ug bh
   . rfl
  rw[<- eb];exact⟨ah,K6 zu (fun n=>bt n)⟩
def aj.fi (_:List Cd) (c:Array Cd):Array Cd:=c
end
theorem aj.RQ {P:Program} {ops LL:Array Oper} {Q:Exit->Act->Cc->Prop} {G:Nat->Cd->Cc->Prop} {k:Nat} {o:Oper} {rest:List Oper} {a:Act} {x:Cd} (I:ops=LL) (t:Tmp) (M:aj.RC P ops Q J a9 V G Sx ce pre post (k+1) rest a')
  (hc:a9 k=false:=by exact rfl) (hst:jz o.op=true:=by exact rfl) (hw:Region.wanted o (yielded LL a.tmps)=true:=by exact rfl) (hd:o.dst=some t:=by exact rfl) (ht:Nat.ble (t+1) a.tmps.size=true:=by exact rfl)
  (h:∀W,∀K:Act->World->Prop,Hid (K a' W)->o.wp P a W K (fun _ _ _=>False):=by (intro W' K E; go_step; exact E.out)) (H:a'=a.put o.dst x:=by exact rfl):aj.RC P ops Q J a9 V G Sx ce pre post k (o::rest) a:=
 aj.bm a' x hc hst (by rw[I]; exact hw) (fun _ _ W _ _ _ K E=>h W K E) t hd (Ca ht) H M
theorem cB.fit {v:Cd} {p q:Int} (h:cB w v p q):fits p/\fits q/\0<q:=by
 obtain⟨_,_,_,_,_,q0,_,E,H⟩:=h;exact⟨E,H,q0⟩
def el (w:Cc) (v:Cd):Prop:=∃E I gy H la lb,v = Cy #[Cx E,I,Cx gy,H]/\aA w I la/\aA w H lb/\¬jC E la gy lb
theorem el.af {w':Cc} {v:Cd} (h:el w v) (k:av w w'):el w' v:=by
 obtain⟨H,M,gy,T,la,lb,e,I,E,hv⟩:=h;exact⟨H,M,gy,T,la,lb,e,k _ _ I,k _ _ E,hv⟩
theorem el.au {v:Cd} (h:el w v):∃a s n c b t m d,v = Cy #[Cx a,Cq s n c,Cx b,Cq t m d]:=by
 obtain⟨I,M,gy,T,la,lb,e,H,E,hv⟩:=h;obtain⟨s,c,rfl⟩:=H.au;obtain⟨t,d,rfl⟩:=E.au;exact⟨_,_,_,_,_,_,_,_,e⟩
end Go.Proofs.YtffmbepfbienaaaGreat
/- Four points: the arrangement that comes before all others (plain Lean). -/
namespace Go.Proofs.YtffmbepfbienaaaGreat
def j_:List Int->List Int->Int
 | x::xs,y::ys=>if x=y then j_ xs ys else if x<y then -1 else 1
 | _,_=>0
theorem Ys:∀l:List Int,j_ l l=0
 | []=>rfl
 | x::xs=>by rw[j_,C7 rfl]; exact Ys xs
theorem ZG:∀a b c:List Int,j_ a b<0->j_ b c<0->j_ a c<0
 | [],_,_,h,_=>by simp[j_]at h
 | _::_,[],_,h,_=>by simp[j_]at h
 | _::_,_::_,[],_,h=>by simp[j_]at h
 | x::xs,y::ys,z::zs,h,k=>by
  unfold j_ at h k|-
  by_cases g:x=y
  .
   subst g;rw[C7 rfl]at h
   by_cases g2:x=z
   . rw[C7 g2]at k|-; exact ZG xs ys zs h k
   . rw[C8 g2]at k|-; exact k
  .
   rw[C8 g]at h
   have E:x<y:=by
    by_cases q:x<y
    . exact q
    . rw[C8 q]at h; omega
   by_cases g2:y=z
   .
    subst g2;rw[C8 g,C7 E]; decide
   .
    rw[C8 g2]at k
    have H:y<z:=by
     by_cases q:y<z
     . exact q
     . rw[C8 q]at k; omega
    rw[C8 B_,C7 B_]; decide
structure aT where
 k0:Int
 k1:Int
 k2:Int
 k3:Int
 a1:Int
 a2:Int
 b1:Int
 b2:Int
 n:Int
deriving DecidableEq
def aT.key (a:aT):List Int:= [a.a1+a.b1,a.a1,a.a2,a.b1,a.b2,a.k0,a.k1,a.k2,a.k3]
def YW (a b:aT):Int:=j_ a.key b.key
def zM:aT:=⟨0,0,0,0,0,0,0,0,0⟩
def aT.aO (a b:aT):Bool:=decide (b.n<a.n)||(a.n==b.n&&(decide (0<a.n)&&decide (YW a b<0)))
theorem yR {a b:aT} : a.aO b=true↔b.n<a.n\/(a.n=b.n/\0<a.n/\YW a b<0):=by
 unfold aT.aO;simp only[Bool.or_eq_true,decide_eq_true_eq,Bool.and_eq_true,beq_iff_eq]
theorem XF {a b c:aT} (h:a.aO b=true) (k:b.aO c=true):a.aO c=true:=by
 rw[yR]at *
 rcases h with h | ⟨I,H,E⟩<;>rcases k with k | ⟨k1,k2,k3⟩
 . exact .inl B_
 . exact .inl B_
 . exact .inl B_
 . exact .inr ⟨by omega,H,ZG _ _ _ E k3⟩
theorem Qt (a:aT):a.aO a=false:=by
 cases h:a.aO a
 . rfl
 .
  rw[yR]at h;unfold YW at h;rw[Ys]at h;omega
def qG (l:List aT):aT:=l.foldl (fun b a=>if a.aO b then a else b) zM
theorem vG (l:List aT) (a:aT):qG (l ++ [a])=if a.aO (qG l)then a else qG l:=by unfold qG; rw[List.foldl_append]; rfl
theorem Yt (l:List aT) (h0:∀a∈l,0<=a.n):(qG l=zM/\∀a∈l,a.n=0)\/(qG l∈l/\0<(qG l).n/\∀a∈l,a.aO (qG l)=false):=by
 have key:∀l r:List aT,l=r.reverse->(∀a∈l,0<=a.n)->(qG l=zM/\∀a∈l,a.n=0)\/(qG l∈l/\0<(qG l).n/\∀a∈l,a.aO (qG l)=false):=by
  intro l r
  induction r generalizing l with
  | nil=>rintro rfl _; exact .inl ⟨rfl,fun a h=>by simp at h⟩
  | cons x r ih=>
   rintro rfl h0;rw[List.reverse_cons]at h0|-;rw[vG];have H:=h0 x C3
   cases hb:x.aO (qG r.reverse)
   .
    rw[C8 C3]
    rcases ih _ rfl (fun a E=>h0 a (List.mem_append_left _ E))with⟨h1,h2⟩ | ⟨h1,h2,h3⟩
    .
     refine .inl ⟨h1,fun a E=> ?_⟩
     rcases List.mem_append.1 E with g | g
     . exact h2 a g
     .
      rw[List.mem_singleton]at g; subst g;rw[h1]at hb;have:¬a.aO zM=true:=by simp[hb]
      rw[yR]at this;simp only[zM]at this;omega
    .
     refine .inr ⟨List.mem_append_left _ h1,h2,fun a E=> ?_⟩
     rcases List.mem_append.1 E with g | g
     . exact h3 a g
     . rw[List.mem_singleton]at g; subst g; exact hb
   .
    rw[C7 rfl];refine .inr ⟨by simp,?_,fun a E=> ?_⟩
    .
     rcases ih _ rfl (fun a E=>h0 a (List.mem_append_left _ E))with⟨h1,h2⟩ | ⟨h1,h2,h3⟩
     .
      rw[h1]at hb;rw[yR]at hb;simp only[zM]at hb;omega
     . rw[yR]at hb; omega
    .
     rcases List.mem_append.1 E with g | g
     .
      rcases ih _ rfl (fun a E=>h0 a (List.mem_append_left _ E))with⟨h1,h2⟩ | ⟨h1,h2,h3⟩
      .
       cases hc:a.aO x
       . rfl
       .
        rw[yR]at hc;have:=h2 a g;omega
      .
       cases hc:a.aO x
       . rfl
       .
        have:=XF hc hb;rw[h3 a g]at this; cases this
     . rw[List.mem_singleton]at g; subst g; exact Qt a
 exact key l l.reverse (by rw[List.reverse_reverse]) h0
def Gr (N:Int) (l:List aT):Option aT:=l.foldl (fun b a=>if a.n=N then(match b with | none=>some a | some c=>if YW a c<0 then some a else some c)else b) none
theorem JU (l:List aT) (h0:∀a∈l,a.n=0):qG l=zM:=by
 rcases Yt l (fun a E=>by rw[h0 a E]; omega)with⟨h,-⟩ | ⟨h1,h2,-⟩
 . exact h
 . have:=h0 _ h1; omega
theorem Wz (l:List aT) (h0:∀a∈l,0<=a.n) (E:∃a∈l,0<a.n):qG l∈l/\0<(qG l).n/\∀a∈l,a.aO (qG l)=false:=by
 rcases Yt l h0 with⟨-,h⟩ | h
 .
  obtain⟨a,H,I⟩:=E;have:=h a H; omega
 . exact h
abbrev P4:=Nat×Nat×Nat×Nat
def bQ:List P4:=(List.range 4).flatMap fun a=>(List.range 4).flatMap fun b=>(List.range 4).filterMap fun c=>if a≠b/\a≠c/\b≠c then some (a,b,c,6-a-b-c)else none
def xK (a b c:Nat):List P4:=bQ.filter fun p=>decide (16*p.1+4*p.2.1+p.2.2.1<16*a+4*b+c)
theorem Uh:∀a,a<4->∀b,b<4->∀c,c<4->xK a b (c+1)=if a≠b/\a≠c/\b≠c then xK a b c ++ [(a,b,c,6-a-b-c)]else xK a b c:=by
 intro a E b H c hc
 rcases(show a=0\/a=1\/a=2\/a=3 by omega)with rfl | rfl | rfl | rfl<;>rcases(show b=0\/b=1\/b=2\/b=3 by omega)with rfl | rfl | rfl | rfl<;>rcases(show c=0\/c=1\/c=2\/c=3 by omega)with rfl | rfl | rfl | rfl<;>decide
theorem Ui:∀a,a<4->∀b,b<4->xK a b 4=xK a (b+1) 0:=by
 intro a E b H
 rcases(show a=0\/a=1\/a=2\/a=3 by omega)with rfl | rfl | rfl | rfl<;>rcases(show b=0\/b=1\/b=2\/b=3 by omega)with rfl | rfl | rfl | rfl<;>decide
theorem Uj:∀a,a<4->xK a 4 0=xK (a+1) 0 0:=by decide
theorem Uk:xK 0 0 0 = []:=by decide
theorem JV:xK 4 0 0=bQ:=by decide
theorem JW:∀p∈bQ,p.1<4/\p.2.1<4/\p.2.2.1<4/\p.2.2.2<4/\p.1≠p.2.1/\p.1≠p.2.2.1/\p.1≠p.2.2.2/\p.2.1≠p.2.2.1/\p.2.1≠p.2.2.2/\p.2.2.1≠p.2.2.2:=by decide
theorem XG:∀a,a<4->∀b,b<4->a≠b->∃p∈bQ,p.1=a/\p.2.1=b:=by decide
end Go.Proofs.YtffmbepfbienaaaGreat
/- Four points: the arrangements' numbers (plain Lean). -/
namespace Go.Proofs.YtffmbepfbienaaaGreat
def kN (H E vx I:Int):Int:=vx*H+I*E
def vU (H E vx I:Int):Int:=I*H-vx*E
def jw (H E:Int):Int:=H*H+E*E
def Xd (k0 k1 k2 k3 i:Nat):Nat:=match i with | 0=>k0 | 1=>k1 | 2=>k2 | _=>k3
abbrev PL:=List (Int×Int)
def pt (l:PL) (k:Nat):Int×Int:=l.getD k (0,0)
def U1 (p q:Int×Int):Int:=jw (q.1-p.1) (q.2-p.2)
theorem K7 (p q:Int×Int):U1 p q=U1 q p:=by
 unfold U1 jw;have H:q.1-p.1 = -(p.1-q.1):=B_
 have E:q.2-p.2 = -(p.2-q.2):=B_
 rw[H,E,Int.neg_mul_neg,Int.neg_mul_neg]
theorem qC (x y:Int):0<=jw x y:=by
 unfold jw;have H:0<=x*x:=by rcases Int.le_total 0 x with h | h; exact Int.mul_nonneg h h; exact Int.mul_nonneg_of_nonpos_of_nonpos h h
 have E:0<=y*y:=by rcases Int.le_total 0 y with h | h; exact Int.mul_nonneg h h; exact Int.mul_nonneg_of_nonpos_of_nonpos h h
 omega
theorem Qu (p q:Int×Int):0<=U1 p q:=qC _ _
def K8 (k0 k1 k2 k3:Nat) (p0 p1 p2 p3:Int×Int):aT:=
 ⟨k0,k1,k2,k3,kN (p1.1-p0.1) (p1.2-p0.2) (p2.1-p0.1) (p2.2-p0.2),vU (p1.1-p0.1) (p1.2-p0.2) (p2.1-p0.1) (p2.2-p0.2),
  kN (p1.1-p0.1) (p1.2-p0.2) (p3.1-p0.1) (p3.2-p0.2),vU (p1.1-p0.1) (p1.2-p0.2) (p3.1-p0.1) (p3.2-p0.2),U1 p0 p1⟩
def jt (l:PL) (K:Nat->Nat) (p:P4):aT:=K8 (K p.1) (K p.2.1) (K p.2.2.1) (K p.2.2.2) (pt l (K p.1)) (pt l (K p.2.1)) (pt l (K p.2.2.1)) (pt l (K p.2.2.2))
def dst (l:PL) (K:Nat->Nat) (i k:Nat):Int:=U1 (pt l (K i)) (pt l (K k))
theorem Ul (l:PL) (K:Nat->Nat) (p:P4):(jt l K p).n=dst l K p.1 p.2.1:=rfl
def jT (l:PL) (K:Nat->Nat):Int:=
 max (max (max (max (max (max 0 (dst l K 1 0)) (dst l K 2 0)) (dst l K 2 1)) (dst l K 3 0)) (dst l K 3 1)) (dst l K 3 2)
theorem qX (l:PL) (K:Nat->Nat) (i k:Nat):dst l K i k=dst l K k i:=K7 _ _
theorem WA (l:PL) (K:Nat->Nat) {i k:Nat} (H:i<4) (I:k<4) (E:i≠k):dst l K i k<=jT l K:=by
 have a:=qX l K 0 1;have b:=qX l K 0 2;have c:=qX l K 0 3;have d:=qX l K 1 2;have e:=qX l K 1 3;have f:=qX l K 2 3;unfold jT
 rcases(show i=0\/i=1\/i=2\/i=3 by omega)with rfl | rfl | rfl | rfl<;>rcases(show k=0\/k=1\/k=2\/k=3 by omega)with rfl | rfl | rfl | rfl<;>first | exact absurd rfl E | omega
theorem Qv (l:PL) (K:Nat->Nat):0<=jT l K:=by unfold jT; omega
theorem WB (l:PL) (K:Nat->Nat) (h:0<jT l K):∃i k,i<4/\k<4/\i≠k/\dst l K i k=jT l K:=by
 have key:jT l K=0\/jT l K=dst l K 1 0\/jT l K=dst l K 2 0\/jT l K=dst l K 2 1\/jT l K=dst l K 3 0\/jT l K=dst l K 3 1\/jT l K=dst l K 3 2:=by unfold jT; omega
 rcases key with e | e | e | e | e | e | e
 . omega
 . exact⟨1,0,by decide,by decide,by decide,e.symm⟩
 . exact⟨2,0,by decide,by decide,by decide,e.symm⟩
 . exact⟨2,1,by decide,by decide,by decide,e.symm⟩
 . exact⟨3,0,by decide,by decide,by decide,e.symm⟩
 . exact⟨3,1,by decide,by decide,by decide,e.symm⟩
 . exact⟨3,2,by decide,by decide,by decide,e.symm⟩
def Qw (l:PL) (K:Nat->Nat):List aT:=bQ.map (jt l K)
theorem vH (l:PL) (K:Nat->Nat):∀a∈Qw l K,0<=a.n:=by
 intro a E;obtain⟨p,-,rfl⟩:=List.mem_map.1 E;exact Qu _ _
theorem Jp (l:PL) (K:Nat->Nat):∀a∈Qw l K,a.n<=jT l K:=by
 intro a H;obtain⟨p,I,rfl⟩:=List.mem_map.1 H;obtain⟨M,T,-,-,E,-⟩:=JW p I;exact WA l K M T E
theorem Um (l:PL) (K:Nat->Nat) (h:0<jT l K):∃a∈Qw l K,a.n=jT l K:=by
 obtain⟨i,k,H,I,E,e⟩:=WB l K h;obtain⟨p,M,rfl,rfl⟩:=XG i H k I E;exact⟨_,List.mem_map.2 ⟨p,M,rfl⟩,e⟩
def yB (l:PL) (K:Nat->Nat):aT:=qG (Qw l K)
theorem XH (l:PL) (K:Nat->Nat) (h:jT l K=0):yB l K=zM:=
 JU _ fun a E=>by have:=vH l K a E; have:=Jp l K a E; omega
theorem qd (l:PL) (K:Nat->Nat) (h:0<jT l K):yB l K∈Qw l K/\(yB l K).n=jT l K/\∀a∈Qw l K,a.aO (yB l K)=false:=by
 obtain⟨a,E,Y⟩:=Um l K h;obtain⟨I,X,H⟩:=Wz _ (vH l K) ⟨a,E,by omega⟩;refine⟨I,?_,H⟩;have T:=Jp l K _ I;have M:=H a E
 rcases(show (yB l K).n<jT l K\/(yB l K).n=jT l K by unfold yB at *; omega)with g | g
 .
  have:a.aO (qG (Qw l K))=true:=yR.2 (.inl (by unfold yB at g; omega));rw[M]at this; cases this
 . exact g
end Go.Proofs.YtffmbepfbienaaaGreat
/- Four points: other orders of the indices, and moved points (plain Lean). -/
namespace Go.Proofs.YtffmbepfbienaaaGreat
def K' (K:Nat->Nat) (i:Nat):Nat:=K (Xd 2 0 3 1 i)
def aT.scale (s:Int) (a:aT):aT:=⟨a.k0,a.k1,a.k2,a.k3,s*a.a1,s*a.a2,s*a.b1,s*a.b2,s*a.n⟩
def mv (re im H E:Int) (p:Int×Int):Int×Int:=(p.1*re-p.2*im+H,p.1*im+p.2*re+E)
theorem Uo {re im:Int} (h:¬(re=0/\im=0)):0<jw re im:=by
 unfold jw
 have E:∀x:Int,0<=x*x/\(x≠0->0<x*x):=fun x=>by
  rcases(show x<0\/x=0\/0<x by omega)with g | g | g
  . have:=Int.mul_pos_of_neg_of_neg g g; omega
  . subst g; exact⟨by decide,fun h=>absurd rfl h⟩
  . have:=Int.mul_pos g g; omega
 have a:=E re;have b:=E im
 by_cases g:re=0
 . have:=b.2 (fun e=>h ⟨g,e⟩); omega
 . have:=a.2 g; omega
end Go.Proofs.YtffmbepfbienaaaGreat
/- Four points: the code of the qG arrangement lies WC its bounds (plain Lean). -/
namespace Go.Proofs.YtffmbepfbienaaaGreat
variable {x:Int}
theorem ZH (x:Int):0<=x*x:=by
 rcases Int.le_total 0 x with h | h
 . exact Int.mul_nonneg h h
 . exact Int.mul_nonneg_of_nonpos_of_nonpos h h
theorem K9 {y:Int} (h0:0<=x) (h:x<y):x*x<y*y:=by
 have E:0<(y-x)*(y+x):=Int.mul_pos B_ B_;simp only[Int.sub_mul,Int.mul_add]at E;have H:x*y=y*x:=Int.mul_comm x y;omega
theorem Yu {n:Int} (E:0<=n) (h:x*x<=n*n) : -n<=x/\x<=n:=by
 constructor
 .
  rcases(show x < -n\/ -n<=x by omega)with g | g
  .
   have:=K9 E (show n < -x by omega);rw[Int.neg_mul_neg]at this;omega
  . exact g
 .
  rcases(show n<x\/x<=n by omega)with g | g
  .
   have:=K9 E g;omega
  . exact g
theorem WC {H E vx I:Int} (T:jw vx I<=jw H E) (Y:jw (vx-H) (I-E)<=jw H E) :
  (0<=kN H E vx I/\kN H E vx I<=jw H E)/\(-jw H E<=vU H E vx I/\vU H E vx I<=jw H E):=by
 have M:=qC H E;have X:=qC vx I;have Z:=qC (vx-H) (I-E)
 have e:jw (vx-H) (I-E)=jw vx I-2*kN H E vx I+jw H E:=by
  unfold jw kN; simp only[Int.sub_mul,Int.mul_sub]; simp only[Int.mul_comm H vx,Int.mul_comm E I]; omega
 have q:kN H E vx I*kN H E vx I+vU H E vx I*vU H E vx I=jw H E*jw vx I:=by
  unfold jw kN vU; simp only[Int.sub_mul,Int.mul_sub,Int.add_mul,Int.mul_add]; simp only[Int.mul_comm,Int.mul_left_comm,Int.mul_assoc]; omega
 have m:=Int.mul_le_mul_of_nonneg_left T M;have s1:=ZH (kN H E vx I);have s2:=ZH (vU H E vx I);have a:=Yu (x:=kN H E vx I) M B_;have b:=Yu (x:=vU H E vx I) M B_;exact⟨⟨by omega,a.2⟩,b⟩
theorem K_ {l:PL} {K:Nat->Nat} (h:0<jT l K):∃p∈bQ,yB l K=jt l K p:=by
 obtain⟨p,E,e⟩:=List.mem_map.1 (qd l K h).1;exact⟨p,E,e.symm⟩
end Go.Proofs.YtffmbepfbienaaaGreat
/- The sets of four of the first n indices (plain Lean): the iterator's order, and the nested loops'. -/
namespace Go.Proofs.YtffmbepfbienaaaGreat
def Qx (n:Nat) (x:P4):P4:=
 if x.2.2.2+1<n then(x.1,x.2.1,x.2.2.1,x.2.2.2+1)else if x.2.2.1+2<n then(x.1,x.2.1,x.2.2.1+1,x.2.2.1+2)else if x.2.1+3<n then(x.1,x.2.1+1,x.2.1+2,x.2.1+3)else(x.1+1,x.1+2,x.1+3,x.1+4)
def YX (n:Nat):Nat->P4
 | 0=>(0,1,2,3)
 | i+1=>Qx n (YX n i)
def Bj (a b c:Nat) (d:Nat):List P4:=(List.range' (c+1) (d-(c+1))).map fun d=>(a,b,c,d)
def Bk (n a b:Nat) (c:Nat):List P4:=(List.range' (b+1) (c-(b+1))).flatMap fun c=>Bj a b c n
def Bl (n a:Nat) (b:Nat):List P4:=(List.range' (a+1) (b-(a+1))).flatMap fun b=>Bk n a b n
def Bm (n:Nat) (a:Nat):List P4:=(List.range' 0 a).flatMap fun a=>Bl n a n
def yh (n:Nat):List P4:=Bm n n
def ZI (n:Nat) (x:P4):Bool:=decide (x.1<x.2.1)&&decide (x.2.1<x.2.2.1)&&decide (x.2.2.1<x.2.2.2)&&decide (x.2.2.2<n)
theorem Jq:∀n,n<=7->(yh n).length<=35/\(∀i,i<(yh n).length->(yh n)[i]? = some (YX n i)/\ZI n (YX n i)=true)/\n<=(YX n (yh n).length).2.2.2:=by
 intro n E
 rcases(show n=0\/n=1\/n=2\/n=3\/n=4\/n=5\/n=6\/n=7 by omega)with rfl | rfl | rfl | rfl | rfl | rfl | rfl | rfl<;>decide
theorem kW {n:Nat} {x:P4} (h:ZI n x=true):x.1<x.2.1/\x.2.1<x.2.2.1/\x.2.2.1<x.2.2.2/\x.2.2.2<n:=by
 unfold ZI at h;simp only[Bool.and_eq_true,decide_eq_true_eq]at h;exact⟨h.1.1.1,h.1.1.2,h.1.2,h.2⟩
def K4 (x:P4):Nat->Nat:=Xd x.1 x.2.1 x.2.2.1 x.2.2.2
def qs (l:PL) (xs:List P4):List aT:=xs.filterMap fun x=>if 0<jT l (K4 x)then some (yB l (K4 x))else none
theorem Up (l:PL) (xs:List P4) (x:P4):qs l (xs ++ [x])=if 0<jT l (K4 x)then qs l xs ++ [yB l (K4 x)]else qs l xs:=by
 unfold qs; rw[List.filterMap_append]; by_cases h:0<jT l (K4 x)<;>simp[h]
theorem Va (l:PL) (xs:List P4):(qs l xs).length<=xs.length:=List.length_filterMap_le _ _
end Go.Proofs.YtffmbepfbienaaaGreat
/- a call that gives G9 fractions, in a drawn region (w3.chain's kind fr2) -/
namespace Go.Proofs.YtffmbepfbienaaaGreat
open Go.RowKit
variable {e:Int} {r s:Rat} {u v:Cd} {W:Cc}
def Hw (x:Cd):Prop:=∃a s n c b t m d a' I T c' b' M E H,x = Ck #[Cy #[Cx a,Cq s n c,Cx b,Cq t m d],Cy #[Cx a',Cq I T c',Cx b',Cq M E H]]
def dV (r s:Rat) (x:Cd) (W:Cc):Prop:=∃u v,x = Ck #[u,v]/\FR W u r/\FR W v s
theorem dV.af (x:Cd) (W W':Cc) (k:av W W') (h:dV r s x W):dV r s x W':=by obtain⟨u,v,I,H,E⟩:=h; exact⟨u,v,I,H.af k,E.af k⟩
theorem dV.get (h:dV r s (Ck #[u,v]) W):FR W u r/\FR W v s:=by
 obtain⟨M,v',E,I,H⟩:=h;simp only[Value.tuple.injEq,Array.mk.injEq,List.cons.injEq,and_true]at E;obtain⟨rfl,rfl⟩:=E;exact⟨I,H⟩
def Hh (e:Int) (x:Cd):Prop:=∃a s n c b t m d a' I T c' b' M E H,x = Ck #[Cy #[Cx a,Cq s n c,Cx b,Cq t m d],Cy #[Cx a',Cq I T c',Cx b',Cq M E H],Cz Cv e]
def dF (r s:Rat) (e:Int) (x:Cd) (W:Cc):Prop:=∃u v,x = Ck #[u,v,Cz Cv e]/\FR W u r/\FR W v s
theorem dF.af (x:Cd) (W W':Cc) (k:av W W') (h:dF r s e x W):dF r s e x W':=by obtain⟨u,v,I,H,E⟩:=h; exact⟨u,v,I,H.af k,E.af k⟩
theorem dF.get (h:dF r s e (Ck #[u,v,Cz Cv e]) W):FR W u r/\FR W v s:=by
 obtain⟨M,v',E,I,H⟩:=h;simp only[Value.tuple.injEq,Array.mk.injEq,List.cons.injEq,and_true]at E;obtain⟨rfl,rfl⟩:=E;exact⟨I,H⟩
def Hx (i:Nat):Cd->Cd
 | Ck a=>a.getD i (Cx false)
 | _=> Cx false
end Go.Proofs.YtffmbepfbienaaaGreat
