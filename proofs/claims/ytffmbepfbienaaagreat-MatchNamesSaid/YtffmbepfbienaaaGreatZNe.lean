import Derived.Test.YtffmbepfbienaaaGreatZTl
set_option linter.unusedVariables false
set_option linter.unusedSimpArgs false
set_option maxHeartbeats 6400000
set_option maxRecDepth 1000000
open Go.Value renaming slice->Cq,bool->Cx,int->Cz,tuple->Ck
open Go.IntKind renaming i64->Cv
open Go.Ending renaming returned->Cg
open Go.Proofs.Tryz renaming prog->Ch
open Go renaming Calls->Cb,World->Cc,Value->Cd,bodyPost_ret->Ci
open Nat renaming le_refl->Cl,lt_or_ge->Cm
open Go.World renaming cell?->Cn,size_alloc->Co
open Go.RowKit.Below renaming refl->Cp
namespace Go.Proofs.YtffmbepfbienaaaGreat
section
open Go.RowKit
variable {X x y:Int} {va vb:Cd}
theorem Zx (w:Cc) (E:az w va x) (I:az w vb y) (H:fits x) (J:fits y) :
  Cb Ch 156 #[va,vb] w fun e M=>e = Cg (Cz Cv 0)/\zf w M:=by
 obtain⟨sa,rfl,la⟩:=E;obtain⟨sb,rfl,lb⟩:=I;have:=Wn (decide (x<0)) (decide (y<0)) w la lb;have e:xp (zS (decide (x<0)) (zn (zh x))/\zS (decide (y<0)) (zn (zh y)))=0:=C7 ⟨xf H,xf J⟩;rw[e]at this;exact this
def ym (x y:Int):Int:=((Int.gcd x y:Nat):Int)
theorem Xv (x y:Int):ym (zh x) (zh y)=ym x y:=by unfold ym zh; simp[Int.gcd]
theorem Yo {Y:Int} (h0:0<=X) (E:1<=Y):ym Y (X%Y)=ym X Y:=by
 unfold ym;obtain⟨a,rfl⟩:=Int.eq_ofNat_of_zero_le h0;obtain⟨b,rfl⟩:=Int.eq_ofNat_of_zero_le (show 0<=Y by omega);have e:((a:Int)%(b:Int))=((a%b:Nat):Int):=by simp
 rw[e];simp only[Int.gcd,Int.natAbs_natCast];rw[Nat.gcd_comm b,<- Nat.gcd_rec,Nat.gcd_comm]
theorem Yp (h0:0<=X):ym X 0=X:=by unfold ym; simp[Int.gcd]; omega
theorem yI (H:0<=x) (E:x<=y):(zn x).length<=(zn y).length:=by
 rcases Cm (zn y).length (zn x).length with g | g
 . have:=z6 (show 0<=y by omega) H g; omega
 . exact g
theorem qL (h:0<=X):zh X=X:=by unfold zh; omega
theorem KM {a d:Cd} {A D:Int} (w:Cc) (E:aA w a (zn A)) (hd:aA w d (zn D)) (I:0<=A) (M:1<=D) (J:(zn A).length<=aE) (N:(zn D).length<=aE) :
  Cb Ch 157 #[a,d] w fun e H=>∃q r,e = Cg (Ck #[q,r])/\aA H q (zn (A / D))/\aA H r (zn (A%D))/\zf w H:=by
 rcases Int.lt_or_le A D with h | h
 . exact Ks w E hd I M J N h
 .
  have Y:zn D≠ []:=fun e=>by have:=(zT (show 0<=D by omega)).1 e; omega
  have Z:=List.length_pos_iff.2 Y
  rcases Cm (zn D).length 2 with g | g
  . exact JF w E hd I M J B_ h
  . exact Qc (m:=(zn D).length-2) w E hd I M J B_ h
theorem Hd (w:Cc) (ha:az w va x) (hb:az w vb y) (fx:fits x) (fy:fits y) :
  Cb Ch 125 #[va,vb] w fun e N=>∃v,e = Cg (Ck #[v,Cz Cv 0])/\az N v (ym x y)/\fits (ym x y)/\zf w N:=by
 have bo:∀N,zf w N->Cb Ch 156 #[va,vb] N fun e w2=>e = Cg (Cz Cv 0)/\zf N w2:=fun N h=>Zx N (ha.ae h) (hb.ae h) fx fy;obtain⟨aa,ca,rfl,pa⟩:=ha.parts;obtain⟨ab,cb,rfl,pb⟩:=hb.parts;unfold fits at fx fy;obtain⟨n,hn⟩:∃n,(zn (zh x)).length=n:=⟨_,rfl⟩;obtain⟨m,hm⟩:∃m,(zn (zh y)).length=m:=⟨_,rfl⟩;rw[hn]at pa bo|-;rw[hm]at pb bo|-;obtain⟨gx,ci⟩:∃b,decide (x<0)=b:=⟨_,rfl⟩;obtain⟨gy,bt⟩:∃b,decide (y<0)=b:=⟨_,rfl⟩;rw[ci,bt]at bo|-;have HN:=C5 (C6 hn hm);have HF:=C5 (C6 fx fy);clear ha hb hn hm ci bt fx fy
 go_enter Tryz.func125,Tryz.ntmps125
 go_wp2_with fail
 refine(bo _ zi).mono ?_;rintro e H ⟨rfl,d9⟩;have st:zf _ H:=d9;have Bn:=bA w st;have oa:ai H w.heap.size 26 #[Cx gx,Cq aa n ca]:=ai.aw st;have ob:ai H (w.heap.size+1) 26 #[Cx gy,Cq ab m cb]:=ai.aw st;have or:ai H (w.heap.size+1+1) 26 #[Cx false,Cq none 0 0]:=ai.aw st;clear st;have B:=Bn;clear Bn;obtain⟨bi,bh,fa,la⟩:=oa.s1;obtain⟨bf,a9,fb,lb⟩:=ob.s1;obtain⟨bg,be,fr,lr⟩:=or.s1;clear bo;go_wp2_with fail
 go_quiet (fail)
 go_wp2_with fail
 have br:=pa.ae B;have cN:=pb.ae B;rename Cc=>H
 go_loopg [6,7,8,9] (zh y).toNat (fun k vx vy q r wr=>∃ (X Y:Int) (ax ay:Option Addr) (cx cy:Nat),0<=X/\0<=Y/\k=Y.toNat/\vx = Cq ax (zn X).length cx/\vy = Cq ay (zn Y).length cy/\aA wr vx (zn X)/\aA wr vy (zn Y)/\(zn X).length<=4096/\(zn Y).length<=4096/\ym X Y=ym x y/\zf H wr)
 case atStart=>exact⟨zh x,zh y,aa,ab,ca,cb,zt _,zt _,rfl,by rw[HN.out.1],by rw[HN.out.2],br,cN,HF.out.1,HF.out.2,Xv x y,by show Below _ _ _; first | exact yD (Cp _ _) _ | exact Cp _ _⟩
 case round=>
  obtain⟨X,Y,ax,ay,cx,cy,X0,Y0,rfl,rfl,rfl,lx,ly,nx,ny,hg,E⟩:=hrel;have HG:=C5 hg;obtain⟨p,J⟩:∃p,(zn X).length=p:=⟨_,rfl⟩;obtain⟨q,M⟩:∃q,(zn Y).length=q:=⟨_,rfl⟩;have Z:=C5 (C6 J M);rw[J]at lx nx;rw[M]at ly ny;simp only[J,M]
  rcases Int.lt_or_le 0 Y with hy | hy
  .
   have q0:0<q:=by rw[<- M]; exact List.length_pos_iff.2 (fun e=>by have:=(zT Y0).1 e; omega)
   have ov:=KM wr lx ly X0 B_ (by rw[J]; unfold aE; omega) (by rw[M]; unfold aE; omega);clear hg J M lx;go_wp2_with fail
   refine ov.mono ?_;rintro e w2 ⟨sq,sr,rfl,dc,b9,bl⟩;obtain⟨ar,cr,cY⟩:=b9.au;have HR:=C5 b9;have HY:=C5 (ly.ae bl);subst cY;clear b9 dc ly ov;have m0:=Int.emod_nonneg X (show Y≠0 by omega);have m1:=Int.emod_lt_of_pos X hy;have nr:=yI m0 (show X%Y<=Y by omega)
   go_wp2
   go_roundg (X%Y).toNat
   case measure=>omega
   case rel=>exact⟨Y,X%Y,ay,ar,cy,cr,by omega,m0,rfl,by rw[Z.out.2],rfl,HY.out,HR.out,by rw[Z.out.2]; exact ny,by have:=Z.out.2; omega,by rw[Yo X0 B_]; exact HG.out,E.trans (bl.mono E.size)⟩
  .
   obtain rfl:Y=0:=B_
   have q0:q=0:=by rw[<- M]; rfl
   subst q0;rw[Yp X0]at hg;have mk:=qr false wr lx (by rw[J]; unfold aE; omega);have hv:=zA X0;have I:fits X:=by unfold fits; rw[qL X0,J]; exact nx
   rw[hv]at mk;rw[show zv false X=X from rfl,zK I,zG I]at mk;have HE:=C5 (C6 hg I);have B2:Below w.heap.size w wr:=zp B (Cl _) E;have ce:=oa.ae E;have bq:=ob.ae E;have cg:=or.ae E;clear hg J M hv I lx ly br cN bi bh fa la bf a9 fb lb bg be fr lr oa ob or B;have B:=B2;have oa:=ce;have ob:=bq;have or:=cg;clear ce bq cg B2;go_wp2_with fail
   refine(mk).mono ?_;rintro e H ⟨v1,rfl,ah,st⟩;have Bn:=bA w st;replace oa:ai H w.heap.size 26 #[Cx gx,Cq aa n ca]:=ai.aw st;replace ob:ai H (w.heap.size+1) 26 #[Cx gy,Cq ab m cb]:=ai.aw st;replace or:ai H (w.heap.size+1+1) 26 #[Cx false,Cq none 0 0]:=ai.aw st;clear B;clear st;have B:=Bn;clear Bn;obtain⟨bi,bh,fa,la⟩:=oa.s1;obtain⟨bf,a9,fb,lb⟩:=ob.s1;obtain⟨bg,be,fr,lr⟩:=or.s1;obtain⟨bb,ao,k,c,rfl⟩:=ah.au;have HV:=C5 ah;clear ah
   go_wp2
   refine Ci (by simp[results,Tryz.results125,go_sem,bi,bh,fa,la,bf,a9,fb,lb,bg,be,fr,lr]; rfl) rfl ?_;exact⟨_,rfl,by rw[<- HE.out.1]; exact HV.out.aL or,by rw[<- HE.out.1]; exact HE.out.2,zi⟩
theorem Xw {a b:Bool} (h:a=b):Ending.returned (Cx a) = Cg (Cx b):=by rw[h]
theorem UY (w:Cc) (N:az w va x) (hb:az w vb y) (fx:fits x) (fy:fits y) :
  Cb Ch 44 #[va,vb] w fun e M=>e = Cg (Cx (decide (x=y)))/\zf w M:=by
 obtain⟨aa,ca,rfl,pa⟩:=N.parts;obtain⟨ab,cb,rfl,pb⟩:=hb.parts
 have H:∀M,zf w M->Cb Ch 85 #[Cq aa (zn (zh x)).length ca,Cq ab (zn (zh y)).length cb] M fun e w2=>e = Cg (Cz Cv (zI (zh x) (zh y)))/\zf M w2:=fun M h=>
  qT M (pa.ae h) (pb.ae h) (zt x) (zt y) (by unfold fits at fx; unfold aE; omega) (by unfold fits at fy; unfold aE; omega)
 have X:=zV x;have Y:=zV y;have C:=jf (zh x) (zh y);obtain⟨c,hc⟩:∃c,zI (zh x) (zh y)=c:=⟨_,rfl⟩;rw[hc]at H C;obtain⟨n,hn⟩:∃n,(zn (zh x)).length=n:=⟨_,rfl⟩;obtain⟨m,hm⟩:∃m,(zn (zh y)).length=m:=⟨_,rfl⟩;rw[hn]at H|-;rw[hm]at H|-;obtain⟨Z,I⟩:∃b,decide (x<0)=b:=⟨_,rfl⟩;obtain⟨gy,J⟩:∃b,decide (y<0)=b:=⟨_,rfl⟩;rw[I,J]
 by_cases hs:Z=gy
 .
  subst hs
  have E:Hid ((c==0)=decide (x=y)):=by
   show (c==0)=decide (x=y)
   have:(x<0↔y<0):=by
    have h1:=I.trans J.symm;simpa using h1
   by_cases h0:c=0
   . rw[h0,C9 (show x=y by omega)]; rfl
   . rw[C_ (show ¬x=y by omega)]; simp[h0]
  clear hc hn hm I J X Y C pa pb N hb fx fy
  go_enter Tryz.func44,Tryz.ntmps44
  cases Z
  all_goals
   go_wp2_with fail
   refine(H _ zi).mono ?_;rintro e w1 ⟨rfl,a9⟩;clear H
   go_wp2
   go_returns
   exact⟨Xw E.out,(show Below _ _ _ from zi).trans (a9.mono (by simp only[Co]; omega))⟩
 .
  have E:Hid (decide (x=y)=false):=by
   show decide (x=y)=false
   simp;rintro rfl;exact hs (I.symm.trans J)
  have ah:(Z==gy)=false:=by simp[hs]
  clear hc hn hm I J X Y C pa pb N hb fx fy H hs
  go_enter Tryz.func44,Tryz.ntmps44
  go_wp2
  go_returns
  exact⟨Xw E.out.symm,zi⟩
def Be (z:Int):Int:=if -9223372036854775808<=z/\z<9223372036854775808 then 0 else 16
def Bf (z:Int):Int:=if -9223372036854775808<=z/\z<9223372036854775808 then z else 0
end
section
open Go.RowKit
variable {na:Bool} {x y:Int} {la:List Int} {B:Nat} {T:TypeId} {sa sb va vb:Cd}
theorem Bg (w:Cc) (ha:az w va x) (hb:az w vb y) (fx:fits x) (fy:fits y) :
  Cb Ch 100 #[va,vb] w fun e w'=>e = Cg (Cz Cv (zI x y))/\zf w w':=by
 obtain⟨aa,ca,rfl,pa⟩:=ha.parts;obtain⟨ab,cb,rfl,pb⟩:=hb.parts;unfold fits at fx fy;have nx:(zn (zh x)).length<=aE:=by unfold aE; omega
 have ny:(zn (zh y)).length<=aE:=by unfold aE; omega
 obtain⟨n,Y⟩:∃n,(zn (zh x)).length=n:=⟨_,rfl⟩;obtain⟨m,Z⟩:∃m,(zn (zh y)).length=m:=⟨_,rfl⟩;rw[Y]at pa|-;rw[Z]at pb|-;clear ha hb
 rcases Int.lt_or_le x 0 with M | M
 .
  have J:decide (x<0)=true:=by simp[M]
  rcases Int.lt_or_le y 0 with I | I
  .
   have H:decide (y<0)=true:=by simp[I]
   have E:=C5 (Kt x y M I);rw[J,H];clear Y Z J H M I
   go_enter Tryz.func100,Tryz.ntmps100
   go_wp2_with fail
   refine(xY _ (pb.ae zi) (pa.ae zi) (zt _) (zt _) ny nx).mono ?_;rintro e w1 ⟨rfl,N⟩
   go_wp2
   go_returns
   exact⟨yT E.out,(show Below _ _ _ from zi).trans (N.mono (by simp only[Co]; omega))⟩
  .
   have H:decide (y<0)=false:=by simp; omega
   have E:Hid (zI x y = -1):=by show zI x y = -1; unfold zI; rw[C8 B_,C7 B_]
   rw[J,H];clear Y Z J H M I
   go_enter Tryz.func100,Tryz.ntmps100
   go_wp2
   go_returns
   exact⟨yT E.out.symm,zi⟩
 .
  have J:decide (x<0)=false:=by simp; omega
  rcases Int.lt_or_le y 0 with I | I
  .
   have H:decide (y<0)=true:=by simp[I]
   have E:Hid (zI x y=1):=by show zI x y=1; unfold zI; rw[C8 B_,C8 B_]
   rw[J,H];clear Y Z J H M I
   go_enter Tryz.func100,Tryz.ntmps100
   go_wp2
   go_returns
   exact⟨yT E.out.symm,zi⟩
  .
   have H:decide (y<0)=false:=by simp; omega
   have E:=C5 (Ku x y M I);rw[J,H];clear Y Z J H M I
   go_enter Tryz.func100,Tryz.ntmps100
   go_wp2_with fail
   refine(xY _ (pa.ae zi) (pb.ae zi) (zt _) (zt _) nx ny).mono ?_;rintro e w1 ⟨rfl,N⟩
   go_wp2
   go_returns
   exact⟨yT E.out,(show Below _ _ _ from zi).trans (N.mono (by simp only[Co]; omega))⟩
theorem KO (w:Cc) (I:az w va x):Cb Ch 97 #[va] w fun e M=>e = Cg (Cx (decide (x=0)))/\zf w M:=by
 obtain⟨aa,ca,rfl,pa⟩:=I.parts;have h0:=zT (zt x);obtain⟨n,H⟩:∃n,(zn (zh x)).length=n:=⟨_,rfl⟩;rw[H]
 have E:Hid (((n:Int)==0)=decide (x=0)):=by
  show ((n:Int)==0)=decide (x=0)
  have J:n=0↔x=0:=by
   rw[<- H,List.length_eq_zero_iff,h0]; unfold zh; omega
  by_cases h:x=0
  . rw[C9 h,J.2 h]; rfl
  .
   have:¬n=0:=fun e=>h (J.1 e);rw[C_ h]; simp[this]
 clear H h0 I pa
 go_enter Tryz.func97,Tryz.ntmps97
 go_wp2
 go_returns
 exact⟨Xw E.out,(show Below _ _ _ from(Cp _ _).alloc (Cl _) _)⟩
theorem YN {p:Prop} [Decidable p]:xp p=if p then 0 else 8:=rfl
theorem KQ {n cap:Nat} {ng:Nat->Bool} {sv:Nat->Cd} {ls:Nat->List Int} (w:Cc) (hn:n<=1000) (hB:B<w.heap.size)
  (hc:∀k,k<n->w.cell? ⟨B,k*2,none⟩=some (Cx (ng k))/\w.cell? ⟨B,k*2+1,none⟩=some (sv k)/\aA w (sv k) (ls k)) :
  Cb Ch 93 #[Cq (some ⟨B,0,none⟩) n cap] w fun e w'=>(e = Cg (Cz Cv 0)/\(∀k,k<n->zS (ng k) (ls k))\/e = Cg (Cz Cv 8)/\∃k,k<n/\¬zS (ng k) (ls k))/\zf w w':=by
 go_enter Tryz.func93,Tryz.ntmps93
 go_wp2
 go_loopw [4,5,8] (fun p l kk wr=>∃k:Nat,k<=n/\kk = Cz Cv k/\(∀i,i<k->zS (ng i) (ls i))/\Below w.heap.size w wr) (fun _ _ k _=>n-(intOf k).toNat)
 case atStart=>exact⟨0,Nat.zero_le _,rfl,fun i h=>absurd h (Nat.not_lt_zero i),Cp _ _⟩
 case round=>
  obtain⟨k,hk,rfl,hv,H⟩:=hrel;have Z:=H.size
  rcases Cm k n with h1 | h1
  .
   obtain⟨c1,c2,Y⟩:=hc k h1;have bi:=(H.cell (p:=⟨B,k*2,none⟩) hB).trans c1;have be:=(H.cell (p:=⟨B,k*2+1,none⟩) hB).trans c2;obtain⟨g,hg⟩:∃g,ng k=g:=⟨_,rfl⟩;obtain⟨l,hl⟩:∃l,ls k=l:=⟨_,rfl⟩;rw[hl]at Y;obtain⟨ao,lc,b9⟩:=Y.au;rw[b9]at Y be;rw[hg]at bi;obtain⟨ok,-,a9,fc⟩:=Y.cells;obtain⟨len,E⟩:∃m,l.length=m:=⟨_,rfl⟩;rw[E]at be a9 fc;have ah:¬zS g l->∃k,k<n/\¬zS (ng k) (ls k):=fun h=>⟨k,h1,by rw[hg,hl]; exact h⟩
   have J:zS g l->∀i,i<k+1->zS (ng i) (ls i):=fun h i N=>by
    rcases Cm i k with q | q
    . exact hv i q
    .
     obtain rfl:i=k:=B_
     rw[hg,hl]; exact h
   have bg:=C5 J;have M:=C5 ah;have HN:=C5 H;clear c1 c2 hc Y b9 hg hl J ah hv
   rcases Cm 4096 len with q1 | q1
   .
    have I:=C5 (M.out (fun h=>by have:=h.1; omega));clear fc
    go_wp2
    go_returns
    exact⟨Or.inr ⟨rfl,I.out⟩,HN.out.alloc Z _⟩
   .
    match len,E with
    | 0,E=>
     obtain rfl:=List.eq_nil_of_length_eq_zero E;clear fc
     cases g
     .
      have I:=C5 (bg.out ⟨by simp,rfl,fun _=>rfl⟩)
      go_wp2
      go_roundw
      case rel=>exact⟨k+1,by omega,by go_num,I.out,HN.out.alloc Z _⟩
      case measure=>simp[intOf]; omega
     .
      have I:=C5 (M.out (fun h=>by have:=h.2.2 rfl; cases this))
      go_wp2
      go_returns
      exact⟨Or.inr ⟨rfl,I.out⟩,HN.out.alloc Z _⟩
    | j+1,E=>
     obtain⟨b,o,rfl,hb,bf⟩:=fc B_;have N:=Yi E;have g:=bf j B_;obtain⟨x,hx⟩:∃x,l.getD j 0=x:=⟨_,rfl⟩;rw[hx]at g N;have g1:=(H.cell (p:=⟨b,o+j,none⟩) hb).trans g;have bh:b<wr.heap.size:=Nat.lt_of_lt_of_le hb Z;have bl:l≠ []:=by rintro rfl; cases E
     have g2:=C5 g1
     have g3:∀os:Obj,(wr.alloc os).cell? ⟨b,o+j,none⟩=some (Cz .u32 x):=fun os=>by
      rw[<- g1]; exact World.cell?_of_block (Below.heap_alloc _ _ _ bh)
     clear bf fc g
     rcases Int.decEq x 0 with h2 | h2
     .
      have br:(x==0)=false:=by simp[h2]
      have I:=C5 (bg.out ⟨by omega,N.2 h2,fun e=>absurd e bl⟩);clear N hx
      go_wp2
      go_roundw
      case rel=>exact⟨k+1,by omega,by go_num,I.out,HN.out.alloc Z _⟩
      case measure=>simp[intOf]; omega
     .
      have I:=C5 (M.out (fun h=>N.1 h.2.1 h2));clear N hx;subst h2
      go_wp2
      go_returns
      exact⟨Or.inr ⟨rfl,I.out⟩,HN.out.alloc Z _⟩
  .
   have bq:k=n:=B_
   subst bq;have HV:=C5 hv;clear hv hc
   go_wp2
   go_returns
   exact⟨Or.inl ⟨rfl,HV.out⟩,H⟩
theorem Ji {I:Bool} {lb:List Int} (w:Cc) (E:ai w B T #[Cx na,sa,Cx I,sb]) (N:aA w sa la) (Y:aA w sb lb) :
  Cb Ch 93 #[Cq (some ⟨B,0,none⟩) 2 2] w fun e J=>e = Cg (Cz Cv (xp (zS na la/\zS I lb)))/\zf w J:=by
 have C:=KQ (n:=2) (B:=B) (cap:=2) (ng:=fun k=>if k=0 then na else I) (sv:=fun k=>if k=0 then sa else sb) (ls:=fun k=>if k=0 then la else lb) w B_ E.lt (fun k H=>by
  match k,H with
  | 0,_=>exact⟨E.c 0 rfl,E.c 1 rfl,N⟩
  | 1,_=>exact⟨E.c 2 rfl,E.c 3 rfl,Y⟩)
 refine C.mono ?_;rintro e J ⟨⟨rfl,hv⟩ | ⟨rfl,k,H,hv⟩,M⟩
 . exact⟨yT (show (0:Int)=xp _ from(C7 ⟨hv 0 B_,hv 1 B_⟩).symm),M⟩
 .
  refine⟨yT (show (8:Int)=xp _ from(C8 (fun h=> ?_)).symm),M⟩
  match k,H,hv with
  | 0,_,hv=>exact hv h.1
  | 1,_,hv=>exact hv h.2
theorem Jj (w:Cc) (E:ai w B T #[Cx na,sa]) (M:aA w sa la) :
  Cb Ch 93 #[Cq (some ⟨B,0,none⟩) 1 1] w fun e I=>e = Cg (Cz Cv (xp (zS na la)))/\zf w I:=by
 have C:=KQ (n:=1) (B:=B) (cap:=1) (ng:=fun _=>na) (sv:=fun _=>sa) (ls:=fun _=>la) w B_ E.lt (fun k J=>by
  match k,J with
  | 0,_=>exact⟨E.c 0 rfl,E.c 1 rfl,M⟩)
 refine C.mono ?_;rintro e I ⟨⟨rfl,hv⟩ | ⟨rfl,k,J,hv⟩,H⟩
 . exact⟨yT (show (0:Int)=xp _ from(C7 (hv 0 B_)).symm),H⟩
 . exact⟨yT (show (8:Int)=xp _ from(C8 (fun h=>hv h)).symm),H⟩
theorem xh (w:Cc) (J:ai w B T #[Cx (decide (x<0)),sa,Cx (decide (y<0)),sb]) (E:aA w sa (zn (zh x))) (I:aA w sb (zn (zh y))) (H:fits x) (M:fits y) :
  Cb Ch 93 #[Cq (some ⟨B,0,none⟩) 2 2] w fun e N=>e = Cg (Cz Cv 0)/\zf w N:=by
 have:=Ji w J E I;rw[show xp (zS (decide (x<0)) (zn (zh x))/\zS (decide (y<0)) (zn (zh y)))=0 from C7 ⟨xf H,xf M⟩]at this;exact this
theorem He (w:Cc) (ha:az w va x) (hb:az w vb y) (fx:fits x) (fy:fits y) :
  Cb Ch 155 #[va,vb] w fun e E=>∃v,e = Cg (Ck #[v,Cz Cv (qU (x+y))])/\az E v (xn (x+y))/\zf w E:=by
 have ck:∀ (E:Cc) (q:Nat) (aa ab:Option Addr) (ca cb:Nat),ai E q 26 #[Cx (decide (x<0)),Cq aa (zn (zh x)).length ca,Cx (decide (y<0)),Cq ab (zn (zh y)).length cb]->aA E (Cq aa (zn (zh x)).length ca) (zn (zh x))->aA E (Cq ab (zn (zh y)).length cb) (zn (zh y))->
   Cb Ch 93 #[Cq (some ⟨q,0,none⟩) 2 2] E fun e w2=>e = Cg (Cz Cv 0)/\zf E w2:=fun E q aa ab ca cb hb h1 h2=>xh E hb h1 h2 fx fy
 have ad:=fun(E:Cc) (h:zf w E)=>Hc E (ha.ae h) (hb.ae h) fx fy;obtain⟨aa,ca,rfl,pa⟩:=ha.parts;obtain⟨ab,cb,rfl,pb⟩:=hb.parts;have H:=fun(E:Cc) (q:Nat)=>ck E q aa ab ca cb;obtain⟨n,hn⟩:∃n,(zn (zh x)).length=n:=⟨_,rfl⟩;obtain⟨m,hm⟩:∃m,(zn (zh y)).length=m:=⟨_,rfl⟩;rw[hn]at pa ad|-;rw[hm]at pb ad|-;simp only[hn,hm]at H;obtain⟨gx,a9⟩:∃b,decide (x<0)=b:=⟨_,rfl⟩;obtain⟨gy,J⟩:∃b,decide (y<0)=b:=⟨_,rfl⟩;rw[a9,J]at ad|-;simp only[a9,J]at H;clear ha hb hn hm a9 J fx fy ck
 go_enter Tryz.func155,Tryz.ntmps155
 go_wp2_with fail
 refine(H _ _ Xh (pa.ae zi) (pb.ae zi)).mono ?_;rintro e w1 ⟨rfl,st⟩;have Bn:=bA w st;have oa:ai w1 w.heap.size 26 #[Cx gx,Cq aa n ca]:=ai.aw st;have ob:ai w1 (w.heap.size+1) 26 #[Cx gy,Cq ab m cb]:=ai.aw st;have or:ai w1 (w.heap.size+1+1) 26 #[Cx false,Cq none 0 0]:=ai.aw st;clear st;have B:=Bn;clear Bn;obtain⟨b9,ah,fa,la⟩:=oa.s1;obtain⟨Y,I,fb,lb⟩:=ob.s1;obtain⟨Z,N,fr,lr⟩:=or.s1;clear H;go_wp2_with fail
 refine(ad _ B).mono ?_;rintro e w2 ⟨v2,rfl,M,st⟩;have Bn:=bA w st;have na:=oa.aN st;have nb:=ob.aN st;have nr:=or.aN st;clear B oa ob or b9 ah fa la Y I fb lb Z N fr lr;clear st;have B:=Bn;clear Bn;have oa:=na;clear na;obtain⟨b9,ah,fa,la⟩:=oa.s1;have ob:=nb;clear nb;obtain⟨Y,I,fb,lb⟩:=ob.s1;have or:=nr;clear nr;obtain⟨Z,N,fr,lr⟩:=or.s1;clear ad;obtain⟨bb,ao,k,c,rfl⟩:=M.au;have HV:=C5 M;clear M
 go_wp2
 refine Ci (by simp[results,Tryz.results155,go_sem,b9,ah,fa,la,Y,I,fb,lb,Z,N,fr,lr]; rfl) rfl ?_;exact⟨_,rfl,HV.out.aL or,zi⟩
theorem Gl (w:Cc) (ha:az w va x) (hb:az w vb y) (fx:fits x) (fy:fits y) :
  Cb Ch 59 #[va,vb] w fun e E=>e = Cg (Ck #[Cz Cv (zI x y),Cz Cv 0])/\zf w E:=by
 have ck:∀ (E:Cc) (q:Nat) (aa ab:Option Addr) (ca cb:Nat),ai E q 26 #[Cx (decide (x<0)),Cq aa (zn (zh x)).length ca,Cx (decide (y<0)),Cq ab (zn (zh y)).length cb]->aA E (Cq aa (zn (zh x)).length ca) (zn (zh x))->aA E (Cq ab (zn (zh y)).length cb) (zn (zh y))->
   Cb Ch 93 #[Cq (some ⟨q,0,none⟩) 2 2] E fun e w2=>e = Cg (Cz Cv 0)/\zf E w2:=fun E q aa ab ca cb hb h1 h2=>xh E hb h1 h2 fx fy
 have N:=fun(E:Cc) (h:zf w E)=>Bg E (ha.ae h) (hb.ae h) fx fy;obtain⟨aa,ca,rfl,pa⟩:=ha.parts;obtain⟨ab,cb,rfl,pb⟩:=hb.parts;have H:=fun(E:Cc) (q:Nat)=>ck E q aa ab ca cb;obtain⟨n,hn⟩:∃n,(zn (zh x)).length=n:=⟨_,rfl⟩;obtain⟨m,hm⟩:∃m,(zn (zh y)).length=m:=⟨_,rfl⟩;rw[hn]at pa N|-;rw[hm]at pb N|-;simp only[hn,hm]at H;obtain⟨gx,J⟩:∃b,decide (x<0)=b:=⟨_,rfl⟩;obtain⟨gy,I⟩:∃b,decide (y<0)=b:=⟨_,rfl⟩;rw[J,I]at N|-;simp only[J,I]at H;clear ha hb hn hm J I fx fy ck
 go_enter Tryz.func59,Tryz.ntmps59
 go_wp2_with fail
 refine(H _ _ Xh (pa.ae zi) (pb.ae zi)).mono ?_;rintro e w1 ⟨rfl,st⟩;have M:=bA w st;have Z:ai w1 w.heap.size 26 #[Cx gx,Cq aa n ca]:=ai.aw st;have Y:ai w1 (w.heap.size+1) 26 #[Cx gy,Cq ab m cb]:=ai.aw st;clear st;have B:=M;clear M;obtain⟨be,b9,fa,la⟩:=Z.s1;obtain⟨ah,a9,fb,lb⟩:=Y.s1;clear H;go_wp2_with fail
 refine(N _ B).mono ?_;rintro e w2 ⟨rfl,st⟩;have M:=bA w st;have na:=Z.aN st;have nb:=Y.aN st;clear B Z Y be b9 fa la ah a9 fb lb;clear st;have B:=M;clear M;have Z:=na;clear na;obtain⟨be,b9,fa,la⟩:=Z.s1;have Y:=nb;clear nb;obtain⟨ah,a9,fb,lb⟩:=Y.s1;clear N
 go_wp2
 go_returns
 exact⟨rfl,zi⟩
theorem Gm (w:Cc) (N:az w va x) (Y:az w vb y) (fx:fits x) (fy:fits y) :
  Cb Ch 98 #[va,vb] w fun e M=>e = Cg (Cx (decide (x=y)))/\zf w M:=by
 have H:=fun(M:Cc) (h:zf w M)=>Gl M (N.ae h) (Y.ae h) fx fy;obtain⟨c,hc⟩:∃c,zI x y=c:=⟨_,rfl⟩
 have E:Hid ((c==0)=decide (x=y)):=by
  show (c==0)=decide (x=y)
  have:=jf x y;rw[hc]at this
  by_cases h:x=y
  . rw[C9 h,show c=0 by omega]; rfl
  . rw[C_ h]; simp; omega
 rw[hc]at H;obtain⟨aa,ca,rfl,pa⟩:=N.parts;obtain⟨ab,cb,rfl,pb⟩:=Y.parts;obtain⟨n,hn⟩:∃n,(zn (zh x)).length=n:=⟨_,rfl⟩;obtain⟨m,hm⟩:∃m,(zn (zh y)).length=m:=⟨_,rfl⟩;rw[hn,hm]at H|-;obtain⟨gx,J⟩:∃b,decide (x<0)=b:=⟨_,rfl⟩;obtain⟨gy,I⟩:∃b,decide (y<0)=b:=⟨_,rfl⟩;rw[J,I]at H|-;clear N Y hn hm J I fx fy pa pb hc
 go_enter Tryz.func98,Tryz.ntmps98
 go_wp2_with fail
 refine(H _ zi).mono ?_;rintro e w1 ⟨rfl,st⟩;have Z:=bA w st;have oa:ai w1 w.heap.size 26 #[Cx gx,Cq aa n ca]:=ai.aw st;have ob:ai w1 (w.heap.size+1) 26 #[Cx gy,Cq ab m cb]:=ai.aw st;clear st;have B:=Z;clear Z;obtain⟨be,b9,fa,la⟩:=oa.s1;obtain⟨ah,a9,fb,lb⟩:=ob.s1;clear H
 go_wp2
 go_returns
 exact⟨Xw E.out,zi⟩
theorem Hf (w:Cc):Cb Ch 99 #[] w fun e M=>∃v,e = Cg v/\az M v 1/\zf w M:=by
 go_enter Tryz.func99,Tryz.ntmps99
 go_wp2_with fail
 refine(KH 1 _ B_ B_).mono ?_;rintro e N ⟨v2,rfl,E,st⟩;have J:=bA w st;have or:ai N w.heap.size 26 #[Cx false,Cq none 0 0]:=ai.aw st;clear st;have B:=J;clear J;obtain⟨H,I,fr,Y⟩:=or.s1;obtain⟨bb,ao,k,c,rfl⟩:=E.au;have Z:=C5 E;clear E
 go_wp2
 refine Ci (by simp[results,Tryz.results99,go_sem,H,I,fr,Y]; rfl) rfl ?_;exact⟨_,rfl,Z.out.aL or,zi⟩
end
section
open Go.RowKit
theorem v9 {a d:Cd} {A D:Int} (w:Cc) (E:aA w a (zn A)) (hd:aA w d (zn D)) (I:0<=A) (J:1<=D) (M:(zn A).length<=1000000) (Z:(zn D).length<=1000000) :
  Cb Ch 135 #[a,d] w fun e H=>∃q r,e = Cg (Ck #[q,r])/\aA H q (zn (A / D))/\aA H r (zn (A%D))/\zf w H:=by
 rcases Int.lt_or_le A D with h | h
 . exact Qk w E hd I J (by unfold aE; omega) (by unfold aE; omega) h
 .
  have N:zn D≠ []:=fun e=>by have:=(zT (show 0<=D by omega)).1 e; omega
  have Y:=List.length_pos_iff.2 N
  rcases Cm (zn D).length 2 with g | g
  . exact Xt w E hd I J (by unfold aE; omega) B_ h
  . exact YM (m:=(zn D).length-2) w E hd I J M B_ h
set_option maxHeartbeats 3200000 in
set_option maxRecDepth 1000000 in
theorem Gn {va vb:Cd} {x y:Int} (w:Cc) (ha:az w va x) (hb:az w vb y) (fx:fits x) (fy:fits y) :
  Cb Ch 96 #[va,vb] w fun e E=>∃v,e = Cg (Ck #[v,Cz Cv 0])/\az E v (ym x y)/\fits (ym x y)/\zf w E:=by
 have ck:∀ (E:Cc) (q:Nat) (aa ab:Option Addr) (ca cb:Nat),ai E q 26 #[Cx (decide (x<0)),Cq aa (zn (zh x)).length ca,Cx (decide (y<0)),Cq ab (zn (zh y)).length cb]->aA E (Cq aa (zn (zh x)).length ca) (zn (zh x))->aA E (Cq ab (zn (zh y)).length cb) (zn (zh y))->
   Cb Ch 93 #[Cq (some ⟨q,0,none⟩) 2 2] E fun e w2=>e = Cg (Cz Cv 0)/\zf E w2:=fun E q aa ab ca cb hb h1 h2=>xh E hb h1 h2 fx fy
 obtain⟨aa,ca,rfl,pa⟩:=ha.parts;obtain⟨ab,cb,rfl,pb⟩:=hb.parts;have bg:=fun(E:Cc) (q:Nat)=>ck E q aa ab ca cb;unfold fits at fx fy;obtain⟨n,hn⟩:∃n,(zn (zh x)).length=n:=⟨_,rfl⟩;obtain⟨m,hm⟩:∃m,(zn (zh y)).length=m:=⟨_,rfl⟩;rw[hn]at pa|-;rw[hm]at pb|-;simp only[hn,hm]at bg;obtain⟨gx,bq⟩:∃b,decide (x<0)=b:=⟨_,rfl⟩;obtain⟨gy,bi⟩:∃b,decide (y<0)=b:=⟨_,rfl⟩;rw[bq,bi]at|-;simp only[bq,bi]at bg;have HN:=C5 (C6 hn hm);have HF:=C5 (C6 fx fy);clear ha hb hn hm bq bi fx fy ck
 go_enter Tryz.func96,Tryz.ntmps96
 go_wp2_with fail
 refine(bg _ _ Xh (pa.ae zi) (pb.ae zi)).mono ?_;rintro e w1 ⟨rfl,dk⟩;have st:zf _ w1:=dk;have Bn:=bA w st;have J:ai w1 w.heap.size 26 #[Cx gx,Cq aa n ca]:=ai.aw st;have I:ai w1 (w.heap.size+1) 26 #[Cx gy,Cq ab m cb]:=ai.aw st;have or:ai w1 (w.heap.size+1+1) 26 #[Cx false,Cq none 0 0]:=ai.aw st;clear st;have B:=Bn;clear Bn;obtain⟨M,b9,fa,la⟩:=J.s1;obtain⟨a9,Z,fb,lb⟩:=I.s1;obtain⟨ah,N,fr,lr⟩:=or.s1;clear bg;go_wp2_with fail
 go_region_held3 (fun E=>E.cell? ⟨w.heap.size,0,none⟩=some (Cx gx)/\E.cell? ⟨w.heap.size,1,none⟩=some (Cq aa n ca)/\E.cell? ⟨w.heap.size+1,0,none⟩=some (Cx gy)/\E.cell? ⟨w.heap.size+1,1,none⟩=some (Cq ab m cb))
  ((refine⟨ai.c (t:=26) (cs:=#[Cx gx,Cq aa n ca]) ?_ 0 rfl,ai.c (t:=26) (cs:=#[Cx gx,Cq aa n ca]) ?_ 1 rfl,ai.c (t:=26) (cs:=#[Cx gy,Cq ab m cb]) ?_ 0 rfl,ai.c (t:=26) (cs:=#[Cx gy,Cq ab m cb]) ?_ 1 rfl⟩<;>(repeat' first | with_reducible assumption | (with_reducible refine ai.bO ?_; first | with_reducible rfl | (simp only[Co,World.size_setCell,World.size_drew]; done)) | with_reducible refine ai.alloc ?_ _ | with_reducible refine ai.drew ?_ | with_reducible refine ai.drewN ?_ _ | with_reducible apply ai.both | with_reducible refine ai.aG ?_ ?_ | (show _≠_; omega))))
  (first
   | ((go_at_call 134; refine(Zs _ (pa.ae zi) (by have:=HF.out; have:=HN.out; unfold aE; omega)).mono ?_; rintro e wv ⟨v1,rfl,dd,H,d9⟩; go_must (have st:zf _ wv:=d9; have Bn:=bA w st; have na:ai wv w.heap.size 26 #[Cx gx,Cq aa n ca]:=ai.aw st; have nb:ai wv (w.heap.size+1) 26 #[Cx gy,Cq ab m cb]:=ai.aw st; have nr:ai wv (w.heap.size+1+1) 26 #[Cx false,Cq none 0 0]:=ai.aw st; clear B J I or M b9 fa la a9 Z fb lb ah N fr lr; clear st; have B:=Bn; clear Bn; have J:=na; clear na; have M:Cn wv ⟨w.heap.size,0,none⟩=some (Cx gx):=J.c 0 rfl; have b9:Cn wv ⟨w.heap.size,1,none⟩=some (Cq aa n ca):=J.c 1 rfl; have fa:=J.fr; have la:=J.lt; have I:=nb; clear nb; have a9:Cn wv ⟨w.heap.size+1,0,none⟩=some (Cx gy):=I.c 0 rfl; have Z:Cn wv ⟨w.heap.size+1,1,none⟩=some (Cq ab m cb):=I.c 1 rfl; have fb:=I.fr; have lb:=I.lt; have or:=nr; clear nr; have ah:Cn wv ⟨w.heap.size+1+1,0,none⟩=some (Cx false):=or.c 0 rfl; have N:Cn wv ⟨w.heap.size+1+1,1,none⟩=some (Cq none 0 0):=or.c 1 rfl; have fr:=or.fr; have lr:=or.lt))))
 have ci:=pb.ae B;obtain⟨ax,cx,rfl⟩:=H.au;clear dd;rw[HN.out.1]at H|-;go_wp2_with fail
 go_loopg [7,8,9,10] (zh y).toNat (fun k vx vy q r wr=>∃ (X Y:Int) (ax ay:Option Addr) (cx cy:Nat),0<=X/\0<=Y/\k=Y.toNat/\vx = Cq ax (zn X).length cx/\vy = Cq ay (zn Y).length cy/\aA wr vx (zn X)/\aA wr vy (zn Y)/\(zn X).length<=4096/\(zn Y).length<=4096/\ym X Y=ym x y/\zf wv wr)
 case atStart=>exact⟨zh x,zh y,ax,ab,cx,cb,zt _,zt _,rfl,by rw[HN.out.1],by rw[HN.out.2],H,ci,HF.out.1,HF.out.2,Xv x y,by show Below _ _ _; first | exact yD (Cp _ _) _ | exact Cp _ _⟩
 case round=>
  clear H ci;obtain⟨X,Y,ax,ay,cx,cy,X0,Y0,rfl,rfl,rfl,lx,ly,nx,ny,hg,be⟩:=hrel;have HG:=C5 hg;obtain⟨p,hp⟩:∃p,(zn X).length=p:=⟨_,rfl⟩;obtain⟨q,hq⟩:∃q,(zn Y).length=q:=⟨_,rfl⟩;have bh:=C5 (C6 hp hq);rw[hp]at lx nx;rw[hq]at ly ny;simp only[hp,hq]
  rcases Int.lt_or_le 0 Y with hy | hy
  .
   have q0:0<q:=by rw[<- hq]; exact List.length_pos_iff.2 (fun e=>by have:=(zT Y0).1 e; omega)
   have ov:=v9 wr lx ly X0 B_ (by rw[hp]; omega) (by rw[hq]; omega);clear hg hp hq lx;go_wp2_with fail
   refine ov.mono ?_;rintro e w2 ⟨sq,sr,rfl,dc,bl,cg⟩;obtain⟨ar,cr,cY⟩:=bl.au;have HR:=C5 bl;have HY:=C5 (ly.ae cg);subst cY;clear bl dc ly ov;have m0:=Int.emod_nonneg X (show Y≠0 by omega);have m1:=Int.emod_lt_of_pos X hy;have nr:=yI m0 (show X%Y<=Y by omega)
   go_wp2
   go_roundg (X%Y).toNat
   case measure=>omega
   case rel=>exact⟨Y,X%Y,ay,ar,cy,cr,by omega,m0,rfl,by rw[bh.out.2],rfl,HY.out,HR.out,by rw[bh.out.2]; exact ny,by have:=bh.out.2; omega,by rw[Yo X0 B_]; exact HG.out,be.trans (cg.mono be.size)⟩
  .
   obtain rfl:Y=0:=B_
   have q0:q=0:=by rw[<- hq]; rfl
   subst q0;rw[Yp X0]at hg;have cl:=fun E (h:zf wr E)=>Zs E (lx.ae h) (by rw[hp]; unfold aE; omega);have mk:=fun E v (h:aA E v (zn X))=>xG false E h (by rw[hp]; unfold aE; omega);have hv:=zA X0;have bf:fits X:=by unfold fits; rw[qL X0,hp]; exact nx
   simp only[hv,show zv false X=X from rfl,zK bf,zG bf]at mk;have HE:=C5 (C6 hg bf);have B2:Below w.heap.size w wr:=zp B (Cl _) be;have bt:=J.ae be;have br:=I.ae be;have cN:=or.ae be;clear hg hp hq hv bf lx ly M b9 fa la a9 Z fb lb ah N fr lr J I or B;have B:=B2;have J:=bt;have I:=br;have or:=cN;clear bt br cN B2;go_wp2_with fail
   refine(cl _ (Cp _ _)).mono ?_;rintro e w1 ⟨v0,rfl,dl,ce,st⟩;have Bn:=bA w st;replace J:ai w1 w.heap.size 26 #[Cx gx,Cq aa n ca]:=ai.aw st;replace I:ai w1 (w.heap.size+1) 26 #[Cx gy,Cq ab m cb]:=ai.aw st;replace or:ai w1 (w.heap.size+1+1) 26 #[Cx false,Cq none 0 0]:=ai.aw st;clear B;clear st;have B:=Bn;clear Bn;obtain⟨M,b9,fa,la⟩:=J.s1;obtain⟨a9,Z,fb,lb⟩:=I.s1;obtain⟨ah,N,fr,lr⟩:=or.s1;clear cl dl;go_wp2_with fail
   refine(mk _ _ ce).mono ?_;rintro e w2 ⟨v1,rfl,H,st⟩;have Bn:=bA w st;have na:=J.aN st;have nb:=I.aN st;have nr:=or.aN st;clear B J I or M b9 fa la a9 Z fb lb ah N fr lr;clear st;have B:=Bn;clear Bn;have J:=na;clear na;obtain⟨M,b9,fa,la⟩:=J.s1;have I:=nb;clear nb;obtain⟨a9,Z,fb,lb⟩:=I.s1;have or:=nr;clear nr;obtain⟨ah,N,fr,lr⟩:=or.s1;clear mk ce;obtain⟨bb,ao,k,c,rfl⟩:=H.au;have HV:=C5 H;clear H
   go_wp2
   refine Ci (by simp[results,Tryz.results96,go_sem,M,b9,fa,la,a9,Z,fb,lb,ah,N,fr,lr]; rfl) rfl ?_;exact⟨_,rfl,by rw[<- HE.out.1]; exact HV.out.aL or,by rw[<- HE.out.1]; exact HE.out.2,zi⟩
theorem Ud (na H:Bool) {sa sb:Cd} {la lb:List Int} (w:Cc) (I:aA w sa la) (N:aA w sb lb) (hv:¬(zS na la/\zS H lb)) :
  Cb Ch 96 #[.agg #[Cx na,sa],.agg #[Cx H,sb]] w fun e E=>e = Cg (Ck #[.agg #[Cx false,Cq none 0 0],Cz Cv 8])/\zf w E:=by
 have J:∀ (E:Cc) (q:Nat),ai E q 26 #[Cx na,sa,Cx H,sb]->zf w E->Cb Ch 93 #[Cq (some ⟨q,0,none⟩) 2 2] E fun e w2=>e = Cg (Cz Cv 8)/\zf E w2:=fun E q hq h=>by
  have:=Ji E hq (I.ae h) (N.ae h);rw[YN,C8 hv]at this;exact this
 obtain⟨aa,ca,rfl⟩:=I.au;obtain⟨ab,cb,rfl⟩:=N.au;obtain⟨n,hn⟩:∃n,la.length=n:=⟨_,rfl⟩;obtain⟨m,hm⟩:∃m,lb.length=m:=⟨_,rfl⟩;rw[hn,hm]at J|-;clear I N hn hm hv
 go_enter Tryz.func96,Tryz.ntmps96
 go_wp2_with fail
 refine(J _ _ Xh zi).mono ?_;rintro e w1 ⟨rfl,st⟩;have Bn:=bA w st;have oa:ai w1 w.heap.size 26 #[Cx na,Cq aa n ca]:=ai.aw st;have ob:ai w1 (w.heap.size+1) 26 #[Cx H,Cq ab m cb]:=ai.aw st;have or:ai w1 (w.heap.size+1+1) 26 #[Cx false,Cq none 0 0]:=ai.aw st;clear st;have B:=Bn;clear Bn;obtain⟨b9,ah,fa,la⟩:=oa.s1;obtain⟨Z,M,fb,lb⟩:=ob.s1;obtain⟨a9,Y,fr,lr⟩:=or.s1;clear J
 go_wp2
 refine Ci (by simp[results,Tryz.results96,go_sem,b9,ah,fa,la,Z,M,fb,lb,a9,Y,fr,lr]; rfl) rfl ?_;exact⟨rfl,zi⟩
end
section
open Go.RowKit
variable {x y:Int} {va vb:Cd}
def yO (x y:Int):Int:=Int.fdiv x y
def y9 (x y:Int):Int:=x-y*yO x y
theorem ji {q r:Int} (h:x=y*q+r) (E:(0<=r/\r<y)\/(y<r/\r<=0)):yO x y=q/\y9 x y=r:=by
 have e:yO x y=q:=by
  unfold yO
  rcases E with⟨h0,h1⟩ | ⟨h0,h1⟩
  .
   rw[Int.fdiv_eq_ediv_of_nonneg x B_];exact(jc h h0 h1).1
  .
   rw[<- Int.neg_fdiv_neg,Int.fdiv_eq_ediv_of_nonneg (-x) (show 0<=-y by omega)];exact(jc (r:= -r) (by rw[h,Int.neg_add,Int.neg_mul]) B_ B_).1
 exact⟨e,by unfold y9; rw[e]; omega⟩
theorem Zy {g:Bool} (E:decide (x<0)=g) (gy:decide (y<0)=g) (h:y≠0):yO x y=zv false (zh x / zh y)/\y9 x y=zv g (zh x%zh y):=by
 have H:0<zh y:=by unfold zh; omega
 have e:=Int.mul_ediv_add_emod (zh x) (zh y);have J:=Int.emod_nonneg (zh x) (show zh y≠0 by omega);have M:=Int.emod_lt_of_pos (zh x) H;have X:=zV x;have Y:=zV y
 cases g
 .
  simp at E gy;have I:zh y*(zh x / zh y)=y*(zh x / zh y):=congrArg (· * (zh x / zh y)) (show zh y=y by omega);refine ji ?_ (Or.inl ⟨?_,?_⟩)
  all_goals simp only[zv,Bool.false_eq_true,if_false]; omega
 .
  simp at E gy;have I:zh y*(zh x / zh y) = -(y*(zh x / zh y)):=(congrArg (· * (zh x / zh y)) (show zh y = -y by omega)).trans (Int.neg_mul _ _);refine ji ?_ (Or.inr ⟨?_,?_⟩)
  all_goals simp only[zv,Bool.false_eq_true,if_false,if_true]; omega
theorem kC {E gy:Bool} (M:decide (x<0)=E) (N:decide (y<0)=gy) (J:E≠gy) (h:y≠0) :
  (zh x%zh y=0->yO x y=zv true (zh x / zh y)/\y9 x y=zv E (zh x%zh y))/\
  (0<zh x%zh y->yO x y=zv true (zh x / zh y) + -1/\y9 x y=zv E (zh x%zh y)+y):=by
 have I:0<zh y:=by unfold zh; omega
 have e:=Int.mul_ediv_add_emod (zh x) (zh y);have Z:=Int.emod_nonneg (zh x) (show zh y≠0 by omega);have m1:=Int.emod_lt_of_pos (zh x) I;have X:=zV x;have Y:=zV y;have e1:y<0->zh y*(zh x / zh y) = -(y*(zh x / zh y)):=fun g=>(congrArg (· * (zh x / zh y)) (show zh y = -y by omega)).trans (Int.neg_mul _ _);have e2:0<=y->zh y*(zh x / zh y)=y*(zh x / zh y):=fun g=>congrArg (· * (zh x / zh y)) (show zh y=y by omega);have e3:y * -(zh x / zh y) = -(y*(zh x / zh y)):=Int.mul_neg _ _;have e4:y*(-(zh x / zh y) + -1) = -(y*(zh x / zh y))-y:=by rw[Int.mul_add,Int.mul_neg]; omega
 cases E<;>cases gy
 . exact absurd rfl J
 .
  simp at M N;refine⟨fun H=>ji ?_ (Or.inr ⟨?_,?_⟩),fun H=>ji ?_ (Or.inr ⟨?_,?_⟩)⟩
  all_goals simp only[zv,Bool.false_eq_true,if_false,if_true]; omega
 .
  simp at M N;refine⟨fun H=>ji ?_ (Or.inl ⟨?_,?_⟩),fun H=>ji ?_ (Or.inl ⟨?_,?_⟩)⟩
  all_goals simp only[zv,Bool.false_eq_true,if_false,if_true]; omega
 . exact absurd rfl J
theorem yj {z:Int} (h:zh z<=zh x) (E:fits x):fits z:=Nat.le_trans (yI (zt z) h) E
theorem jB (h:y≠0):zh (yO x y)<=zh x/\zh (y9 x y)<=zh y/\zh x / zh y<=zh x/\zh x%zh y<=zh y:=by
 have J:0<zh y:=by unfold zh; omega
 have e:=Int.mul_ediv_add_emod (zh x) (zh y);have Z:=Int.emod_nonneg (zh x) (show zh y≠0 by omega);have m1:=Int.emod_lt_of_pos (zh x) J;have q0:0<=zh x / zh y:=Int.ediv_nonneg (zt x) B_;have l1:=Int.mul_le_mul_of_nonneg_right (show 1<=zh y by omega) q0;have Y:=zV y;obtain⟨N,M⟩:∃b,decide (x<0)=b:=⟨_,rfl⟩;obtain⟨gy,I⟩:∃b,decide (y<0)=b:=⟨_,rfl⟩;have H:∀ (g:Bool) {m:Int},0<=m->zh (zv g m)=m:=fun g m h=>xF g h;refine⟨?_,?_,by omega,by omega⟩
 all_goals
  by_cases hs:N=gy
  .
   subst hs;have S:=Zy M I h
   first
    | (rw[S.1,H _ q0]; omega)
    | (rw[S.2,H _ Z]; omega)
  .
   have D:=kC M I hs h
   rcases Int.lt_or_le 0 (zh x%zh y)with hr | hr
   .
    have E:=D.2 hr;have l2:=Int.mul_le_mul_of_nonneg_right (show 2<=zh y by omega) q0
    first
     | (rw[E.1]; simp only[zv,if_true]; unfold zh at *; omega)
     | (rw[E.2]; cases N<;>cases gy<;>first | exact absurd rfl hs | (simp at M I; simp only[zv,if_true,Bool.false_eq_true,if_false]; unfold zh at *; omega))
   .
    have E:=D.1 B_
    first
     | (rw[E.1,H _ q0]; omega)
     | (rw[E.2,H _ Z]; omega)
theorem YO (w:Cc) (ha:az w va x) (hb:az w vb y) (fx:fits x) (fy:fits y) (hy:y≠0) (bg:(decide (x<0)=decide (y<0))=True) :
  Cb Ch 169 #[va,vb] w fun e E=>∃q r,e = Cg (Ck #[q,r,Cz Cv 0])/\az E q (yO x y)/\az E r (y9 x y)/\zf w E:=by
 have bo:∀E,zf w E->Cb Ch 156 #[va,vb] E fun e w2=>e = Cg (Cz Cv 0)/\zf E w2:=fun E h=>Zx E (ha.ae h) (hb.ae h) fx fy;have F:=jB (x:=x) hy;have fq:fits (yO x y):=yj F.1 fx;have cN:fits (y9 x y):=yj F.2.1 fy;have dl:0<zh y:=by unfold zh; omega
 have q0:0<=zh x / zh y:=Int.ediv_nonneg (zt x) B_;have m0:=Int.emod_nonneg (zh x) (show zh y≠0 by omega)
 have ci:∀ (d:Bool) (s:Cd) (E:Cc),aA E s (zn (zh x / zh y))->Cb Ch 139 #[Cx d,s] E fun e w2=>∃v,e = Cg (Ck #[v,Cz Cv 0])/\az w2 v (zv d (zh x / zh y))/\zf E w2:=fun d s E h=>by
  have fz:fits (zv d (zh x / zh y)):=yj (by rw[xF d q0]; exact F.2.2.1) fx;have:=qr d E h (by have:=yI q0 F.2.2.1; unfold fits at fx; unfold aE; omega);rw[zA q0,zK fz,zG fz]at this;exact this
 have cY:∀ (d:Bool) (s:Cd) (E:Cc),aA E s (zn (zh x%zh y))->Cb Ch 139 #[Cx d,s] E fun e w2=>∃v,e = Cg (Ck #[v,Cz Cv 0])/\az w2 v (zv d (zh x%zh y))/\zf E w2:=fun d s E h=>by
  have fz:fits (zv d (zh x%zh y)):=yj (by rw[xF d m0]; exact F.2.2.2) fy;have:=qr d E h (by have:=yI m0 F.2.2.2; unfold fits at fy; unfold aE; omega);rw[zA m0,zK fz,zG fz]at this;exact this
 have cx:∀d,fits (zv d (zh x / zh y)):=fun d=>yj (by rw[xF d q0]; exact F.2.2.1) fx;have cy:∀d,fits (zv d (zh x%zh y)):=fun d=>yj (by rw[xF d m0]; exact F.2.2.2) fy;have ce:az w vb y:=hb;obtain⟨aa,ca,rfl,pa⟩:=ha.parts;obtain⟨ab,cb,rfl,pb⟩:=hb.parts
 have ov:∀E,zf w E->Cb Ch 157 #[Cq aa (zn (zh x)).length ca,Cq ab (zn (zh y)).length cb] E fun e w2=>∃q r,e = Cg (Ck #[q,r])/\aA w2 q (zn (zh x / zh y))/\aA w2 r (zn (zh x%zh y))/\zf E w2:=fun E h=>
  KM E (pa.ae h) (pb.ae h) (zt x) B_ (by unfold fits at fx; unfold aE; omega) (by unfold fits at fy; unfold aE; omega)
 have m1:0<(zn (zh y)).length:=List.length_pos_iff.2 (fun e=>by have:=(zT (zt y)).1 e; omega);obtain⟨n,hn⟩:∃n,(zn (zh x)).length=n:=⟨_,rfl⟩;obtain⟨m,hm⟩:∃m,(zn (zh y)).length=m:=⟨_,rfl⟩;rw[hn]at bo ov|-;rw[hm]at bo ov ce m1|-;obtain⟨gx,bi⟩:∃b,decide (x<0)=b:=⟨_,rfl⟩;obtain⟨gy,b9⟩:∃b,decide (y<0)=b:=⟨_,rfl⟩;rw[b9]at ce;rw[bi,b9]at bo bg|-;have HG:=C5 (C6 bi b9);have HY:=C5 hy;have eW:=C5 (C6 fq cN);have HZ:=C5 (C6 cx cy);have eM:=C5 fy;obtain⟨ln,be⟩:∃l,(zn (zh x%zh y)).length=l:=⟨_,rfl⟩
 have lz:(ln=0↔zh x%zh y=0):=by
  rw[<- be,List.length_eq_zero_iff]; exact zT m0
 have dc:=C5 (C6 be (C6 lz m0));clear ha hb hn hm bi b9 fx fy fq cN F q0 m0 cx cy hy be lz dl;have hs:gx=gy:=by rw[bg]; trivial
 subst hs;clear bg
 go_enter Tryz.func169,Tryz.ntmps169
 go_wp2_with fail
 refine(bo _ zi).mono ?_;rintro e w1 ⟨rfl,st⟩;have Bn:=bA w st;have oa:ai w1 w.heap.size 26 #[Cx gx,Cq aa n ca]:=ai.aw st;have ob:ai w1 (w.heap.size+1) 26 #[Cx gx,Cq ab m cb]:=ai.aw st;have or:ai w1 (w.heap.size+1+1) 26 #[Cx false,Cq none 0 0]:=ai.aw st;have H:ai w1 (w.heap.size+1+1+1) 26 #[Cx false,Cq none 0 0]:=ai.aw st;clear st;have B:=Bn;clear Bn;obtain⟨J,ah,fa,la⟩:=oa.s1;obtain⟨Z,Y,fb,lb⟩:=ob.s1;obtain⟨a9,N,fr,lr⟩:=or.s1;obtain⟨I,M,ft,lt⟩:=H.s1;clear bo;go_wp2_with fail
 refine(ov _ B).mono ?_;rintro e w2 ⟨sq,sr,rfl,hq,hr,st⟩;have Bn:=bA w st;have na:=oa.aN st;have nb:=ob.aN st;have nr:=or.aN st;have nt:=H.aN st;clear B oa ob or H J ah fa la Z Y fb lb a9 N fr lr I M ft lt;clear st;have B:=Bn;clear Bn;have oa:=na;clear na;obtain⟨J,ah,fa,la⟩:=oa.s1;have ob:=nb;clear nb;obtain⟨Z,Y,fb,lb⟩:=ob.s1;have or:=nr;clear nr;obtain⟨a9,N,fr,lr⟩:=or.s1;have H:=nt;clear nt;obtain⟨I,M,ft,lt⟩:=H.s1;clear ov;obtain⟨ar,ek,bt⟩:=hr.au;rw[dc.out.1]at bt;subst bt;have HQ:=C5 hq;have HR:=C5 hr;clear hq hr;go_wp2_with fail
 refine(ci false _ _ HQ.out).mono ?_;rintro e w3 ⟨vq,rfl,bh,cg⟩;have st:zf _ w3:=cg;have Bn:=bA w st;have na:=oa.aN st;have nb:=ob.aN st;have nr:=or.aN st;have nt:=H.aN st;clear B oa ob or H J ah fa la Z Y fb lb a9 N fr lr I M ft lt;clear st;have B:=Bn;clear Bn;have oa:=na;clear na;obtain⟨J,ah,fa,la⟩:=oa.s1;have ob:=nb;clear nb;obtain⟨Z,Y,fb,lb⟩:=ob.s1;have or:=nr;clear nr;obtain⟨a9,N,fr,lr⟩:=or.s1;have H:=nt;clear nt;obtain⟨I,M,ft,lt⟩:=H.s1;clear ci;have dk:=C5 H.lt;have bl:=C5 (HR.out.ae cg);obtain⟨bq,aq,dd,cq,rfl⟩:=bh.au;have NQ:=C5 bh;clear bh HQ HR;go_wp2_with fail
 refine(cY gx _ _ (bl.out.ae zi)).mono ?_;rintro e w4 ⟨vr,rfl,bf,d9⟩;have st:zf _ w4:=d9;have Bn:=bA w st;have na:=oa.aN st;have nb:=ob.aN st;have nr:=or.aN st;have nt:=H.aN st;have oq:ai w4 w3.heap.size 26 #[Cx bq,Cq aq dd cq]:=ai.aw st;clear B oa ob or H J ah fa la Z Y fb lb a9 N fr lr I M ft lt;clear st;have B:=Bn;clear Bn;have oa:=na;clear na;obtain⟨J,ah,fa,la⟩:=oa.s1;have ob:=nb;clear nb;obtain⟨Z,Y,fb,lb⟩:=ob.s1;have or:=nr;clear nr;obtain⟨a9,N,fr,lr⟩:=or.s1;have H:=nt;clear nt;obtain⟨I,M,ft,lt⟩:=H.s1;obtain⟨dy,dx,fq,lq⟩:=oq.s1;clear cY;obtain⟨br,er,eF,ec,rfl⟩:=bf.au;have NR:=C5 bf;have dP:=C5 ((NQ.out.ae zi).ae d9);clear bf NQ bl;have em:=C5 (C6 (show w.heap.size+1+1+1<w3.heap.size from dk.out) oq.lt);have S:=C5 (Zy HG.out.1 HG.out.2 HY.out);go_wp2_with fail
 all_goals go_region
 all_goals go_wp2
 all_goals refine Ci (by simp[results,Tryz.results169,go_sem,J,ah,fa,la,Z,Y,fb,lb,a9,N,fr,lr,I,M,ft,lt,dy,dx,fq,lq]; rfl) rfl ?_
 all_goals refine⟨_,_,rfl,?_,?_,zi⟩
 all_goals (try (rw[(S.out.1)]; exact az.b_ (az.bc ((dP.out.aL or).aL ((H.aG B_).aG B_)) _)))
 all_goals (try (rw[(S.out.2)]; exact az.b_ (az.bc ((NR.out.aL or).aL ((H.aG B_).aG B_)) _)))
theorem YP (w:Cc) (ha:az w va x) (hb:az w vb y) (fx:fits x) (fy:fits y) (hy:y≠0) (dx:(decide (x<0)=decide (y<0))=False) :
  Cb Ch 169 #[va,vb] w fun e w'=>∃q r,e = Cg (Ck #[q,r,Cz Cv 0])/\az w' q (yO x y)/\az w' r (y9 x y)/\zf w w':=by
 have bo:∀w',zf w w'->Cb Ch 156 #[va,vb] w' fun e w2=>e = Cg (Cz Cv 0)/\zf w' w2:=fun w' h=>Zx w' (ha.ae h) (hb.ae h) fx fy;have F:=jB (x:=x) hy;have fq:fits (yO x y):=yj F.1 fx;have fl:fits (y9 x y):=yj F.2.1 fy;have gd:0<zh y:=by unfold zh; omega
 have q0:0<=zh x / zh y:=Int.ediv_nonneg (zt x) B_;have m0:=Int.emod_nonneg (zh x) (show zh y≠0 by omega)
 have f9:∀ (d:Bool) (s:Cd) (w':Cc),aA w' s (zn (zh x / zh y))->Cb Ch 139 #[Cx d,s] w' fun e w2=>∃v,e = Cg (Ck #[v,Cz Cv 0])/\az w2 v (zv d (zh x / zh y))/\zf w' w2:=fun d s w' h=>by
  have fz:fits (zv d (zh x / zh y)):=yj (by rw[xF d q0]; exact F.2.2.1) fx;have:=qr d w' h (by have:=yI q0 F.2.2.1; unfold fits at fx; unfold aE; omega);rw[zA q0,zK fz,zG fz]at this;exact this
 have fm:∀ (d:Bool) (s:Cd) (w':Cc),aA w' s (zn (zh x%zh y))->Cb Ch 139 #[Cx d,s] w' fun e w2=>∃v,e = Cg (Ck #[v,Cz Cv 0])/\az w2 v (zv d (zh x%zh y))/\zf w' w2:=fun d s w' h=>by
  have fz:fits (zv d (zh x%zh y)):=yj (by rw[xF d m0]; exact F.2.2.2) fy;have:=qr d w' h (by have:=yI m0 F.2.2.2; unfold fits at fy; unfold aE; omega);rw[zA m0,zK fz,zG fz]at this;exact this
 have fd:∀d,fits (zv d (zh x / zh y)):=fun d=>yj (by rw[xF d q0]; exact F.2.2.1) fx;have fe:∀d,fits (zv d (zh x%zh y)):=fun d=>yj (by rw[xF d m0]; exact F.2.2.2) fy;have dl:az w vb y:=hb;obtain⟨aa,ca,rfl,pa⟩:=ha.parts;obtain⟨ab,cb,rfl,pb⟩:=hb.parts
 have ov:∀w',zf w w'->Cb Ch 157 #[Cq aa (zn (zh x)).length ca,Cq ab (zn (zh y)).length cb] w' fun e w2=>∃q r,e = Cg (Ck #[q,r])/\aA w2 q (zn (zh x / zh y))/\aA w2 r (zn (zh x%zh y))/\zf w' w2:=fun w' h=>
  KM w' (pa.ae h) (pb.ae h) (zt x) B_ (by unfold fits at fx; unfold aE; omega) (by unfold fits at fy; unfold aE; omega)
 have m1:0<(zn (zh y)).length:=List.length_pos_iff.2 (fun e=>by have:=(zT (zt y)).1 e; omega);obtain⟨n,hn⟩:∃n,(zn (zh x)).length=n:=⟨_,rfl⟩;obtain⟨m,hm⟩:∃m,(zn (zh y)).length=m:=⟨_,rfl⟩;rw[hn]at bo ov|-;rw[hm]at bo ov dl m1|-;obtain⟨gx,ek⟩:∃b,decide (x<0)=b:=⟨_,rfl⟩;obtain⟨gy,dc⟩:∃b,decide (y<0)=b:=⟨_,rfl⟩;rw[dc]at dl;rw[ek,dc]at bo dx|-;have HG:=C5 (C6 ek dc);have HY:=C5 hy;have em:=C5 (C6 fq fl);have HZ:=C5 (C6 fd fe);have gr:=C5 fy;obtain⟨ln,dd⟩:∃l,(zn (zh x%zh y)).length=l:=⟨_,rfl⟩
 have lz:(ln=0↔zh x%zh y=0):=by
  rw[<- dd,List.length_eq_zero_iff]; exact zT m0
 have d9:=C5 (C6 dd (C6 lz m0));clear ha hb hn hm ek dc fx fy fq fl F q0 m0 fd fe hy dd lz gd;have hs:¬gx=gy:=by rw[dx]; exact id
 have gD:(gx==gy)=false:=by simp[hs]
 have D:=C5 (kC HG.out.1 HG.out.2 hs HY.out);clear dx hs
 go_enter Tryz.func169,Tryz.ntmps169
 go_wp2_with fail
 refine(bo _ zi).mono ?_;rintro e w1 ⟨rfl,st⟩;have Bn:=bA w st;have Y:ai w1 w.heap.size 26 #[Cx gx,Cq aa n ca]:=ai.aw st;have J:ai w1 (w.heap.size+1) 26 #[Cx gy,Cq ab m cb]:=ai.aw st;have or:ai w1 (w.heap.size+1+1) 26 #[Cx false,Cq none 0 0]:=ai.aw st;have I:ai w1 (w.heap.size+1+1+1) 26 #[Cx false,Cq none 0 0]:=ai.aw st;clear st;have B:=Bn;clear Bn;obtain⟨N,bh,fa,la⟩:=Y.s1;obtain⟨bf,be,fb,lb⟩:=J.s1;obtain⟨bg,ah,fr,lr⟩:=or.s1;obtain⟨M,Z,ft,lt⟩:=I.s1;clear bo;go_wp2_with fail
 refine(ov _ B).mono ?_;rintro e w2 ⟨sq,sr,rfl,hq,hr,st⟩;have Bn:=bA w st;have na:=Y.aN st;have nb:=J.aN st;have nr:=or.aN st;have nt:=I.aN st;clear B Y J or I N bh fa la bf be fb lb bg ah fr lr M Z ft lt;clear st;have B:=Bn;clear Bn;have Y:=na;clear na;obtain⟨N,bh,fa,la⟩:=Y.s1;have J:=nb;clear nb;obtain⟨bf,be,fb,lb⟩:=J.s1;have or:=nr;clear nr;obtain⟨bg,ah,fr,lr⟩:=or.s1;have I:=nt;clear nt;obtain⟨M,Z,ft,lt⟩:=I.s1;clear ov;obtain⟨ar,gt,eM⟩:=hr.au;rw[d9.out.1]at eM;subst eM;have HQ:=C5 hq;have HR:=C5 hr;clear hq hr;go_wp2_with fail
 refine(f9 true _ _ HQ.out).mono ?_;rintro e w3 ⟨vq,rfl,ec,f8⟩;have st:zf _ w3:=f8;have Bn:=bA w st;have na:=Y.aN st;have nb:=J.aN st;have nr:=or.aN st;have nt:=I.aN st;clear B Y J or I N bh fa la bf be fb lb bg ah fr lr M Z ft lt;clear st;have B:=Bn;clear Bn;have Y:=na;clear na;obtain⟨N,bh,fa,la⟩:=Y.s1;have J:=nb;clear nb;obtain⟨bf,be,fb,lb⟩:=J.s1;have or:=nr;clear nr;obtain⟨bg,ah,fr,lr⟩:=or.s1;have I:=nt;clear nt;obtain⟨M,Z,ft,lt⟩:=I.s1;clear f9;have fZ:=C5 I.lt;have er:=C5 (HR.out.ae f8);obtain⟨bq,aq,cx,cq,rfl⟩:=ec.au;have NQ:=C5 ec;clear ec HQ HR;go_wp2_with fail
 refine(fm gx _ _ (er.out.ae zi)).mono ?_;rintro e w4 ⟨vr,rfl,dk,fW⟩;have st:zf _ w4:=fW;have Bn:=bA w st;have na:=Y.aN st;have nb:=J.aN st;have nr:=or.aN st;have nt:=I.aN st;have oq:ai w4 w3.heap.size 26 #[Cx bq,Cq aq cx cq]:=ai.aw st;clear B Y J or I N bh fa la bf be fb lb bg ah fr lr M Z ft lt;clear st;have B:=Bn;clear Bn;have Y:=na;clear na;obtain⟨N,bh,fa,la⟩:=Y.s1;have J:=nb;clear nb;obtain⟨bf,be,fb,lb⟩:=J.s1;have or:=nr;clear nr;obtain⟨bg,ah,fr,lr⟩:=or.s1;have I:=nt;clear nt;obtain⟨M,Z,ft,lt⟩:=I.s1;obtain⟨ce,bt,fq,lq⟩:=oq.s1;clear fm;obtain⟨br,cN,cY,bi,rfl⟩:=dk.au;have NR:=C5 dk;have fV:=C5 ((NQ.out.ae zi).ae fW);clear dk NQ er;have f7:=C5 (C6 (show w.heap.size+1+1+1<w3.heap.size from fZ.out) oq.lt)
 rcases Nat.eq_zero_or_pos ln with h0 | h0
 .
  have E:=C5 (D.out.1 (d9.out.2.1.1 h0));subst h0;go_wp2_with fail
  all_goals go_region
  all_goals go_wp2
  all_goals refine Ci (by simp[results,Tryz.results169,go_sem,N,bh,fa,la,bf,be,fb,lb,bg,ah,fr,lr,M,Z,ft,lt,ce,bt,fq,lq]; rfl) rfl ?_
  all_goals refine⟨_,_,rfl,?_,?_,zi⟩
  all_goals (try (rw[(E.out.1)]; exact az.b_ (az.bc ((fV.out.aL or).aL ((I.aG B_).aG B_)) _)))
  all_goals (try (rw[(E.out.2)]; exact az.b_ (az.bc ((NR.out.aL or).aL ((I.aG B_).aG B_)) _)))
 .
  have E:=C5 (D.out.2 (by have:=d9.out.2.1; have:=d9.out.2.2; omega));go_wp2_with fail
  have NB:=C5 (dl.ae B);have gE:w3.heap.size<w4.heap.size:=f7.out.2;have gG:w.heap.size+1+1+1<w3.heap.size:=f7.out.1;have n1:¬w4.heap.size=w3.heap.size:=B_
  have n2:¬w.heap.size=w3.heap.size:=B_
  have n3:¬w.heap.size+1=w3.heap.size:=B_
  have n4:¬w3.heap.size=w4.heap.size:=B_
  have n5:¬w3.heap.size=w.heap.size:=B_
  have n6:¬w3.heap.size=w.heap.size+1:=B_
  have gF:qU (zv true (zh x / zh y) + -1)=0:=zK (by rw[<- E.out.1]; exact em.out.1);have fX:Hid (xn (zv true (zh x / zh y) + -1)=yO x y):=by show xn _=_; rw[<- E.out.1]; exact zG em.out.1
  have g9:Hid (xn (zv gx (zh x%zh y)+y)=y9 x y):=by show xn _=_; rw[<- E.out.2]; exact zG em.out.2
  go_region_with (first
   | (go_at_call 104; refine(Kv (-1) _ B_ B_).mono ?_; rintro e H ⟨vo,rfl,dP,bl⟩; go_must (have fY:=C5 ((fV.out.ae zi).ae bl); have gp:=C5 ((NR.out.ae zi).ae bl); have gg:=C5 ((NB.out.ae zi).ae bl); obtain⟨gA,gC,gz,gB,rfl⟩:=dP.au; have NO:=C5 dP; clear dP; have st:zf _ H:=bl; have Bn:=bA w st; have na:ai H w.heap.size 26 #[Cx gx,Cq aa n ca]:=ai.aw st; have nb:ai H (w.heap.size+1) 26 #[Cx gy,Cq ab m cb]:=ai.aw st; have nr:ai H (w.heap.size+1+1) 26 #[Cx false,Cq none 0 0]:=ai.aw st; have nt:ai H (w.heap.size+1+1+1) 26 #[Cx false,Cq none 0 0]:=ai.aw st; have nq:ai H w3.heap.size 26 #[Cx bq,Cq aq cx cq]:=ai.aw st; have ns:ai H w4.heap.size 26 #[Cx br,Cq cN cY bi]:=ai.aw st; clear B Y J or I oq N bh fa la bf be fb lb bg ah fr lr M Z ft lt ce bt fq lq; clear st; have B:=Bn; clear Bn; have Y:=na; clear na; have N:Cn H ⟨w.heap.size,0,none⟩=some (Cx gx):=Y.c 0 rfl; have bh:Cn H ⟨w.heap.size,1,none⟩=some (Cq aa n ca):=Y.c 1 rfl; have fa:=Y.fr; have la:=Y.lt; have J:=nb; clear nb; have bf:Cn H ⟨w.heap.size+1,0,none⟩=some (Cx gy):=J.c 0 rfl; have be:Cn H ⟨w.heap.size+1,1,none⟩=some (Cq ab m cb):=J.c 1 rfl; have fb:=J.fr; have lb:=J.lt; have or:=nr; clear nr; have bg:Cn H ⟨w.heap.size+1+1,0,none⟩=some (Cx false):=or.c 0 rfl; have ah:Cn H ⟨w.heap.size+1+1,1,none⟩=some (Cq none 0 0):=or.c 1 rfl; have fr:=or.fr; have lr:=or.lt; have I:=nt; clear nt; have M:Cn H ⟨w.heap.size+1+1+1,0,none⟩=some (Cx false):=I.c 0 rfl; have Z:Cn H ⟨w.heap.size+1+1+1,1,none⟩=some (Cq none 0 0):=I.c 1 rfl; have ft:=I.fr; have lt:=I.lt; have oq:=nq; clear nq; have ce:Cn H ⟨w3.heap.size,0,none⟩=some (Cx bq):=oq.c 0 rfl; have bt:Cn H ⟨w3.heap.size,1,none⟩=some (Cq aq cx cq):=oq.c 1 rfl; have fq:=oq.fr; have lq:=oq.lt; have os:=ns; clear ns; have ci:Cn H ⟨w4.heap.size,0,none⟩=some (Cx br):=os.c 0 rfl; have cy:Cn H ⟨w4.heap.size,1,none⟩=some (Cq cN cY bi):=os.c 1 rfl; have fs:=os.fr; have ls:=os.lt))
   | (go_at_call 192; refine(Gd _ fY.out NO.out (HZ.out.1 _) (xO (by unfold zh; omega))).mono ?_; rintro e H ⟨vs,rfl,dy,bl⟩; go_must (have gi:=C5 ((gp.out.ae zi).ae bl); have gk:=C5 ((gg.out.ae zi).ae bl); obtain⟨bs,gj,gn,gh,rfl⟩:=dy.au; have NS:=C5 dy; clear dy; have st:zf _ H:=bl; have Bn:=bA w st; have na:ai H w.heap.size 26 #[Cx gx,Cq aa n ca]:=ai.aw st; have nb:ai H (w.heap.size+1) 26 #[Cx gy,Cq ab m cb]:=ai.aw st; have nr:ai H (w.heap.size+1+1) 26 #[Cx false,Cq none 0 0]:=ai.aw st; have nt:ai H (w.heap.size+1+1+1) 26 #[Cx false,Cq none 0 0]:=ai.aw st; have nq:ai H w3.heap.size 26 #[Cx bq,Cq aq cx cq]:=ai.aw st; have ns:ai H w4.heap.size 26 #[Cx br,Cq cN cY bi]:=ai.aw st; clear B Y J or I oq os N bh fa la bf be fb lb bg ah fr lr M Z ft lt ce bt fq lq ci cy fs ls; clear st; have B:=Bn; clear Bn; have Y:=na; clear na; have N:Cn H ⟨w.heap.size,0,none⟩=some (Cx gx):=Y.c 0 rfl; have bh:Cn H ⟨w.heap.size,1,none⟩=some (Cq aa n ca):=Y.c 1 rfl; have fa:=Y.fr; have la:=Y.lt; have J:=nb; clear nb; have bf:Cn H ⟨w.heap.size+1,0,none⟩=some (Cx gy):=J.c 0 rfl; have be:Cn H ⟨w.heap.size+1,1,none⟩=some (Cq ab m cb):=J.c 1 rfl; have fb:=J.fr; have lb:=J.lt; have or:=nr; clear nr; have bg:Cn H ⟨w.heap.size+1+1,0,none⟩=some (Cx false):=or.c 0 rfl; have ah:Cn H ⟨w.heap.size+1+1,1,none⟩=some (Cq none 0 0):=or.c 1 rfl; have fr:=or.fr; have lr:=or.lt; have I:=nt; clear nt; have M:Cn H ⟨w.heap.size+1+1+1,0,none⟩=some (Cx false):=I.c 0 rfl; have Z:Cn H ⟨w.heap.size+1+1+1,1,none⟩=some (Cq none 0 0):=I.c 1 rfl; have ft:=I.fr; have lt:=I.lt; have oq:=nq; clear nq; have ce:Cn H ⟨w3.heap.size,0,none⟩=some (Cx bq):=oq.c 0 rfl; have bt:Cn H ⟨w3.heap.size,1,none⟩=some (Cq aq cx cq):=oq.c 1 rfl; have fq:=oq.fr; have lq:=oq.lt; have os:=ns; clear ns; have ci:Cn H ⟨w4.heap.size,0,none⟩=some (Cx br):=os.c 0 rfl; have cy:Cn H ⟨w4.heap.size,1,none⟩=some (Cq cN cY bi):=os.c 1 rfl; have fs:=os.fr; have ls:=os.lt)))
  all_goals
   go_wp2_with fail
   refine(Gd _ (gi.out.aL oq) (gk.out.aL oq) (HZ.out.2 _) gr.out).mono ?_;rintro e w8 ⟨gH,rfl,cg,eF⟩;have eW:=C5 ((NS.out.aL oq).ae eF);rw[fX.out]at eW;rw[g9.out]at cg;obtain⟨b9,a9,n9,c9,rfl⟩:=cg.au;have g8:=C5 cg;clear cg;have st:zf _ w8:=eF;have Bn:=bA w st;have na:=Y.aN st;have nb:=J.aN st;have nr:=or.aN st;have nt:=I.aN st;replace oq:ai w8 w3.heap.size 26 #[Cx bs,Cq gj gn gh]:=ai.aw st;replace os:ai w8 w4.heap.size 26 #[Cx br,Cq cN cY bi]:=ai.aw st;clear B Y J or I N bh fa la bf be fb lb bg ah fr lr M Z ft lt ce bt fq lq ci cy fs ls;clear st;have B:=Bn;clear Bn;have Y:=na;clear na;obtain⟨N,bh,fa,la⟩:=Y.s1;have J:=nb;clear nb;obtain⟨bf,be,fb,lb⟩:=J.s1;have or:=nr;clear nr;obtain⟨bg,ah,fr,lr⟩:=or.s1;have I:=nt;clear nt;obtain⟨M,Z,ft,lt⟩:=I.s1;obtain⟨ce,bt,fq,lq⟩:=oq.s1;obtain⟨ci,cy,fs,ls⟩:=os.s1;go_wp2_with fail
   go_region
   go_wp2
   refine Ci (by simp[results,Tryz.results169,go_sem,N,bh,fa,la,bf,be,fb,lb,bg,ah,fr,lr,M,Z,ft,lt,ce,bt,fq,lq,ci,cy,fs,ls]; rfl) rfl ?_;refine⟨_,_,rfl,?_,?_,zi⟩
   . exact az.b_ (((eW.out.aL os).aL ((or.aG B_).aG B_)).aL ((((I.aG B_).aG B_).aG B_).aG B_))
   . exact az.b_ (((g8.out.aL os).aL ((or.aG B_).aG B_)).aL ((((I.aG B_).aG B_).aG B_).aG B_))
theorem Jk (w:Cc) (H:az w va x) (J:az w vb y) (I:fits x) (N:fits y) (M:y≠0) :
  Cb Ch 169 #[va,vb] w fun e E=>∃q r,e = Cg (Ck #[q,r,Cz Cv 0])/\az E q (yO x y)/\az E r (y9 x y)/\zf w E:=by
 by_cases h:decide (x<0)=decide (y<0)
 . exact YO w H J I N M (by simp[h])
 . exact YP w H J I N M (by simp[h])
def jC (E:Bool) (la:List Int) (gy:Bool) (lb:List Int):Prop:=zS E la/\zS gy lb/\gy=false/\lb≠ []/\ym (zv E (zj la)) (zv gy (zj lb))=1
instance (gx:Bool) (la:List Int) (gy:Bool) (lb:List Int):Decidable (jC gx la gy lb):=inferInstanceAs (Decidable (_/\_/\_/\_/\_))
end
section
open Go.RowKit
variable {x y:Int} {va vb:Cd}
theorem Hg (w:Cc) (ha:az w va x) (hb:az w vb y) (fx:fits x) (fy:fits y) :
  Cb Ch 152 #[va,vb] w fun e E=>∃v,e = Cg (Ck #[v,Cz Cv (qU (x-y))])/\az E v (xn (x-y))/\zf w E:=by
 have ck:∀ (E:Cc) (q:Nat) (aa ab:Option Addr) (ca cb:Nat),ai E q 26 #[Cx (decide (x<0)),Cq aa (zn (zh x)).length ca,Cx (decide (y<0)),Cq ab (zn (zh y)).length cb]->aA E (Cq aa (zn (zh x)).length ca) (zn (zh x))->aA E (Cq ab (zn (zh y)).length cb) (zn (zh y))->
   Cb Ch 93 #[Cq (some ⟨q,0,none⟩) 2 2] E fun e w2=>e = Cg (Cz Cv 0)/\zf E w2:=fun E q aa ab ca cb hb h1 h2=>xh E hb h1 h2 fx fy
 obtain⟨ab,cb,rfl,pb⟩:=hb.parts;have en:zh (-y)=zh y:=by unfold zh; omega
 have ad:∀E,zf w E->Cb Ch 180 #[va,.agg #[Cx (!decide (y<0)),Cq ab (zn (zh y)).length cb]] E fun e w2=>∃v,e = Cg (Ck #[v,Cz Cv (qU (x-y))])/\az w2 v (xn (x-y))/\zf E w2:=fun E h=>by
  have:=Xu (y:= -y) (gy:= !decide (y<0)) E (ha.ae h) (by rw[en]; exact pb.ae h) (by
   rcases Int.lt_trichotomy y 0 with h | h | h
   . right; rw[C9 h,C_ B_]; rfl
   . left; omega
   . right; rw[C_ (show ¬y<0 by omega),C9 B_]; rfl) fx (by unfold fits; rw[en]; exact fy)
  rw[<- Int.sub_eq_add_neg]at this;exact this
 obtain⟨aa,ca,rfl,pa⟩:=ha.parts;have H:=fun(E:Cc) (q:Nat)=>ck E q aa ab ca cb;obtain⟨n,hn⟩:∃n,(zn (zh x)).length=n:=⟨_,rfl⟩;obtain⟨m,hm⟩:∃m,(zn (zh y)).length=m:=⟨_,rfl⟩;rw[hn]at pa ad|-;rw[hm]at pb ad|-;simp only[hn,hm]at H;obtain⟨gx,Y⟩:∃b,decide (x<0)=b:=⟨_,rfl⟩;obtain⟨gy,I⟩:∃b,decide (y<0)=b:=⟨_,rfl⟩;rw[Y,I]at ad|-;simp only[Y,I]at H;clear ha hb hn hm Y I fx fy ck en
 go_enter Tryz.func152,Tryz.ntmps152
 go_wp2_with fail
 refine(H _ _ Xh (pa.ae zi) (pb.ae zi)).mono ?_;rintro e w1 ⟨rfl,st⟩;have Bn:=bA w st;have oa:ai w1 w.heap.size 26 #[Cx gx,Cq aa n ca]:=ai.aw st;have ob:ai w1 (w.heap.size+1) 26 #[Cx gy,Cq ab m cb]:=ai.aw st;have or:ai w1 (w.heap.size+1+1) 26 #[Cx false,Cq none 0 0]:=ai.aw st;clear st;have B:=Bn;clear Bn;obtain⟨a9,Z,fa,la⟩:=oa.s1;obtain⟨b9,ah,fb,lb⟩:=ob.s1;obtain⟨N,M,fr,lr⟩:=or.s1;clear H;go_wp2_with fail
 refine(ad _ zi).mono ?_;rintro e w2 ⟨v2,rfl,J,st⟩;have Bn:=bA w st;have na:=oa.aN st;have nr:=or.aN st;clear B oa ob or a9 Z fa la b9 ah fb lb N M fr lr;clear st;have B:=Bn;clear Bn;have oa:=na;clear na;obtain⟨a9,Z,fa,la⟩:=oa.s1;have or:=nr;clear nr;obtain⟨N,M,fr,lr⟩:=or.s1;clear ad;obtain⟨bb,ao,k,c,rfl⟩:=J.au;have HV:=C5 J;clear J
 go_wp2
 refine Ci (by simp[results,Tryz.results152,go_sem,a9,Z,fa,la,N,M,fr,lr]; rfl) rfl ?_;exact⟨_,rfl,HV.out.aL or,zi⟩
theorem Yq (w:Cc) (ha:az w va x) (hb:az w vb y) (fx:fits x) (fy:fits y) (hy:y≠0) (bi:(decide (x<0)=decide (y<0))) (hZ:(zh x%zh y=0)\/(0<zh x%zh y)) :
  Cb Ch 132 #[va,vb] w fun e E=>∃q r,e = Cg (Ck #[q,r,Cz Cv 0])/\az E q (yO x y)/\az E r (y9 x y)/\zf w E:=by
 have ck:∀ (E:Cc) (q:Nat) (aa ab:Option Addr) (ca cb:Nat),ai E q 26 #[Cx (decide (x<0)),Cq aa (zn (zh x)).length ca,Cx (decide (y<0)),Cq ab (zn (zh y)).length cb]->aA E (Cq aa (zn (zh x)).length ca) (zn (zh x))->aA E (Cq ab (zn (zh y)).length cb) (zn (zh y))->
   Cb Ch 93 #[Cq (some ⟨q,0,none⟩) 2 2] E fun e w2=>e = Cg (Cz Cv 0)/\zf E w2:=fun E q aa ab ca cb hb H I=>xh E hb H I fx fy
 have F:=jB (x:=x) hy;have fq:fits (yO x y):=yj F.1 fx;have bl:fits (y9 x y):=yj F.2.1 fy;have bt:0<zh y:=by unfold zh; omega
 have q0:0<=zh x / zh y:=Int.ediv_nonneg (zt x) B_;have m0:=Int.emod_nonneg (zh x) (show zh y≠0 by omega);have m1:=Int.emod_lt_of_pos (zh x) bt;have lq:(zn (zh x / zh y)).length<=4096:=Nat.le_trans (yI q0 F.2.2.1) fx;have cg:(zn (zh x%zh y)).length<=4096:=Nat.le_trans (yI m0 F.2.2.2) fy;obtain⟨aa,ca,rfl,pa⟩:=ha.parts;obtain⟨ab,cb,rfl,pb⟩:=hb.parts;have bq:=fun(E:Cc) (q:Nat)=>ck E q aa ab ca cb
 have dv:∀E,zf w E->Cb Ch 135 #[Cq aa (zn (zh x)).length ca,Cq ab (zn (zh y)).length cb] E fun e w2=>∃q r,e = Cg (Ck #[q,r])/\aA w2 q (zn (zh x / zh y))/\aA w2 r (zn (zh x%zh y))/\zf E w2:=fun E h=>
  v9 E (pa.ae h) (pb.ae h) (zt x) B_ (by unfold fits at fx; omega) (by unfold fits at fy; omega)
 have y0:0<(zn (zh y)).length:=List.length_pos_iff.2 (fun e=>by have:=(zT (zt y)).1 e; omega);have VY:=zA (zt y);have Y1:(zn (zh y)).length<=4096:=fy;unfold fits at fx fy;obtain⟨n,hn⟩:∃n,(zn (zh x)).length=n:=⟨_,rfl⟩;obtain⟨m,hm⟩:∃m,(zn (zh y)).length=m:=⟨_,rfl⟩;rw[hn]at pa dv|-;rw[hm]at pb dv y0 Y1|-;simp only[hn,hm]at bq;obtain⟨gx,bg⟩:∃b,decide (x<0)=b:=⟨_,rfl⟩;obtain⟨gy,bf⟩:∃b,decide (y<0)=b:=⟨_,rfl⟩;have HS:Hid (decide (x<0)=gx/\decide (y<0)=gy):=⟨bg,bf⟩;rw[bg,bf]at bi|-;simp only[bg,bf]at bq;have VQ:=zA q0;have VR:=zA m0;have bh:(zn (zh x%zh y)).length=0↔zh x%zh y=0:=List.length_eq_zero_iff.trans (zT m0);have DS:=Zy bg (bi▸bf) hy
 have cY:∀E v l,aA E v l->zj l=zh x / zh y->l.length<=aE->Cb Ch 94 #[Cx false,v] E fun e w2=>∃v',e = Cg (Ck #[v',Cz Cv 0])/\az w2 v' (yO x y)/\zf E w2:=fun E v l h H I=>by
  have:=xG false E h I;rw[H,show zv false (zh x / zh y)=yO x y from by exact DS.1.symm,zK fq,zG fq]at this;exact this
 have dc:∀E v l,aA E v l->zj l=zh x%zh y->l.length<=aE->Cb Ch 94 #[Cx gx,v] E fun e w2=>∃v',e = Cg (Ck #[v',Cz Cv 0])/\az w2 v' (y9 x y)/\zf E w2:=fun E v l h H I=>by
  have:=xG gx E h I;rw[H,show zv gx (zh x%zh y)=y9 x y from by exact DS.2.symm,zK bl,zG bl]at this;exact this
 have HF:=C5 (C6 VQ (C6 VR (C6 lq (C6 cg VY))));have HM:=C5 (C6 m1 (C6 hm m0));obtain⟨k,hk⟩:∃k,(zn (zh x%zh y)).length=k:=⟨_,rfl⟩;rw[hk]at bh
 rcases hZ with hZ | hZ
 focus
  have cx:k=0:=bh.2 hZ;have HK:=C5 hk;clear ha hb hn hm bg bf fx fy ck DS F bt q0 m0 m1 lq cg VY VQ VR hy bh hk hZ fq bl;subst bi;subst cx
 rotate_left
 focus
  have cx:0<k:=B_
  have HK:=C5 hk;clear ha hb hn hm bg bf fx fy ck DS F bt q0 m0 m1 lq cg VY VQ VR hy bh hk hZ fq bl;subst bi
 all_goals
  go_enter Tryz.func132,Tryz.ntmps132
  go_wp2_with fail
  refine(bq _ _ Xh (pa.ae zi) (pb.ae zi)).mono ?_;rintro e w1 ⟨rfl,st⟩;have Bn:=bA w st;have oa:ai w1 w.heap.size 26 #[Cx gx,Cq aa n ca]:=ai.aw st;have ob:ai w1 (w.heap.size+1) 26 #[Cx gx,Cq ab m cb]:=ai.aw st;have or:ai w1 (w.heap.size+1+1) 26 #[Cx false,Cq none 0 0]:=ai.aw st;have N:ai w1 (w.heap.size+1+1+1) 26 #[Cx false,Cq none 0 0]:=ai.aw st;clear st;have B:=Bn;clear Bn;obtain⟨a9,be,fa,la⟩:=oa.s1;obtain⟨b9,ah,fb,lb⟩:=ob.s1;obtain⟨Z,Y,fr,lr⟩:=or.s1;obtain⟨J,M,ft,lt⟩:=N.s1;clear bq;go_wp2_with fail
  refine(dv _ B).mono ?_;rintro e w2 ⟨sq,sr,rfl,hq,hr,st⟩;have Bn:=bA w st;have na:=oa.aN st;have nb:=ob.aN st;have nr:=or.aN st;have nt:=N.aN st;clear B oa ob or N a9 be fa la b9 ah fb lb Z Y fr lr J M ft lt;clear st;have B:=Bn;clear Bn;have oa:=na;clear na;obtain⟨a9,be,fa,la⟩:=oa.s1;have ob:=nb;clear nb;obtain⟨b9,ah,fb,lb⟩:=ob.s1;have or:=nr;clear nr;obtain⟨Z,Y,fr,lr⟩:=or.s1;have N:=nt;clear nt;obtain⟨J,M,ft,lt⟩:=N.s1;clear dv;obtain⟨aq,cq,rfl⟩:=hq.au;obtain⟨ar,cr,rfl⟩:=hr.au;rw[HK.out]at hr|-;obtain⟨nq,ci⟩:∃k,(zn (zh x / zh y)).length=k:=⟨_,rfl⟩;rw[ci]at hq|-;have dx:=C5 ci;clear ci;go_wp2_with fail
  refine(cY _ _ _ hq HF.out.1 (by have:=HF.out.2.2.1; unfold aE; omega)).mono ?_;rintro e w3 ⟨v7,rfl,br,cN⟩;have st:zf _ w3:=cN;have Bn:=bA w st;have na:=oa.aN st;have nb:=ob.aN st;have nr:=or.aN st;have nt:=N.aN st;clear B oa ob or N a9 be fa la b9 ah fb lb Z Y fr lr J M ft lt;clear st;have B:=Bn;clear Bn;have oa:=na;clear na;obtain⟨a9,be,fa,la⟩:=oa.s1;have ob:=nb;clear nb;obtain⟨b9,ah,fb,lb⟩:=ob.s1;have or:=nr;clear nr;obtain⟨Z,Y,fr,lr⟩:=or.s1;have N:=nt;clear nt;obtain⟨J,M,ft,lt⟩:=N.s1;clear cY;have dl:=hr.ae cN;clear hr hq;obtain⟨b7,a7,n7,c7,rfl⟩:=br.au;have N7:=C5 br;clear br;have dk:=or;go_wp2_with fail
  refine(dc _ _ _ (aA.aL dl or) HF.out.2.1 (by have:=HF.out.2.2.2.1; unfold aE; omega)).mono ?_;rintro e w4 ⟨v8,rfl,ce,dd⟩;have st:zf _ w4:=dd;have Bn:=bA w st;have na:=oa.aN st;have nb:=ob.aN st;replace or:ai w4 (w.heap.size+1+1) 26 #[Cx b7,Cq a7 n7 c7]:=ai.aw st;have nt:=N.aN st;clear B oa ob N a9 be fa la b9 ah fb lb Z Y fr lr J M ft lt;clear st;have B:=Bn;clear Bn;have oa:=na;clear na;obtain⟨a9,be,fa,la⟩:=oa.s1;have ob:=nb;clear nb;obtain⟨b9,ah,fb,lb⟩:=ob.s1;obtain⟨Z,Y,fr,lr⟩:=or.s1;have N:=nt;clear nt;obtain⟨J,M,ft,lt⟩:=N.s1;clear dc;have N9:=C5 ((N7.out.aL dk).ae dd);clear dk;obtain⟨b8,a8,n8,c8,rfl⟩:=ce.au;have N8:=C5 ce;clear ce;go_wp2_with fail
  clear a9 be fa la b9 ah fb lb
  refine aj.aM (fun D v W=>ai W (w.heap.size+1+1) 26 #[Cx b7,Cq a7 n7 c7]/\ai W (w.heap.size+1+1+1) 26 #[Cx b8,Cq a8 n8 c8]/\Below w.heap.size w W/\az W (.agg #[Cx b7,Cq a7 n7 c7]) (yO x y)/\az W (.agg #[Cx b8,Cq a8 n8 c8]) (y9 x y))
   (aj.inl [3,4]) (aj.ge []) aj.aU (fun _=>aj.Any) (fun _ _=>False) (aj.pl []) (aj.pl []) B' B' B' (aj.bX _) (fun v=> ?_) (fun _ _ _ _ _ h=>h) (fun _ _ _ _ _ _ _ _ _ _ _ _ _=>aj.none_) (fun _ _ _ _ h=>h.elim) (fun cy Q' d9 hQ=> ?_)
  . exact⟨(((or.aG B_).aG B_).drew:ai (World.drew _) _ _ _),N.both.drew,zi,(N9.out.aL N).b_,(N8.out.aL N).b_⟩
  clear N9 N8 or N B;apply aj.RP rfl rfl rfl 72 rfl rfl
  .
   intro D v' W' hc hj hf K hK;have c0:W'.cell? ⟨w.heap.size+1+1,0,none⟩=some (Cx b7):=hj.1.c 0 rfl;have c1:W'.cell? ⟨w.heap.size+1+1,1,none⟩=some (Cq a7 n7 c7):=hj.1.c 1 rfl;go_step;exact hK.out
  . rfl
  apply aj.RP rfl rfl rfl 73 rfl rfl
  .
   intro D v' W' hc hj hf K hK;have c0:W'.cell? ⟨w.heap.size+1+1+1,0,none⟩=some (Cx b8):=hj.2.1.c 0 rfl;have c1:W'.cell? ⟨w.heap.size+1+1+1,1,none⟩=some (Cq a8 n8 c8):=hj.2.1.c 1 rfl;go_step;exact hK.out
  . rfl
  refine aj.aK 74 ?_;refine aj.dE (fun D v' W' hc hj hf K hK=> ?_) (fun _ _=>aj.aD (b:=⟨_,[]⟩) rfl ?_)
  .
   obtain⟨H,I,h3,h4,h5⟩:=hj;have c0:W'.cell? ⟨w.heap.size+1+1,0,none⟩=some (Cx b7):=H.c 0 rfl;have c1:W'.cell? ⟨w.heap.size+1+1,1,none⟩=some (Cq a7 n7 c7):=H.c 1 rfl;have ff:=H.fr;go_step;exact hK.out undef _ aj.any ⟨H.both,(I.aG B_).aG B_,(Below.setCell (p:=⟨w.heap.size+1+1,1,none⟩) (Below.setCell (p:=⟨w.heap.size+1+1,0,none⟩) h3 (show w.heap.size<=w.heap.size+1+1 by omega) _) (show w.heap.size<=w.heap.size+1+1 by omega) _),h4.aL H,h5.aL H⟩ aj.none_ trivial
  refine aj.dE (fun D v' W' hc hj hf K hK=> ?_) (fun _ _=>aj.aD (b:=⟨_,[]⟩) rfl ?_)
  .
   obtain⟨H,I,h3,h4,h5⟩:=hj;have c0:W'.cell? ⟨w.heap.size+1+1+1,0,none⟩=some (Cx b8):=I.c 0 rfl;have c1:W'.cell? ⟨w.heap.size+1+1+1,1,none⟩=some (Cq a8 n8 c8):=I.c 1 rfl;have ff:=I.fr;go_step;exact hK.out undef _ aj.any ⟨(H.aG B_).aG B_,I.both,(Below.setCell (p:=⟨w.heap.size+1+1+1,1,none⟩) (Below.setCell (p:=⟨w.heap.size+1+1+1,0,none⟩) h3 (show w.heap.size<=w.heap.size+1+1+1 by omega) _) (show w.heap.size<=w.heap.size+1+1+1 by omega) _),h4.aL I,h5.aL I⟩ aj.none_ trivial
  refine aj.aK 6 ?_;refine aj.aH (fun Dn v' W' hd hj hf=> ?_);clear hd hf;refine hQ _ _ ?_;clear hQ d9 Q' cy;obtain⟨H,I,h3,h4,h5⟩:=hj;have Z:W'.cell? ⟨w.heap.size+1+1,0,none⟩=some (Cx b7):=H.c 0 rfl;have Y:W'.cell? ⟨w.heap.size+1+1,1,none⟩=some (Cq a7 n7 c7):=H.c 1 rfl;have fr:=H.fr;have lr:=H.lt;have J:W'.cell? ⟨w.heap.size+1+1+1,0,none⟩=some (Cx b8):=I.c 0 rfl;have M:W'.cell? ⟨w.heap.size+1+1+1,1,none⟩=some (Cq a8 n8 c8):=I.c 1 rfl;have ft:=I.fr;have lt:=I.lt
  go_wp2
  refine Ci (by simp[results,Tryz.results132,go_sem,Z,Y,fr,lr,J,M,ft,lt]; rfl) rfl ?_;exact⟨_,_,rfl,h4,h5,h3⟩
theorem Ql (w:Cc) (I:az w va x) (M:az w vb y) (J:fits x) (Y:fits y) (N:y≠0) (H:(decide (x<0)=decide (y<0))) (hZ:zh x%zh y=0) :
  Cb Ch 132 #[va,vb] w fun e E=>∃q r,e = Cg (Ck #[q,r,Cz Cv 0])/\az E q (yO x y)/\az E r (y9 x y)/\zf w E:=
 Yq w I M J Y N H (.inl hZ)
theorem Qm (w:Cc) (I:az w va x) (M:az w vb y) (J:fits x) (Y:fits y) (N:y≠0) (H:(decide (x<0)=decide (y<0))) (hZ:0<zh x%zh y) :
  Cb Ch 132 #[va,vb] w fun e E=>∃q r,e = Cg (Ck #[q,r,Cz Cv 0])/\az E q (yO x y)/\az E r (y9 x y)/\zf w E:=
 Yq w I M J Y N H (.inr hZ)
theorem Qn (w:Cc) (ha:az w va x) (hb:az w vb y) (fx:fits x) (fy:fits y) (hy:y≠0) (br:¬(decide (x<0)=decide (y<0))) (hZ:0<zh x%zh y) :
  Cb Ch 132 #[va,vb] w fun e E=>∃q r,e = Cg (Ck #[q,r,Cz Cv 0])/\az E q (yO x y)/\az E r (y9 x y)/\zf w E:=by
 have ck:∀ (E:Cc) (q:Nat) (aa ab:Option Addr) (ca cb:Nat),ai E q 26 #[Cx (decide (x<0)),Cq aa (zn (zh x)).length ca,Cx (decide (y<0)),Cq ab (zn (zh y)).length cb]->aA E (Cq aa (zn (zh x)).length ca) (zn (zh x))->aA E (Cq ab (zn (zh y)).length cb) (zn (zh y))->
   Cb Ch 93 #[Cq (some ⟨q,0,none⟩) 2 2] E fun e w2=>e = Cg (Cz Cv 0)/\zf E w2:=fun E q aa ab ca cb hb h1 h2=>xh E hb h1 h2 fx fy
 have F:=jB (x:=x) hy;have fq:fits (yO x y):=yj F.1 fx;have ce:fits (y9 x y):=yj F.2.1 fy;have dl:0<zh y:=by unfold zh; omega
 have q0:0<=zh x / zh y:=Int.ediv_nonneg (zt x) B_;have m0:=Int.emod_nonneg (zh x) (show zh y≠0 by omega);have m1:=Int.emod_lt_of_pos (zh x) dl;have lq:(zn (zh x / zh y)).length<=4096:=Nat.le_trans (yI q0 F.2.2.1) fx;have ek:(zn (zh x%zh y)).length<=4096:=Nat.le_trans (yI m0 F.2.2.2) fy;obtain⟨aa,ca,rfl,pa⟩:=ha.parts;obtain⟨ab,cb,rfl,pb⟩:=hb.parts;have bi:=fun(E:Cc) (q:Nat)=>ck E q aa ab ca cb
 have dv:∀E,zf w E->Cb Ch 135 #[Cq aa (zn (zh x)).length ca,Cq ab (zn (zh y)).length cb] E fun e w2=>∃q r,e = Cg (Ck #[q,r])/\aA w2 q (zn (zh x / zh y))/\aA w2 r (zn (zh x%zh y))/\zf E w2:=fun E h=>
  v9 E (pa.ae h) (pb.ae h) (zt x) B_ (by unfold fits at fx; omega) (by unfold fits at fy; omega)
 have y0:0<(zn (zh y)).length:=List.length_pos_iff.2 (fun e=>by have:=(zT (zt y)).1 e; omega);have VY:=zA (zt y);have Y1:(zn (zh y)).length<=4096:=fy;unfold fits at fx fy;obtain⟨n,hn⟩:∃n,(zn (zh x)).length=n:=⟨_,rfl⟩;obtain⟨m,hm⟩:∃m,(zn (zh y)).length=m:=⟨_,rfl⟩;rw[hn]at pa dv|-;rw[hm]at pb dv y0 Y1|-;simp only[hn,hm]at bi;obtain⟨gx,bf⟩:∃b,decide (x<0)=b:=⟨_,rfl⟩;obtain⟨gy,be⟩:∃b,decide (y<0)=b:=⟨_,rfl⟩;have HS:Hid (decide (x<0)=gx/\decide (y<0)=gy):=⟨bf,be⟩;rw[bf,be]at br|-;simp only[bf,be]at bi;have VQ:=zA q0;have VR:=zA m0;have cx:(zn (zh x%zh y)).length=0↔zh x%zh y=0:=List.length_eq_zero_iff.trans (zT m0);have DS:=(kC bf be br hy).2 hZ;have dP:gx = !gy:=by cases gx<;>cases gy<;>simp_all
 have dx:∀E v l,aA E v l->zj l=zh x / zh y+1->l.length<=aE->Cb Ch 94 #[Cx true,v] E fun e w2=>∃v',e = Cg (Ck #[v',Cz Cv 0])/\az w2 v' (yO x y)/\zf E w2:=fun E v l h h1 h2=>by
  have:=xG true E h h2;rw[h1,show zv true (zh x / zh y+1)=yO x y from by rw[DS.1]; unfold zv; simp only[if_true]; omega,zK fq,zG fq]at this;exact this
 have eF:∀E v l,aA E v l->zj l=zh y-zh x%zh y->l.length<=aE->Cb Ch 94 #[Cx gy,v] E fun e w2=>∃v',e = Cg (Ck #[v',Cz Cv 0])/\az w2 v' (y9 x y)/\zf E w2:=fun E v l h h1 h2=>by
  have:=xG gy E h h2;rw[h1,show zv gy (zh y-zh x%zh y)=y9 x y from by rw[DS.2]; have Y:=zV y; subst dP; unfold zv; cases gy<;>simp at be<;>simp<;>omega,zK ce,zG ce]at this;exact this
 have HF:=C5 (C6 VQ (C6 VR (C6 lq (C6 ek VY))));have HM:=C5 (C6 m1 (C6 hm m0));obtain⟨k,hk⟩:∃k,(zn (zh x%zh y)).length=k:=⟨_,rfl⟩;rw[hk]at cx;have fe:0<k:=B_
 have HK:=C5 hk;clear ha hb hn hm bf be fx fy ck DS F dl q0 m0 m1 lq ek VY VQ VR hy cx hk hZ fq ce;subst dP;clear br
 go_enter Tryz.func132,Tryz.ntmps132
 go_wp2_with fail
 refine(bi _ _ Xh (pa.ae zi) (pb.ae zi)).mono ?_;rintro e w1 ⟨rfl,st⟩;have Bn:=bA w st;have oa:ai w1 w.heap.size 26 #[Cx (!gy),Cq aa n ca]:=ai.aw st;have ob:ai w1 (w.heap.size+1) 26 #[Cx gy,Cq ab m cb]:=ai.aw st;have or:ai w1 (w.heap.size+1+1) 26 #[Cx false,Cq none 0 0]:=ai.aw st;have J:ai w1 (w.heap.size+1+1+1) 26 #[Cx false,Cq none 0 0]:=ai.aw st;clear st;have B:=Bn;clear Bn;obtain⟨Z,b9,fa,la⟩:=oa.s1;obtain⟨ah,a9,fb,lb⟩:=ob.s1;obtain⟨N,M,fr,lr⟩:=or.s1;obtain⟨H,I,ft,lt⟩:=J.s1;clear bi;go_wp2_with fail
 refine(dv _ B).mono ?_;rintro e w2 ⟨sq,sr,rfl,hq,hr,st⟩;have Bn:=bA w st;have na:=oa.aN st;have nb:=ob.aN st;have nr:=or.aN st;have nt:=J.aN st;clear B oa ob or J Z b9 fa la ah a9 fb lb N M fr lr H I ft lt;clear st;have B:=Bn;clear Bn;have oa:=na;clear na;obtain⟨Z,b9,fa,la⟩:=oa.s1;have ob:=nb;clear nb;obtain⟨ah,a9,fb,lb⟩:=ob.s1;have or:=nr;clear nr;obtain⟨N,M,fr,lr⟩:=or.s1;have J:=nt;clear nt;obtain⟨H,I,ft,lt⟩:=J.s1;clear dv;obtain⟨aq,cq,rfl⟩:=hq.au;obtain⟨ar,cr,rfl⟩:=hr.au;rw[HK.out]at hr|-;obtain⟨nq,cg⟩:∃k,(zn (zh x / zh y)).length=k:=⟨_,rfl⟩;rw[cg]at hq|-;have fV:=C5 cg;clear cg;have cY:=C5 hr;clear hr;have fd:=C5 (pb.ae B);go_wp2_with fail
 refine(UU _ (hq.ae ((Cp _ _).alloc (Cl _) _)) (aA.one (x:=1) B_ B_) (by have:=HF.out.2.2.1; unfold aE; omega) (by unfold aE; simp)).mono ?_;rintro e w3 ⟨v5,l5,rfl,bg,er,d9,dd⟩;have st:zf _ w3:=dd;have Bn:=bA w st;have na:=oa.aN st;have nb:=ob.aN st;have nr:=or.aN st;have nt:=J.aN st;clear B oa ob or J Z b9 fa la ah a9 fb lb N M fr lr H I ft lt;clear st;have B:=Bn;clear Bn;have oa:=na;clear na;obtain⟨Z,b9,fa,la⟩:=oa.s1;have ob:=nb;clear nb;obtain⟨ah,a9,fb,lb⟩:=ob.s1;have or:=nr;clear nr;obtain⟨N,M,fr,lr⟩:=or.s1;have J:=nt;clear nt;obtain⟨H,I,ft,lt⟩:=J.s1;have H5:Hid (zj l5=zh x / zh y+1/\l5.length<=aE):=⟨by rw[er,HF.out.1]; simp[zj],by rw[d9]; have:=HF.out.2.2.1; simp; unfold aE; omega⟩;clear er d9 hq;obtain⟨a5,c5,rfl⟩:=bg.au;obtain⟨n5,bl⟩:∃k,l5.length=k:=⟨_,rfl⟩;rw[bl]at bg|-;have fl:=C5 bl;clear bl;have f8:=C5 (pb.ae B);have f9:=C5 (cY.out.ae (((Cp _ _).alloc (Cl _) _).trans (dd.mono C3)));go_wp2_with fail
 refine(Qh _ f8.out f9.out (by have:=HM.out.2.1; unfold aE; omega) (yI HM.out.2.2 (by have:=HM.out.1; omega)) (by rw[HF.out.2.1,HF.out.2.2.2.2]; have:=HM.out.1; omega)).mono ?_;rintro e w4 ⟨v6,l6,rfl,bh,eM,dc,eW⟩;have st:zf _ w4:=eW;have Bn:=bA w st;have na:=oa.aN st;have nb:=ob.aN st;have nr:=or.aN st;have nt:=J.aN st;clear B oa ob or J Z b9 fa la ah a9 fb lb N M fr lr H I ft lt;clear st;have B:=Bn;clear Bn;have oa:=na;clear na;obtain⟨Z,b9,fa,la⟩:=oa.s1;have ob:=nb;clear nb;obtain⟨ah,a9,fb,lb⟩:=ob.s1;have or:=nr;clear nr;obtain⟨N,M,fr,lr⟩:=or.s1;have J:=nt;clear nt;obtain⟨H,I,ft,lt⟩:=J.s1;have H6:Hid (zj l6=zh y-zh x%zh y/\l6.length<=aE):=⟨by rw[eM,HF.out.2.1,HF.out.2.2.2.2],by rw[dc,HM.out.2.1]; unfold aE; omega⟩;clear eM dc fd cY;obtain⟨a6,c6,rfl⟩:=bh.au;obtain⟨n6,ci⟩:∃k,l6.length=k:=⟨_,rfl⟩;rw[ci]at bh|-;have fm:=C5 ci;clear ci;have ec:=bg.ae eW;clear bg;go_wp2_with fail
 refine(dx _ _ _ ec H5.out.1 H5.out.2).mono ?_;rintro e w5 ⟨v7,rfl,bq,dk⟩;have st:zf _ w5:=dk;have Bn:=bA w st;have na:=oa.aN st;have nb:=ob.aN st;have nr:=or.aN st;have nt:=J.aN st;clear B oa ob or J Z b9 fa la ah a9 fb lb N M fr lr H I ft lt;clear st;have B:=Bn;clear Bn;have oa:=na;clear na;obtain⟨Z,b9,fa,la⟩:=oa.s1;have ob:=nb;clear nb;obtain⟨ah,a9,fb,lb⟩:=ob.s1;have or:=nr;clear nr;obtain⟨N,M,fr,lr⟩:=or.s1;have J:=nt;clear nt;obtain⟨H,I,ft,lt⟩:=J.s1;clear dx;have em:=bh.ae dk;clear bh;obtain⟨b7,a7,n7,c7,rfl⟩:=bq.au;have N7:=C5 bq;clear bq;have f7:=or;go_wp2_with fail
 refine(eF _ _ _ (aA.aL em or) H6.out.1 H6.out.2).mono ?_;rintro e w6 ⟨v8,rfl,bt,cy⟩;have st:zf _ w6:=cy;have Bn:=bA w st;have na:=oa.aN st;have nb:=ob.aN st;replace or:ai w6 (w.heap.size+1+1) 26 #[Cx b7,Cq a7 n7 c7]:=ai.aw st;have nt:=J.aN st;clear B oa ob J Z b9 fa la ah a9 fb lb N M fr lr H I ft lt;clear st;have B:=Bn;clear Bn;have oa:=na;clear na;obtain⟨Z,b9,fa,la⟩:=oa.s1;have ob:=nb;clear nb;obtain⟨ah,a9,fb,lb⟩:=ob.s1;obtain⟨N,M,fr,lr⟩:=or.s1;have J:=nt;clear nt;obtain⟨H,I,ft,lt⟩:=J.s1;clear eF;have N9:=C5 ((N7.out.aL f7).ae cy);clear f7;obtain⟨b8,a8,n8,c8,rfl⟩:=bt.au;have N8:=C5 bt;clear bt;go_wp2_with fail
 clear Z b9 fa la ah a9 fb lb
 refine aj.aM (fun D v W=>ai W (w.heap.size+1+1) 26 #[Cx b7,Cq a7 n7 c7]/\ai W (w.heap.size+1+1+1) 26 #[Cx b8,Cq a8 n8 c8]/\Below w.heap.size w W/\az W (.agg #[Cx b7,Cq a7 n7 c7]) (yO x y)/\az W (.agg #[Cx b8,Cq a8 n8 c8]) (y9 x y))
  (aj.inl [3,4]) (aj.ge []) aj.aU (fun _=>aj.Any) (fun _ _=>False) (aj.pl []) (aj.pl []) B' B' B' (aj.bX _) (fun v=> ?_) (fun _ _ _ _ _ h=>h) (fun _ _ _ _ _ _ _ _ _ _ _ _ _=>aj.none_) (fun _ _ _ _ h=>h.elim) (fun cN Q' dy hQ=> ?_)
 . exact⟨(((or.aG B_).aG B_).drew:ai (World.drew _) _ _ _),J.both.drew,zi,(N9.out.aL J).b_,(N8.out.aL J).b_⟩
 clear N9 N8 or J B;apply aj.RP rfl rfl rfl 72 rfl rfl
 .
  intro D v' W' hc hj hf K hK;have c0:W'.cell? ⟨w.heap.size+1+1,0,none⟩=some (Cx b7):=hj.1.c 0 rfl;have c1:W'.cell? ⟨w.heap.size+1+1,1,none⟩=some (Cq a7 n7 c7):=hj.1.c 1 rfl;go_step;exact hK.out
 . rfl
 apply aj.RP rfl rfl rfl 73 rfl rfl
 .
  intro D v' W' hc hj hf K hK;have c0:W'.cell? ⟨w.heap.size+1+1+1,0,none⟩=some (Cx b8):=hj.2.1.c 0 rfl;have c1:W'.cell? ⟨w.heap.size+1+1+1,1,none⟩=some (Cq a8 n8 c8):=hj.2.1.c 1 rfl;go_step;exact hK.out
 . rfl
 refine aj.aK 74 ?_;refine aj.dE (fun D v' W' hc hj hf K hK=> ?_) (fun _ _=>aj.aD (b:=⟨_,[]⟩) rfl ?_)
 .
  obtain⟨h1,h2,h3,h4,h5⟩:=hj;have c0:W'.cell? ⟨w.heap.size+1+1,0,none⟩=some (Cx b7):=h1.c 0 rfl;have c1:W'.cell? ⟨w.heap.size+1+1,1,none⟩=some (Cq a7 n7 c7):=h1.c 1 rfl;have ff:=h1.fr;go_step;exact hK.out undef _ aj.any ⟨h1.both,(h2.aG B_).aG B_,(Below.setCell (p:=⟨w.heap.size+1+1,1,none⟩) (Below.setCell (p:=⟨w.heap.size+1+1,0,none⟩) h3 (show w.heap.size<=w.heap.size+1+1 by omega) _) (show w.heap.size<=w.heap.size+1+1 by omega) _),h4.aL h1,h5.aL h1⟩ aj.none_ trivial
 refine aj.dE (fun D v' W' hc hj hf K hK=> ?_) (fun _ _=>aj.aD (b:=⟨_,[]⟩) rfl ?_)
 .
  obtain⟨h1,h2,h3,h4,h5⟩:=hj;have c0:W'.cell? ⟨w.heap.size+1+1+1,0,none⟩=some (Cx b8):=h2.c 0 rfl;have c1:W'.cell? ⟨w.heap.size+1+1+1,1,none⟩=some (Cq a8 n8 c8):=h2.c 1 rfl;have ff:=h2.fr;go_step;exact hK.out undef _ aj.any ⟨(h1.aG B_).aG B_,h2.both,(Below.setCell (p:=⟨w.heap.size+1+1+1,1,none⟩) (Below.setCell (p:=⟨w.heap.size+1+1+1,0,none⟩) h3 (show w.heap.size<=w.heap.size+1+1+1 by omega) _) (show w.heap.size<=w.heap.size+1+1+1 by omega) _),h4.aL h2,h5.aL h2⟩ aj.none_ trivial
 refine aj.aK 6 ?_;refine aj.aH (fun Dn v' W' hd hj hf=> ?_);clear hd hf;refine hQ _ _ ?_;clear hQ dy Q' cN;obtain⟨h1,h2,h3,h4,h5⟩:=hj;have N:W'.cell? ⟨w.heap.size+1+1,0,none⟩=some (Cx b7):=h1.c 0 rfl;have M:W'.cell? ⟨w.heap.size+1+1,1,none⟩=some (Cq a7 n7 c7):=h1.c 1 rfl;have fr:=h1.fr;have lr:=h1.lt;have H:W'.cell? ⟨w.heap.size+1+1+1,0,none⟩=some (Cx b8):=h2.c 0 rfl;have I:W'.cell? ⟨w.heap.size+1+1+1,1,none⟩=some (Cq a8 n8 c8):=h2.c 1 rfl;have ft:=h2.fr;have lt:=h2.lt
 go_wp2
 refine Ci (by simp[results,Tryz.results132,go_sem,N,M,fr,lr,H,I,ft,lt]; rfl) rfl ?_;exact⟨_,_,rfl,h4,h5,h3⟩
theorem Qo (w:Cc) (ha:az w va x) (hb:az w vb y) (fx:fits x) (fy:fits y) (hy:y≠0) (bq:¬(decide (x<0)=decide (y<0))) (hZ:zh x%zh y=0) :
  Cb Ch 132 #[va,vb] w fun e E=>∃q r,e = Cg (Ck #[q,r,Cz Cv 0])/\az E q (yO x y)/\az E r (y9 x y)/\zf w E:=by
 have ck:∀ (E:Cc) (q:Nat) (aa ab:Option Addr) (ca cb:Nat),ai E q 26 #[Cx (decide (x<0)),Cq aa (zn (zh x)).length ca,Cx (decide (y<0)),Cq ab (zn (zh y)).length cb]->aA E (Cq aa (zn (zh x)).length ca) (zn (zh x))->aA E (Cq ab (zn (zh y)).length cb) (zn (zh y))->
   Cb Ch 93 #[Cq (some ⟨q,0,none⟩) 2 2] E fun e w2=>e = Cg (Cz Cv 0)/\zf E w2:=fun E q aa ab ca cb hb H I=>xh E hb H I fx fy
 have F:=jB (x:=x) hy;have fq:fits (yO x y):=yj F.1 fx;have bt:fits (y9 x y):=yj F.2.1 fy;have cx:0<zh y:=by unfold zh; omega
 have q0:0<=zh x / zh y:=Int.ediv_nonneg (zt x) B_;have m0:=Int.emod_nonneg (zh x) (show zh y≠0 by omega);have m1:=Int.emod_lt_of_pos (zh x) cx;have lq:(zn (zh x / zh y)).length<=4096:=Nat.le_trans (yI q0 F.2.2.1) fx;have d9:(zn (zh x%zh y)).length<=4096:=Nat.le_trans (yI m0 F.2.2.2) fy;obtain⟨aa,ca,rfl,pa⟩:=ha.parts;obtain⟨ab,cb,rfl,pb⟩:=hb.parts;have bh:=fun(E:Cc) (q:Nat)=>ck E q aa ab ca cb
 have dv:∀E,zf w E->Cb Ch 135 #[Cq aa (zn (zh x)).length ca,Cq ab (zn (zh y)).length cb] E fun e w2=>∃q r,e = Cg (Ck #[q,r])/\aA w2 q (zn (zh x / zh y))/\aA w2 r (zn (zh x%zh y))/\zf E w2:=fun E h=>
  v9 E (pa.ae h) (pb.ae h) (zt x) B_ (by unfold fits at fx; omega) (by unfold fits at fy; omega)
 have y0:0<(zn (zh y)).length:=List.length_pos_iff.2 (fun e=>by have:=(zT (zt y)).1 e; omega);have VY:=zA (zt y);have Y1:(zn (zh y)).length<=4096:=fy;unfold fits at fx fy;obtain⟨n,hn⟩:∃n,(zn (zh x)).length=n:=⟨_,rfl⟩;obtain⟨m,hm⟩:∃m,(zn (zh y)).length=m:=⟨_,rfl⟩;rw[hn]at pa dv|-;rw[hm]at pb dv y0 Y1|-;simp only[hn,hm]at bh;obtain⟨gx,bg⟩:∃b,decide (x<0)=b:=⟨_,rfl⟩;obtain⟨gy,bf⟩:∃b,decide (y<0)=b:=⟨_,rfl⟩;have HS:Hid (decide (x<0)=gx/\decide (y<0)=gy):=⟨bg,bf⟩;rw[bg,bf]at bq|-;simp only[bg,bf]at bh;have VQ:=zA q0;have VR:=zA m0;have bi:(zn (zh x%zh y)).length=0↔zh x%zh y=0:=List.length_eq_zero_iff.trans (zT m0);have DS:=(kC bg bf bq hy).1 hZ;have cY:gx = !gy:=by cases gx<;>cases gy<;>simp_all
 have cy:∀E v l,aA E v l->zj l=zh x / zh y->l.length<=aE->Cb Ch 94 #[Cx true,v] E fun e w2=>∃v',e = Cg (Ck #[v',Cz Cv 0])/\az w2 v' (yO x y)/\zf E w2:=fun E v l h H I=>by
  have:=xG true E h I;rw[H,show zv true (zh x / zh y)=yO x y from by exact DS.1.symm,zK fq,zG fq]at this;exact this
 have dc:∀E v l,aA E v l->zj l=zh x%zh y->l.length<=aE->Cb Ch 94 #[Cx gy,v] E fun e w2=>∃v',e = Cg (Ck #[v',Cz Cv 0])/\az w2 v' (y9 x y)/\zf E w2:=fun E v l h H I=>by
  have:=xG gy E h I;rw[H,show zv gy (zh x%zh y)=y9 x y from by rw[DS.2,hZ]; subst cY; cases gy<;>rfl,zK bt,zG bt]at this;exact this
 have HF:=C5 (C6 VQ (C6 VR (C6 lq (C6 d9 VY))));have HM:=C5 (C6 m1 (C6 hm m0));obtain⟨k,hk⟩:∃k,(zn (zh x%zh y)).length=k:=⟨_,rfl⟩;rw[hk]at bi;have dl:k=0:=bi.2 hZ;have HK:=C5 hk;clear ha hb hn hm bg bf fx fy ck DS F cx q0 m0 m1 lq d9 VY VQ VR hy bi hk hZ fq bt;subst cY;subst dl;clear bq
 go_enter Tryz.func132,Tryz.ntmps132
 go_wp2_with fail
 refine(bh _ _ Xh (pa.ae zi) (pb.ae zi)).mono ?_;rintro e w1 ⟨rfl,st⟩;have Bn:=bA w st;have oa:ai w1 w.heap.size 26 #[Cx (!gy),Cq aa n ca]:=ai.aw st;have ob:ai w1 (w.heap.size+1) 26 #[Cx gy,Cq ab m cb]:=ai.aw st;have or:ai w1 (w.heap.size+1+1) 26 #[Cx false,Cq none 0 0]:=ai.aw st;have N:ai w1 (w.heap.size+1+1+1) 26 #[Cx false,Cq none 0 0]:=ai.aw st;clear st;have B:=Bn;clear Bn;obtain⟨a9,be,fa,la⟩:=oa.s1;obtain⟨b9,ah,fb,lb⟩:=ob.s1;obtain⟨Z,Y,fr,lr⟩:=or.s1;obtain⟨J,M,ft,lt⟩:=N.s1;clear bh;go_wp2_with fail
 refine(dv _ B).mono ?_;rintro e w2 ⟨sq,sr,rfl,hq,hr,st⟩;have Bn:=bA w st;have na:=oa.aN st;have nb:=ob.aN st;have nr:=or.aN st;have nt:=N.aN st;clear B oa ob or N a9 be fa la b9 ah fb lb Z Y fr lr J M ft lt;clear st;have B:=Bn;clear Bn;have oa:=na;clear na;obtain⟨a9,be,fa,la⟩:=oa.s1;have ob:=nb;clear nb;obtain⟨b9,ah,fb,lb⟩:=ob.s1;have or:=nr;clear nr;obtain⟨Z,Y,fr,lr⟩:=or.s1;have N:=nt;clear nt;obtain⟨J,M,ft,lt⟩:=N.s1;clear dv;obtain⟨aq,cq,rfl⟩:=hq.au;obtain⟨ar,cr,rfl⟩:=hr.au;rw[HK.out]at hr|-;obtain⟨nq,ce⟩:∃k,(zn (zh x / zh y)).length=k:=⟨_,rfl⟩;rw[ce]at hq|-;have dy:=C5 ce;clear ce;go_wp2_with fail
 refine(cy _ _ _ hq HF.out.1 (by have:=HF.out.2.2.1; unfold aE; omega)).mono ?_;rintro e w3 ⟨v7,rfl,bl,ci⟩;have st:zf _ w3:=ci;have Bn:=bA w st;have na:=oa.aN st;have nb:=ob.aN st;have nr:=or.aN st;have nt:=N.aN st;clear B oa ob or N a9 be fa la b9 ah fb lb Z Y fr lr J M ft lt;clear st;have B:=Bn;clear Bn;have oa:=na;clear na;obtain⟨a9,be,fa,la⟩:=oa.s1;have ob:=nb;clear nb;obtain⟨b9,ah,fb,lb⟩:=ob.s1;have or:=nr;clear nr;obtain⟨Z,Y,fr,lr⟩:=or.s1;have N:=nt;clear nt;obtain⟨J,M,ft,lt⟩:=N.s1;clear cy;have dx:=hr.ae ci;clear hr hq;obtain⟨b7,a7,n7,c7,rfl⟩:=bl.au;have N7:=C5 bl;clear bl;have dk:=or;go_wp2_with fail
 refine(dc _ _ _ (aA.aL dx or) HF.out.2.1 (by have:=HF.out.2.2.2.1; unfold aE; omega)).mono ?_;rintro e w4 ⟨v8,rfl,br,dd⟩;have st:zf _ w4:=dd;have Bn:=bA w st;have na:=oa.aN st;have nb:=ob.aN st;replace or:ai w4 (w.heap.size+1+1) 26 #[Cx b7,Cq a7 n7 c7]:=ai.aw st;have nt:=N.aN st;clear B oa ob N a9 be fa la b9 ah fb lb Z Y fr lr J M ft lt;clear st;have B:=Bn;clear Bn;have oa:=na;clear na;obtain⟨a9,be,fa,la⟩:=oa.s1;have ob:=nb;clear nb;obtain⟨b9,ah,fb,lb⟩:=ob.s1;obtain⟨Z,Y,fr,lr⟩:=or.s1;have N:=nt;clear nt;obtain⟨J,M,ft,lt⟩:=N.s1;clear dc;have N9:=C5 ((N7.out.aL dk).ae dd);clear dk;obtain⟨b8,a8,n8,c8,rfl⟩:=br.au;have N8:=C5 br;clear br;go_wp2_with fail
 clear a9 be fa la b9 ah fb lb
 refine aj.aM (fun D v W=>ai W (w.heap.size+1+1) 26 #[Cx b7,Cq a7 n7 c7]/\ai W (w.heap.size+1+1+1) 26 #[Cx b8,Cq a8 n8 c8]/\Below w.heap.size w W/\az W (.agg #[Cx b7,Cq a7 n7 c7]) (yO x y)/\az W (.agg #[Cx b8,Cq a8 n8 c8]) (y9 x y))
  (aj.inl [3,4]) (aj.ge []) aj.aU (fun _=>aj.Any) (fun _ _=>False) (aj.pl []) (aj.pl []) B' B' B' (aj.bX _) (fun v=> ?_) (fun _ _ _ _ _ h=>h) (fun _ _ _ _ _ _ _ _ _ _ _ _ _=>aj.none_) (fun _ _ _ _ h=>h.elim) (fun cg Q' cN hQ=> ?_)
 . exact⟨(((or.aG B_).aG B_).drew:ai (World.drew _) _ _ _),N.both.drew,zi,(N9.out.aL N).b_,(N8.out.aL N).b_⟩
 clear N9 N8 or N B;apply aj.RP rfl rfl rfl 72 rfl rfl
 .
  intro D v' W' hc hj hf K hK;have c0:W'.cell? ⟨w.heap.size+1+1,0,none⟩=some (Cx b7):=hj.1.c 0 rfl;have c1:W'.cell? ⟨w.heap.size+1+1,1,none⟩=some (Cq a7 n7 c7):=hj.1.c 1 rfl;go_step;exact hK.out
 . rfl
 apply aj.RP rfl rfl rfl 73 rfl rfl
 .
  intro D v' W' hc hj hf K hK;have c0:W'.cell? ⟨w.heap.size+1+1+1,0,none⟩=some (Cx b8):=hj.2.1.c 0 rfl;have c1:W'.cell? ⟨w.heap.size+1+1+1,1,none⟩=some (Cq a8 n8 c8):=hj.2.1.c 1 rfl;go_step;exact hK.out
 . rfl
 refine aj.aK 74 ?_;refine aj.dE (fun D v' W' hc hj hf K hK=> ?_) (fun _ _=>aj.aD (b:=⟨_,[]⟩) rfl ?_)
 .
  obtain⟨H,I,h3,h4,h5⟩:=hj;have c0:W'.cell? ⟨w.heap.size+1+1,0,none⟩=some (Cx b7):=H.c 0 rfl;have c1:W'.cell? ⟨w.heap.size+1+1,1,none⟩=some (Cq a7 n7 c7):=H.c 1 rfl;have ff:=H.fr;go_step;exact hK.out undef _ aj.any ⟨H.both,(I.aG B_).aG B_,(Below.setCell (p:=⟨w.heap.size+1+1,1,none⟩) (Below.setCell (p:=⟨w.heap.size+1+1,0,none⟩) h3 (show w.heap.size<=w.heap.size+1+1 by omega) _) (show w.heap.size<=w.heap.size+1+1 by omega) _),h4.aL H,h5.aL H⟩ aj.none_ trivial
 refine aj.dE (fun D v' W' hc hj hf K hK=> ?_) (fun _ _=>aj.aD (b:=⟨_,[]⟩) rfl ?_)
 .
  obtain⟨H,I,h3,h4,h5⟩:=hj;have c0:W'.cell? ⟨w.heap.size+1+1+1,0,none⟩=some (Cx b8):=I.c 0 rfl;have c1:W'.cell? ⟨w.heap.size+1+1+1,1,none⟩=some (Cq a8 n8 c8):=I.c 1 rfl;have ff:=I.fr;go_step;exact hK.out undef _ aj.any ⟨(H.aG B_).aG B_,I.both,(Below.setCell (p:=⟨w.heap.size+1+1+1,1,none⟩) (Below.setCell (p:=⟨w.heap.size+1+1+1,0,none⟩) h3 (show w.heap.size<=w.heap.size+1+1+1 by omega) _) (show w.heap.size<=w.heap.size+1+1+1 by omega) _),h4.aL I,h5.aL I⟩ aj.none_ trivial
 refine aj.aK 6 ?_;refine aj.aH (fun Dn v' W' hd hj hf=> ?_);clear hd hf;refine hQ _ _ ?_;clear hQ cN Q' cg;obtain⟨H,I,h3,h4,h5⟩:=hj;have Z:W'.cell? ⟨w.heap.size+1+1,0,none⟩=some (Cx b7):=H.c 0 rfl;have Y:W'.cell? ⟨w.heap.size+1+1,1,none⟩=some (Cq a7 n7 c7):=H.c 1 rfl;have fr:=H.fr;have lr:=H.lt;have J:W'.cell? ⟨w.heap.size+1+1+1,0,none⟩=some (Cx b8):=I.c 0 rfl;have M:W'.cell? ⟨w.heap.size+1+1+1,1,none⟩=some (Cq a8 n8 c8):=I.c 1 rfl;have ft:=I.fr;have lt:=I.lt
 go_wp2
 refine Ci (by simp[results,Tryz.results132,go_sem,Z,Y,fr,lr,J,M,ft,lt]; rfl) rfl ?_;exact⟨_,_,rfl,h4,h5,h3⟩
theorem Jl (w:Cc) (E:az w va x) (I:az w vb y) (H:fits x) (M:fits y) (J:y≠0) :
  Cb Ch 132 #[va,vb] w fun e N=>∃q r,e = Cg (Ck #[q,r,Cz Cv 0])/\az N q (yO x y)/\az N r (y9 x y)/\zf w N:=by
 have Y:=Int.emod_nonneg (zh x) (show zh y≠0 by unfold zh; omega)
 by_cases hs:decide (x<0)=decide (y<0)
 .
  rcases Int.lt_or_le 0 (zh x%zh y)with h | h
  . exact Qm w E I H M J hs h
  . exact Ql w E I H M J hs B_
 .
  rcases Int.lt_or_le 0 (zh x%zh y)with h | h
  . exact Qn w E I H M J hs h
  . exact Qo w E I H M J hs B_
end
end Go.Proofs.YtffmbepfbienaaaGreat
