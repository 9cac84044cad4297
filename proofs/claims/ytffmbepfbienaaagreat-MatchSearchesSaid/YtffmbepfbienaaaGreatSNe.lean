import Derived.Test.YtffmbepfbienaaaGreatSTl
set_option linter.unusedVariables false
set_option linter.unusedSimpArgs false
set_option maxHeartbeats 6400000
set_option maxRecDepth 1000000
open Go.Value renaming slice->Ex,bool->Ez,int->Ey,agg->Ej,tuple->Ev
open Go.IntKind renaming i64->Ew
open Go.Ending renaming returned->Eh
open Go.Proofs.Tryz renaming prog->Ec
open Go renaming Calls->Ed,World->Ee,Value->Ef,bodyPost_ret->En
open Nat renaming le_refl->Eo,lt_or_ge->Ep
open Go.World renaming cell?->Er,size_alloc->Es
open Go.RowKit.Below renaming refl->Et
namespace Go.Proofs.YtffmbepfbienaaaGreat
section
open Go.RowKit
variable {X x y:Int} {va vb:Ef}
theorem jM (w:Ee) (H:az w va x) (J:az w vb y) (I:fits x) (E:fits y) :
  Ed Ec 156 #[va,vb] w fun e M=>e = Eh (Ey Ew 0)/\zf w M:=by
 obtain⟨sa,rfl,la⟩:=H;obtain⟨sb,rfl,lb⟩:=J;have:=GV (decide (x<0)) (decide (y<0)) w la lb;have e:yZ (zS (decide (x<0)) (zp (zi x))/\zS (decide (y<0)) (zp (zi y)))=0:=E8 ⟨xD I,xD E⟩;rw[e]at this;exact this
def yv (x y:Int):Int:=((Int.gcd x y:Nat):Int)
theorem QO (x y:Int):yv (zi x) (zi y)=yv x y:=by unfold yv zi; simp[Int.gcd]
theorem Xs {Y:Int} (h0:0<=X) (E:1<=Y):yv Y (X%Y)=yv X Y:=by
 unfold yv;obtain⟨a,rfl⟩:=Int.eq_ofNat_of_zero_le h0;obtain⟨b,rfl⟩:=Int.eq_ofNat_of_zero_le (show 0<=Y by omega);have e:((a:Int)%(b:Int))=((a%b:Nat):Int):=by simp
 rw[e];simp only[Int.gcd,Int.natAbs_natCast];rw[Nat.gcd_comm b,<- Nat.gcd_rec,Nat.gcd_comm]
theorem Xt (h0:0<=X):yv X 0=X:=by unfold yv; simp[Int.gcd]; omega
theorem xe (H:0<=x) (E:x<=y):(zp x).length<=(zp y).length:=by
 rcases Ep (zp y).length (zp x).length with g | g
 . have:=yn (show 0<=y by omega) H g; omega
 . exact g
theorem jg (h:0<=X):zi X=X:=by unfold zi; omega
theorem UA {a d:Ef} {A D:Int} (w:Ee) (E:aA w a (zp A)) (hd:aA w d (zp D)) (I:0<=A) (H:1<=D) (J:(zp A).length<=zP) (N:(zp D).length<=zP) :
  Ed Ec 157 #[a,d] w fun e M=>∃q r,e = Eh (Ev #[q,r])/\aA M q (zp (A / D))/\aA M r (zp (A%D))/\zf w M:=by
 rcases Int.lt_or_le A D with h | h
 . exact Uq w E hd I H J N h
 .
  have Y:zp D≠ []:=fun e=>by have:=(zY (show 0<=D by omega)).1 e; omega
  have Z:=List.length_pos_iff.2 Y
  rcases Ep (zp D).length 2 with g | g
  . exact VB w E hd I H J D5 h
  . exact JI (m:=(zp D).length-2) w E hd I H J D5 h
theorem Bg (w:Ee) (ha:az w va x) (hb:az w vb y) (fx:fits x) (fy:fits y) :
  Ed Ec 125 #[va,vb] w fun e M=>∃v,e = Eh (Ev #[v,Ey Ew 0])/\az M v (yv x y)/\fits (yv x y)/\zf w M:=by
 have bo:∀M,zf w M->Ed Ec 156 #[va,vb] M fun e w2=>e = Eh (Ey Ew 0)/\zf M w2:=fun M h=>jM M (ha.ae h) (hb.ae h) fx fy;obtain⟨aa,ca,rfl,pa⟩:=ha.parts;obtain⟨ab,cb,rfl,pb⟩:=hb.parts;unfold fits at fx fy;obtain⟨n,hn⟩:∃n,(zp (zi x)).length=n:=⟨_,rfl⟩;obtain⟨m,hm⟩:∃m,(zp (zi y)).length=m:=⟨_,rfl⟩;rw[hn]at pa bo|-;rw[hm]at pb bo|-;obtain⟨gx,bi⟩:∃b,decide (x<0)=b:=⟨_,rfl⟩;obtain⟨gy,cg⟩:∃b,decide (y<0)=b:=⟨_,rfl⟩;rw[bi,cg]at bo|-;have HN:=E6 (E7 hn hm);have HF:=E6 (E7 fx fy);clear ha hb hn hm bi cg fx fy
 go_enter Tryz.func125,Tryz.ntmps125
 go_wp2_with fail
 refine(bo _ zh).mono ?_;rintro e H ⟨rfl,co⟩;have st:zf _ H:=co;have Bn:=bA w st;have oa:ai H w.heap.size 26 #[Ez gx,Ex aa n ca]:=ai.aw st;have ob:ai H (w.heap.size+1) 26 #[Ez gy,Ex ab m cb]:=ai.aw st;have or:ai H (w.heap.size+1+1) 26 #[Ez false,Ex none 0 0]:=ai.aw st;clear st;have B:=Bn;clear Bn;obtain⟨a9,aY,fa,la⟩:=oa.s1;obtain⟨bg,aX,fb,lb⟩:=ob.s1;obtain⟨bh,be,fr,lr⟩:=or.s1;clear bo;go_wp2_with fail
 go_quiet (fail)
 go_wp2_with fail
 have cn:=pa.ae B;have bt:=pb.ae B;rename Ee=>H
 go_loopg [6,7,8,9] (zi y).toNat (fun k vx vy q r wr=>∃ (X Y:Int) (ax ay:Option Addr) (cx cy:Nat),0<=X/\0<=Y/\k=Y.toNat/\vx = Ex ax (zp X).length cx/\vy = Ex ay (zp Y).length cy/\aA wr vx (zp X)/\aA wr vy (zp Y)/\(zp X).length<=4096/\(zp Y).length<=4096/\yv X Y=yv x y/\zf H wr)
 case atStart=>exact⟨zi x,zi y,aa,ab,ca,cb,zA _,zA _,rfl,by rw[HN.out.1],by rw[HN.out.2],cn,bt,HF.out.1,HF.out.2,QO x y,by show Below _ _ _; first | exact yX (Et _ _) _ | exact Et _ _⟩
 case round=>
  obtain⟨X,Y,ax,ay,cx,cy,X0,Y0,rfl,rfl,rfl,lx,ly,nx,ny,hg,E⟩:=hrel;have HG:=E6 hg;obtain⟨p,N⟩:∃p,(zp X).length=p:=⟨_,rfl⟩;obtain⟨q,J⟩:∃q,(zp Y).length=q:=⟨_,rfl⟩;have Z:=E6 (E7 N J);rw[N]at lx nx;rw[J]at ly ny;simp only[N,J]
  rcases Int.lt_or_le 0 Y with hy | hy
  .
   have q0:0<q:=by rw[<- J]; exact List.length_pos_iff.2 (fun e=>by have:=(zY Y0).1 e; omega)
   have ov:=UA wr lx ly X0 D5 (by rw[N]; unfold zP; omega) (by rw[J]; unfold zP; omega);clear hg N J lx;go_wp2_with fail
   refine ov.mono ?_;rintro e w2 ⟨sq,sr,rfl,cN,b9,ce⟩;obtain⟨ar,cr,cU⟩:=b9.ak;have HR:=E6 b9;have HY:=E6 (ly.ae ce);subst cU;clear b9 cN ly ov;have m0:=Int.emod_nonneg X (show Y≠0 by omega);have m1:=Int.emod_lt_of_pos X hy;have nr:=xe m0 (show X%Y<=Y by omega)
   go_wp2
   go_roundg (X%Y).toNat
   case measure=>omega
   case rel=>exact⟨Y,X%Y,ay,ar,cy,cr,by omega,m0,rfl,by rw[Z.out.2],rfl,HY.out,HR.out,by rw[Z.out.2]; exact ny,by have:=Z.out.2; omega,by rw[Xs X0 D5]; exact HG.out,E.trans (ce.mono E.size)⟩
  .
   obtain rfl:Y=0:=D5
   have q0:q=0:=by rw[<- J]; rfl
   subst q0;rw[Xt X0]at hg;have mk:=qY false wr lx (by rw[N]; unfold zP; omega);have hv:=zD X0;have I:fits X:=by unfold fits; rw[jg X0,N]; exact nx
   rw[hv]at mk;rw[show zv false X=X from rfl,zM I,zH I]at mk;have HE:=E6 (E7 hg I);have B2:Below w.heap.size w wr:=zt B (Eo _) E;have bl:=oa.ae E;have ci:=ob.ae E;have br:=or.ae E;clear hg N J hv I lx ly cn bt a9 aY fa la bg aX fb lb bh be fr lr oa ob or B;have B:=B2;have oa:=bl;have ob:=ci;have or:=br;clear bl ci br B2;go_wp2_with fail
   refine(mk).mono ?_;rintro e H ⟨v1,rfl,ah,st⟩;have Bn:=bA w st;replace oa:ai H w.heap.size 26 #[Ez gx,Ex aa n ca]:=ai.aw st;replace ob:ai H (w.heap.size+1) 26 #[Ez gy,Ex ab m cb]:=ai.aw st;replace or:ai H (w.heap.size+1+1) 26 #[Ez false,Ex none 0 0]:=ai.aw st;clear B;clear st;have B:=Bn;clear Bn;obtain⟨a9,aY,fa,la⟩:=oa.s1;obtain⟨bg,aX,fb,lb⟩:=ob.s1;obtain⟨bh,be,fr,lr⟩:=or.s1;obtain⟨bb,ao,k,c,rfl⟩:=ah.ak;have HV:=E6 ah;clear ah
   go_wp2
   refine En (by simp[results,Tryz.results125,go_sem,a9,aY,fa,la,bg,aX,fb,lb,bh,be,fr,lr]; rfl) rfl ?_;exact⟨_,rfl,by rw[<- HE.out.1]; exact HV.out.aN or,by rw[<- HE.out.1]; exact HE.out.2,zh⟩
theorem Y_ {a b:Bool} (h:a=b):Ending.returned (Ez a) = Eh (Ez b):=by rw[h]
theorem UB (w:Ee) (Z:az w va x) (hb:az w vb y) (fx:fits x) (N:fits y) :
  Ed Ec 44 #[va,vb] w fun e M=>e = Eh (Ez (decide (x=y)))/\zf w M:=by
 obtain⟨aa,ca,rfl,pa⟩:=Z.parts;obtain⟨ab,cb,rfl,pb⟩:=hb.parts
 have H:∀M,zf w M->Ed Ec 85 #[Ex aa (zp (zi x)).length ca,Ex ab (zp (zi y)).length cb] M fun e w2=>e = Eh (Ey Ew (zL (zi x) (zi y)))/\zf M w2:=fun M h=>
  qO M (pa.ae h) (pb.ae h) (zA x) (zA y) (by unfold fits at fx; unfold zP; omega) (by unfold fits at N; unfold zP; omega)
 have X:=yf x;have Y:=yf y;have C:=jV (zi x) (zi y);obtain⟨c,hc⟩:∃c,zL (zi x) (zi y)=c:=⟨_,rfl⟩;rw[hc]at H C;obtain⟨n,hn⟩:∃n,(zp (zi x)).length=n:=⟨_,rfl⟩;obtain⟨m,hm⟩:∃m,(zp (zi y)).length=m:=⟨_,rfl⟩;rw[hn]at H|-;rw[hm]at H|-;obtain⟨gx,I⟩:∃b,decide (x<0)=b:=⟨_,rfl⟩;obtain⟨gy,J⟩:∃b,decide (y<0)=b:=⟨_,rfl⟩;rw[I,J]
 by_cases hs:gx=gy
 .
  subst hs
  have E:Hid ((c==0)=decide (x=y)):=by
   show (c==0)=decide (x=y)
   have:(x<0↔y<0):=by
    have h1:=I.trans J.symm;simpa using h1
   by_cases h0:c=0
   . rw[h0,E_ (show x=y by omega)]; rfl
   . rw[E' (show ¬x=y by omega)]; simp[h0]
  clear hc hn hm I J X Y C pa pb Z hb fx N
  go_enter Tryz.func44,Tryz.ntmps44
  cases gx
  all_goals
   go_wp2_with fail
   refine(H _ zh).mono ?_;rintro e w1 ⟨rfl,a9⟩;clear H
   go_wp2
   go_returns
   exact⟨Y_ E.out,(show Below _ _ _ from zh).trans (a9.mono (by simp only[Es]; omega))⟩
 .
  have E:Hid (decide (x=y)=false):=by
   show decide (x=y)=false
   simp;rintro rfl;exact hs (I.symm.trans J)
  have ah:(gx==gy)=false:=by simp[hs]
  clear hc hn hm I J X Y C pa pb Z hb fx N H hs
  go_enter Tryz.func44,Tryz.ntmps44
  go_wp2
  go_returns
  exact⟨Y_ E.out.symm,zh⟩
def Dj (z:Int):Int:=if -9223372036854775808<=z/\z<9223372036854775808 then 0 else 16
def Dm (z:Int):Int:=if -9223372036854775808<=z/\z<9223372036854775808 then z else 0
end
section
open Go.RowKit
variable {na:Bool} {x y:Int} {la:List Int} {B:Nat} {T:TypeId} {sa sb va vb:Ef}
theorem Do (w:Ee) (ha:az w va x) (hb:az w vb y) (fx:fits x) (fy:fits y) :
  Ed Ec 100 #[va,vb] w fun e w'=>e = Eh (Ey Ew (zL x y))/\zf w w':=by
 obtain⟨aa,ca,rfl,pa⟩:=ha.parts;obtain⟨ab,cb,rfl,pb⟩:=hb.parts;unfold fits at fx fy;have nx:(zp (zi x)).length<=zP:=by unfold zP; omega
 have ny:(zp (zi y)).length<=zP:=by unfold zP; omega
 obtain⟨n,Y⟩:∃n,(zp (zi x)).length=n:=⟨_,rfl⟩;obtain⟨m,Z⟩:∃m,(zp (zi y)).length=m:=⟨_,rfl⟩;rw[Y]at pa|-;rw[Z]at pb|-;clear ha hb
 rcases Int.lt_or_le x 0 with M | M
 .
  have J:decide (x<0)=true:=by simp[M]
  rcases Int.lt_or_le y 0 with I | I
  .
   have H:decide (y<0)=true:=by simp[I]
   have E:=E6 (Qy x y M I);rw[J,H];clear Y Z J H M I
   go_enter Tryz.func100,Tryz.ntmps100
   go_wp2_with fail
   refine(qP _ (pb.ae zh) (pa.ae zh) (zA _) (zA _) ny nx).mono ?_;rintro e w1 ⟨rfl,N⟩
   go_wp2
   go_returns
   exact⟨yK E.out,(show Below _ _ _ from zh).trans (N.mono (by simp only[Es]; omega))⟩
  .
   have H:decide (y<0)=false:=by simp; omega
   have E:Hid (zL x y = -1):=by show zL x y = -1; unfold zL; rw[E9 D5,E8 D5]
   rw[J,H];clear Y Z J H M I
   go_enter Tryz.func100,Tryz.ntmps100
   go_wp2
   go_returns
   exact⟨yK E.out.symm,zh⟩
 .
  have J:decide (x<0)=false:=by simp; omega
  rcases Int.lt_or_le y 0 with I | I
  .
   have H:decide (y<0)=true:=by simp[I]
   have E:Hid (zL x y=1):=by show zL x y=1; unfold zL; rw[E9 D5,E9 D5]
   rw[J,H];clear Y Z J H M I
   go_enter Tryz.func100,Tryz.ntmps100
   go_wp2
   go_returns
   exact⟨yK E.out.symm,zh⟩
  .
   have H:decide (y<0)=false:=by simp; omega
   have E:=E6 (Qz x y M I);rw[J,H];clear Y Z J H M I
   go_enter Tryz.func100,Tryz.ntmps100
   go_wp2_with fail
   refine(qP _ (pa.ae zh) (pb.ae zh) (zA _) (zA _) nx ny).mono ?_;rintro e w1 ⟨rfl,N⟩
   go_wp2
   go_returns
   exact⟨yK E.out,(show Below _ _ _ from zh).trans (N.mono (by simp only[Es]; omega))⟩
theorem UC (w:Ee) (I:az w va x):Ed Ec 97 #[va] w fun e N=>e = Eh (Ez (decide (x=0)))/\zf w N:=by
 obtain⟨aa,ca,rfl,M⟩:=I.parts;have h0:=zY (zA x);obtain⟨n,H⟩:∃n,(zp (zi x)).length=n:=⟨_,rfl⟩;rw[H]
 have E:Hid (((n:Int)==0)=decide (x=0)):=by
  show ((n:Int)==0)=decide (x=0)
  have J:n=0↔x=0:=by
   rw[<- H,List.length_eq_zero_iff,h0]; unfold zi; omega
  by_cases h:x=0
  . rw[E_ h,J.2 h]; rfl
  .
   have:¬n=0:=fun e=>h (J.1 e);rw[E' h]; simp[this]
 clear H h0 I M
 go_enter Tryz.func97,Tryz.ntmps97
 go_wp2
 go_returns
 exact⟨Y_ E.out,(show Below _ _ _ from(Et _ _).alloc (Eo _) _)⟩
theorem Ze {p:Prop} [Decidable p]:yZ p=if p then 0 else 8:=rfl
theorem UD {n cap:Nat} {ng:Nat->Bool} {sv:Nat->Ef} {ls:Nat->List Int} (w:Ee) (hn:n<=1000) (hB:B<w.heap.size)
  (hc:∀k,k<n->w.cell? ⟨B,k*2,none⟩=some (Ez (ng k))/\w.cell? ⟨B,k*2+1,none⟩=some (sv k)/\aA w (sv k) (ls k)) :
  Ed Ec 93 #[Ex (some ⟨B,0,none⟩) n cap] w fun e w'=>(e = Eh (Ey Ew 0)/\(∀k,k<n->zS (ng k) (ls k))\/e = Eh (Ey Ew 8)/\∃k,k<n/\¬zS (ng k) (ls k))/\zf w w':=by
 go_enter Tryz.func93,Tryz.ntmps93
 go_wp2
 go_loopw [4,5,8] (fun p l kk wr=>∃k:Nat,k<=n/\kk = Ey Ew k/\(∀i,i<k->zS (ng i) (ls i))/\Below w.heap.size w wr) (fun _ _ k _=>n-(intOf k).toNat)
 case atStart=>exact⟨0,Nat.zero_le _,rfl,fun i h=>absurd h (Nat.not_lt_zero i),Et _ _⟩
 case round=>
  obtain⟨k,hk,rfl,hv,H⟩:=hrel;have Z:=H.size
  rcases Ep k n with h1 | h1
  .
   obtain⟨c1,c2,hL⟩:=hc k h1;have be:=(H.cell (p:=⟨B,k*2,none⟩) hB).trans c1;have b9:=(H.cell (p:=⟨B,k*2+1,none⟩) hB).trans c2;obtain⟨g,hg⟩:∃g,ng k=g:=⟨_,rfl⟩;obtain⟨l,hl⟩:∃l,ls k=l:=⟨_,rfl⟩;rw[hl]at hL;obtain⟨ao,lc,Y⟩:=hL.ak;rw[Y]at hL b9;rw[hg]at be;obtain⟨ok,-,a9,fc⟩:=hL.cells;obtain⟨len,E⟩:∃m,l.length=m:=⟨_,rfl⟩;rw[E]at b9 a9 fc;have aY:¬zS g l->∃k,k<n/\¬zS (ng k) (ls k):=fun h=>⟨k,h1,by rw[hg,hl]; exact h⟩
   have J:zS g l->∀i,i<k+1->zS (ng i) (ls i):=fun h i N=>by
    rcases Ep i k with q | q
    . exact hv i q
    .
     obtain rfl:i=k:=D5
     rw[hg,hl]; exact h
   have aX:=E6 J;have M:=E6 aY;have HN:=E6 H;clear c1 c2 hc hL Y hg hl J aY hv
   rcases Ep 4096 len with q1 | q1
   .
    have I:=E6 (M.out (fun h=>by have:=h.1; omega));clear fc
    go_wp2
    go_returns
    exact⟨Or.inr ⟨rfl,I.out⟩,HN.out.alloc Z _⟩
   .
    match len,E with
    | 0,E=>
     obtain rfl:=List.eq_nil_of_length_eq_zero E;clear fc
     cases g
     .
      have I:=E6 (aX.out ⟨by simp,rfl,fun _=>rfl⟩)
      go_wp2
      go_roundw
      case rel=>exact⟨k+1,by omega,by go_num,I.out,HN.out.alloc Z _⟩
      case measure=>simp[intOf]; omega
     .
      have I:=E6 (M.out (fun h=>by have:=h.2.2 rfl; cases this))
      go_wp2
      go_returns
      exact⟨Or.inr ⟨rfl,I.out⟩,HN.out.alloc Z _⟩
    | j+1,E=>
     obtain⟨b,o,rfl,hb,ah⟩:=fc D5;have N:=Xj E;have g:=ah j D5;obtain⟨x,hx⟩:∃x,l.getD j 0=x:=⟨_,rfl⟩;rw[hx]at g N;have g1:=(H.cell (p:=⟨b,o+j,none⟩) hb).trans g;have bi:b<wr.heap.size:=Nat.lt_of_lt_of_le hb Z;have bh:l≠ []:=by rintro rfl; cases E
     have g2:=E6 g1
     have g3:∀os:Obj,(wr.alloc os).cell? ⟨b,o+j,none⟩=some (Ey .u32 x):=fun os=>by
      rw[<- g1]; exact World.cell?_of_block (Below.heap_alloc _ _ _ bi)
     clear ah fc g
     rcases Int.decEq x 0 with h2 | h2
     .
      have bl:(x==0)=false:=by simp[h2]
      have I:=E6 (aX.out ⟨by omega,N.2 h2,fun e=>absurd e bh⟩);clear N hx
      go_wp2
      go_roundw
      case rel=>exact⟨k+1,by omega,by go_num,I.out,HN.out.alloc Z _⟩
      case measure=>simp[intOf]; omega
     .
      have I:=E6 (M.out (fun h=>N.1 h.2.1 h2));clear N hx;subst h2
      go_wp2
      go_returns
      exact⟨Or.inr ⟨rfl,I.out⟩,HN.out.alloc Z _⟩
  .
   have bg:k=n:=D5
   subst bg;have HV:=E6 hv;clear hv hc
   go_wp2
   go_returns
   exact⟨Or.inl ⟨rfl,HV.out⟩,H⟩
theorem KE {I:Bool} {lb:List Int} (w:Ee) (E:ai w B T #[Ez na,sa,Ez I,sb]) (Y:aA w sa la) (N:aA w sb lb) :
  Ed Ec 93 #[Ex (some ⟨B,0,none⟩) 2 2] w fun e M=>e = Eh (Ey Ew (yZ (zS na la/\zS I lb)))/\zf w M:=by
 have C:=UD (n:=2) (B:=B) (cap:=2) (ng:=fun k=>if k=0 then na else I) (sv:=fun k=>if k=0 then sa else sb) (ls:=fun k=>if k=0 then la else lb) w D5 E.lt (fun k H=>by
  match k,H with
  | 0,_=>exact⟨E.c 0 rfl,E.c 1 rfl,Y⟩
  | 1,_=>exact⟨E.c 2 rfl,E.c 3 rfl,N⟩)
 refine C.mono ?_;rintro e M ⟨⟨rfl,hv⟩ | ⟨rfl,k,H,hv⟩,J⟩
 . exact⟨yK (show (0:Int)=yZ _ from(E8 ⟨hv 0 D5,hv 1 D5⟩).symm),J⟩
 .
  refine⟨yK (show (8:Int)=yZ _ from(E9 (fun h=> ?_)).symm),J⟩
  match k,H,hv with
  | 0,_,hv=>exact hv h.1
  | 1,_,hv=>exact hv h.2
theorem KH (w:Ee) (E:ai w B T #[Ez na,sa]) (M:aA w sa la) :
  Ed Ec 93 #[Ex (some ⟨B,0,none⟩) 1 1] w fun e J=>e = Eh (Ey Ew (yZ (zS na la)))/\zf w J:=by
 have C:=UD (n:=1) (B:=B) (cap:=1) (ng:=fun _=>na) (sv:=fun _=>sa) (ls:=fun _=>la) w D5 E.lt (fun k H=>by
  match k,H with
  | 0,_=>exact⟨E.c 0 rfl,E.c 1 rfl,M⟩)
 refine C.mono ?_;rintro e J ⟨⟨rfl,hv⟩ | ⟨rfl,k,H,hv⟩,I⟩
 . exact⟨yK (show (0:Int)=yZ _ from(E8 (hv 0 D5)).symm),I⟩
 . exact⟨yK (show (8:Int)=yZ _ from(E9 (fun h=>hv h)).symm),I⟩
theorem xG (w:Ee) (J:ai w B T #[Ez (decide (x<0)),sa,Ez (decide (y<0)),sb]) (I:aA w sa (zp (zi x))) (E:aA w sb (zp (zi y))) (M:fits x) (H:fits y) :
  Ed Ec 93 #[Ex (some ⟨B,0,none⟩) 2 2] w fun e N=>e = Eh (Ey Ew 0)/\zf w N:=by
 have:=KE w J I E;rw[show yZ (zS (decide (x<0)) (zp (zi x))/\zS (decide (y<0)) (zp (zi y)))=0 from E8 ⟨xD M,xD H⟩]at this;exact this
theorem Cv (w:Ee) (ha:az w va x) (hb:az w vb y) (fx:fits x) (fy:fits y) :
  Ed Ec 155 #[va,vb] w fun e E=>∃v,e = Eh (Ev #[v,Ey Ew (qX (x+y))])/\az E v (xp (x+y))/\zf w E:=by
 have ck:∀ (E:Ee) (q:Nat) (aa ab:Option Addr) (ca cb:Nat),ai E q 26 #[Ez (decide (x<0)),Ex aa (zp (zi x)).length ca,Ez (decide (y<0)),Ex ab (zp (zi y)).length cb]->aA E (Ex aa (zp (zi x)).length ca) (zp (zi x))->aA E (Ex ab (zp (zi y)).length cb) (zp (zi y))->
   Ed Ec 93 #[Ex (some ⟨q,0,none⟩) 2 2] E fun e w2=>e = Eh (Ey Ew 0)/\zf E w2:=fun E q aa ab ca cb hb h1 h2=>xG E hb h1 h2 fx fy
 have ad:=fun(E:Ee) (h:zf w E)=>Cu E (ha.ae h) (hb.ae h) fx fy;obtain⟨aa,ca,rfl,pa⟩:=ha.parts;obtain⟨ab,cb,rfl,pb⟩:=hb.parts;have H:=fun(E:Ee) (q:Nat)=>ck E q aa ab ca cb;obtain⟨n,hn⟩:∃n,(zp (zi x)).length=n:=⟨_,rfl⟩;obtain⟨m,hm⟩:∃m,(zp (zi y)).length=m:=⟨_,rfl⟩;rw[hn]at pa ad|-;rw[hm]at pb ad|-;simp only[hn,hm]at H;obtain⟨gx,I⟩:∃b,decide (x<0)=b:=⟨_,rfl⟩;obtain⟨gy,J⟩:∃b,decide (y<0)=b:=⟨_,rfl⟩;rw[I,J]at ad|-;simp only[I,J]at H;clear ha hb hn hm I J fx fy ck
 go_enter Tryz.func155,Tryz.ntmps155
 go_wp2_with fail
 refine(H _ _ Qt (pa.ae zh) (pb.ae zh)).mono ?_;rintro e w1 ⟨rfl,st⟩;have Bn:=bA w st;have oa:ai w1 w.heap.size 26 #[Ez gx,Ex aa n ca]:=ai.aw st;have ob:ai w1 (w.heap.size+1) 26 #[Ez gy,Ex ab m cb]:=ai.aw st;have or:ai w1 (w.heap.size+1+1) 26 #[Ez false,Ex none 0 0]:=ai.aw st;clear st;have B:=Bn;clear Bn;obtain⟨aX,Y,fa,la⟩:=oa.s1;obtain⟨a9,N,fb,lb⟩:=ob.s1;obtain⟨ah,Z,fr,lr⟩:=or.s1;clear H;go_wp2_with fail
 refine(ad _ B).mono ?_;rintro e w2 ⟨v2,rfl,M,st⟩;have Bn:=bA w st;have na:=oa.aG st;have nb:=ob.aG st;have nr:=or.aG st;clear B oa ob or aX Y fa la a9 N fb lb ah Z fr lr;clear st;have B:=Bn;clear Bn;have oa:=na;clear na;obtain⟨aX,Y,fa,la⟩:=oa.s1;have ob:=nb;clear nb;obtain⟨a9,N,fb,lb⟩:=ob.s1;have or:=nr;clear nr;obtain⟨ah,Z,fr,lr⟩:=or.s1;clear ad;obtain⟨bb,ao,k,c,rfl⟩:=M.ak;have HV:=E6 M;clear M
 go_wp2
 refine En (by simp[results,Tryz.results155,go_sem,aX,Y,fa,la,a9,N,fb,lb,ah,Z,fr,lr]; rfl) rfl ?_;exact⟨_,rfl,HV.out.aN or,zh⟩
theorem Bh (w:Ee) (ha:az w va x) (hb:az w vb y) (fx:fits x) (fy:fits y) :
  Ed Ec 59 #[va,vb] w fun e E=>e = Eh (Ev #[Ey Ew (zL x y),Ey Ew 0])/\zf w E:=by
 have ck:∀ (E:Ee) (q:Nat) (aa ab:Option Addr) (ca cb:Nat),ai E q 26 #[Ez (decide (x<0)),Ex aa (zp (zi x)).length ca,Ez (decide (y<0)),Ex ab (zp (zi y)).length cb]->aA E (Ex aa (zp (zi x)).length ca) (zp (zi x))->aA E (Ex ab (zp (zi y)).length cb) (zp (zi y))->
   Ed Ec 93 #[Ex (some ⟨q,0,none⟩) 2 2] E fun e w2=>e = Eh (Ey Ew 0)/\zf E w2:=fun E q aa ab ca cb hb h1 h2=>xG E hb h1 h2 fx fy
 have Y:=fun(E:Ee) (h:zf w E)=>Do E (ha.ae h) (hb.ae h) fx fy;obtain⟨aa,ca,rfl,pa⟩:=ha.parts;obtain⟨ab,cb,rfl,pb⟩:=hb.parts;have H:=fun(E:Ee) (q:Nat)=>ck E q aa ab ca cb;obtain⟨n,hn⟩:∃n,(zp (zi x)).length=n:=⟨_,rfl⟩;obtain⟨m,hm⟩:∃m,(zp (zi y)).length=m:=⟨_,rfl⟩;rw[hn]at pa Y|-;rw[hm]at pb Y|-;simp only[hn,hm]at H;obtain⟨gx,I⟩:∃b,decide (x<0)=b:=⟨_,rfl⟩;obtain⟨gy,J⟩:∃b,decide (y<0)=b:=⟨_,rfl⟩;rw[I,J]at Y|-;simp only[I,J]at H;clear ha hb hn hm I J fx fy ck
 go_enter Tryz.func59,Tryz.ntmps59
 go_wp2_with fail
 refine(H _ _ Qt (pa.ae zh) (pb.ae zh)).mono ?_;rintro e w1 ⟨rfl,st⟩;have N:=bA w st;have Z:ai w1 w.heap.size 26 #[Ez gx,Ex aa n ca]:=ai.aw st;have M:ai w1 (w.heap.size+1) 26 #[Ez gy,Ex ab m cb]:=ai.aw st;clear st;have B:=N;clear N;obtain⟨aY,ah,fa,la⟩:=Z.s1;obtain⟨aX,a9,fb,lb⟩:=M.s1;clear H;go_wp2_with fail
 refine(Y _ B).mono ?_;rintro e w2 ⟨rfl,st⟩;have N:=bA w st;have na:=Z.aG st;have nb:=M.aG st;clear B Z M aY ah fa la aX a9 fb lb;clear st;have B:=N;clear N;have Z:=na;clear na;obtain⟨aY,ah,fa,la⟩:=Z.s1;have M:=nb;clear nb;obtain⟨aX,a9,fb,lb⟩:=M.s1;clear Y
 go_wp2
 go_returns
 exact⟨rfl,zh⟩
theorem Bi (w:Ee) (N:az w va x) (Y:az w vb y) (fx:fits x) (fy:fits y) :
  Ed Ec 98 #[va,vb] w fun e M=>e = Eh (Ez (decide (x=y)))/\zf w M:=by
 have I:=fun(M:Ee) (h:zf w M)=>Bh M (N.ae h) (Y.ae h) fx fy;obtain⟨c,hc⟩:∃c,zL x y=c:=⟨_,rfl⟩
 have E:Hid ((c==0)=decide (x=y)):=by
  show (c==0)=decide (x=y)
  have:=jV x y;rw[hc]at this
  by_cases h:x=y
  . rw[E_ h,show c=0 by omega]; rfl
  . rw[E' h]; simp; omega
 rw[hc]at I;obtain⟨aa,ca,rfl,pa⟩:=N.parts;obtain⟨ab,cb,rfl,pb⟩:=Y.parts;obtain⟨n,hn⟩:∃n,(zp (zi x)).length=n:=⟨_,rfl⟩;obtain⟨m,hm⟩:∃m,(zp (zi y)).length=m:=⟨_,rfl⟩;rw[hn,hm]at I|-;obtain⟨gx,H⟩:∃b,decide (x<0)=b:=⟨_,rfl⟩;obtain⟨gy,J⟩:∃b,decide (y<0)=b:=⟨_,rfl⟩;rw[H,J]at I|-;clear N Y hn hm H J fx fy pa pb hc
 go_enter Tryz.func98,Tryz.ntmps98
 go_wp2_with fail
 refine(I _ zh).mono ?_;rintro e Z ⟨rfl,st⟩;have Bn:=bA w st;have oa:ai Z w.heap.size 26 #[Ez gx,Ex aa n ca]:=ai.aw st;have ob:ai Z (w.heap.size+1) 26 #[Ez gy,Ex ab m cb]:=ai.aw st;clear st;have B:=Bn;clear Bn;obtain⟨aY,ah,fa,la⟩:=oa.s1;obtain⟨aX,a9,fb,lb⟩:=ob.s1;clear I
 go_wp2
 go_returns
 exact⟨Y_ E.out,zh⟩
theorem Cw (w:Ee):Ed Ec 99 #[] w fun e M=>∃v,e = Eh v/\az M v 1/\zf w M:=by
 go_enter Tryz.func99,Tryz.ntmps99
 go_wp2_with fail
 refine(Ux 1 _ D5 D5).mono ?_;rintro e N ⟨v2,rfl,E,st⟩;have J:=bA w st;have or:ai N w.heap.size 26 #[Ez false,Ex none 0 0]:=ai.aw st;clear st;have B:=J;clear J;obtain⟨I,H,fr,Y⟩:=or.s1;obtain⟨bb,ao,k,c,rfl⟩:=E.ak;have Z:=E6 E;clear E
 go_wp2
 refine En (by simp[results,Tryz.results99,go_sem,I,H,fr,Y]; rfl) rfl ?_;exact⟨_,rfl,Z.out.aN or,zh⟩
end
section
open Go.RowKit
theorem Yf {a d:Ef} {A D:Int} (w:Ee) (E:aA w a (zp A)) (hd:aA w d (zp D)) (I:0<=A) (H:1<=D) (M:(zp A).length<=1000000) (Y:(zp D).length<=1000000) :
  Ed Ec 135 #[a,d] w fun e J=>∃q r,e = Eh (Ev #[q,r])/\aA J q (zp (A / D))/\aA J r (zp (A%D))/\zf w J:=by
 rcases Int.lt_or_le A D with h | h
 . exact JQ w E hd I H (by unfold zP; omega) (by unfold zP; omega) h
 .
  have N:zp D≠ []:=fun e=>by have:=(zY (show 0<=D by omega)).1 e; omega
  have Z:=List.length_pos_iff.2 N
  rcases Ep (zp D).length 2 with g | g
  . exact QJ w E hd I H (by unfold zP; omega) D5 h
  . exact XU (m:=(zp D).length-2) w E hd I H M D5 h
set_option maxHeartbeats 3200000 in
set_option maxRecDepth 1000000 in
theorem Bj {va vb:Ef} {x y:Int} (w:Ee) (ha:az w va x) (hb:az w vb y) (fx:fits x) (fy:fits y) :
  Ed Ec 96 #[va,vb] w fun e E=>∃v,e = Eh (Ev #[v,Ey Ew 0])/\az E v (yv x y)/\fits (yv x y)/\zf w E:=by
 have ck:∀ (E:Ee) (q:Nat) (aa ab:Option Addr) (ca cb:Nat),ai E q 26 #[Ez (decide (x<0)),Ex aa (zp (zi x)).length ca,Ez (decide (y<0)),Ex ab (zp (zi y)).length cb]->aA E (Ex aa (zp (zi x)).length ca) (zp (zi x))->aA E (Ex ab (zp (zi y)).length cb) (zp (zi y))->
   Ed Ec 93 #[Ex (some ⟨q,0,none⟩) 2 2] E fun e w2=>e = Eh (Ey Ew 0)/\zf E w2:=fun E q aa ab ca cb hb h1 h2=>xG E hb h1 h2 fx fy
 obtain⟨aa,ca,rfl,pa⟩:=ha.parts;obtain⟨ab,cb,rfl,pb⟩:=hb.parts;have be:=fun(E:Ee) (q:Nat)=>ck E q aa ab ca cb;unfold fits at fx fy;obtain⟨n,hn⟩:∃n,(zp (zi x)).length=n:=⟨_,rfl⟩;obtain⟨m,hm⟩:∃m,(zp (zi y)).length=m:=⟨_,rfl⟩;rw[hn]at pa|-;rw[hm]at pb|-;simp only[hn,hm]at be;obtain⟨gx,bh⟩:∃b,decide (x<0)=b:=⟨_,rfl⟩;obtain⟨gy,bl⟩:∃b,decide (y<0)=b:=⟨_,rfl⟩;rw[bh,bl]at|-;simp only[bh,bl]at be;have HN:=E6 (E7 hn hm);have HF:=E6 (E7 fx fy);clear ha hb hn hm bh bl fx fy ck
 go_enter Tryz.func96,Tryz.ntmps96
 go_wp2_with fail
 refine(be _ _ Qt (pa.ae zh) (pb.ae zh)).mono ?_;rintro e w1 ⟨rfl,co⟩;have st:zf _ w1:=co;have Bn:=bA w st;have I:ai w1 w.heap.size 26 #[Ez gx,Ex aa n ca]:=ai.aw st;have J:ai w1 (w.heap.size+1) 26 #[Ez gy,Ex ab m cb]:=ai.aw st;have or:ai w1 (w.heap.size+1+1) 26 #[Ez false,Ex none 0 0]:=ai.aw st;clear st;have B:=Bn;clear Bn;obtain⟨aX,M,fa,la⟩:=I.s1;obtain⟨ah,N,fb,lb⟩:=J.s1;obtain⟨Z,a9,fr,lr⟩:=or.s1;clear be;go_wp2_with fail
 go_region_held3 (fun E=>E.cell? ⟨w.heap.size,0,none⟩=some (Ez gx)/\E.cell? ⟨w.heap.size,1,none⟩=some (Ex aa n ca)/\E.cell? ⟨w.heap.size+1,0,none⟩=some (Ez gy)/\E.cell? ⟨w.heap.size+1,1,none⟩=some (Ex ab m cb))
  ((refine⟨ai.c (t:=26) (cs:=#[Ez gx,Ex aa n ca]) ?_ 0 rfl,ai.c (t:=26) (cs:=#[Ez gx,Ex aa n ca]) ?_ 1 rfl,ai.c (t:=26) (cs:=#[Ez gy,Ex ab m cb]) ?_ 0 rfl,ai.c (t:=26) (cs:=#[Ez gy,Ex ab m cb]) ?_ 1 rfl⟩<;>(repeat' first | with_reducible assumption | (with_reducible refine ai.bO ?_; first | with_reducible rfl | (simp only[Es,World.size_setCell,World.size_drew]; done)) | with_reducible refine ai.alloc ?_ _ | with_reducible refine ai.drew ?_ | with_reducible refine ai.drewN ?_ _ | with_reducible apply ai.both | with_reducible refine ai.aH ?_ ?_ | (show _≠_; omega))))
  (first
   | ((go_at_call 134; refine(Yv _ (pa.ae zh) (by have:=HF.out; have:=HN.out; unfold zP; omega)).mono ?_; rintro e wv ⟨v1,rfl,d9,H,cN⟩; go_must (have st:zf _ wv:=cN; have Bn:=bA w st; have na:ai wv w.heap.size 26 #[Ez gx,Ex aa n ca]:=ai.aw st; have nb:ai wv (w.heap.size+1) 26 #[Ez gy,Ex ab m cb]:=ai.aw st; have nr:ai wv (w.heap.size+1+1) 26 #[Ez false,Ex none 0 0]:=ai.aw st; clear B I J or aX M fa la ah N fb lb Z a9 fr lr; clear st; have B:=Bn; clear Bn; have I:=na; clear na; have aX:Er wv ⟨w.heap.size,0,none⟩=some (Ez gx):=I.c 0 rfl; have M:Er wv ⟨w.heap.size,1,none⟩=some (Ex aa n ca):=I.c 1 rfl; have fa:=I.fr; have la:=I.lt; have J:=nb; clear nb; have ah:Er wv ⟨w.heap.size+1,0,none⟩=some (Ez gy):=J.c 0 rfl; have N:Er wv ⟨w.heap.size+1,1,none⟩=some (Ex ab m cb):=J.c 1 rfl; have fb:=J.fr; have lb:=J.lt; have or:=nr; clear nr; have Z:Er wv ⟨w.heap.size+1+1,0,none⟩=some (Ez false):=or.c 0 rfl; have a9:Er wv ⟨w.heap.size+1+1,1,none⟩=some (Ex none 0 0):=or.c 1 rfl; have fr:=or.fr; have lr:=or.lt))))
 have bt:=pb.ae B;obtain⟨ax,cx,rfl⟩:=H.ak;clear d9;rw[HN.out.1]at H|-;go_wp2_with fail
 go_loopg [7,8,9,10] (zi y).toNat (fun k vx vy q r wr=>∃ (X Y:Int) (ax ay:Option Addr) (cx cy:Nat),0<=X/\0<=Y/\k=Y.toNat/\vx = Ex ax (zp X).length cx/\vy = Ex ay (zp Y).length cy/\aA wr vx (zp X)/\aA wr vy (zp Y)/\(zp X).length<=4096/\(zp Y).length<=4096/\yv X Y=yv x y/\zf wv wr)
 case atStart=>exact⟨zi x,zi y,ax,ab,cx,cb,zA _,zA _,rfl,by rw[HN.out.1],by rw[HN.out.2],H,bt,HF.out.1,HF.out.2,QO x y,by show Below _ _ _; first | exact yX (Et _ _) _ | exact Et _ _⟩
 case round=>
  clear H bt;obtain⟨X,Y,ax,ay,cx,cy,X0,Y0,rfl,rfl,rfl,lx,ly,nx,ny,hg,aY⟩:=hrel;have HG:=E6 hg;obtain⟨p,hp⟩:∃p,(zp X).length=p:=⟨_,rfl⟩;obtain⟨q,hq⟩:∃q,(zp Y).length=q:=⟨_,rfl⟩;have bg:=E6 (E7 hp hq);rw[hp]at lx nx;rw[hq]at ly ny;simp only[hp,hq]
  rcases Int.lt_or_le 0 Y with hy | hy
  .
   have q0:0<q:=by rw[<- hq]; exact List.length_pos_iff.2 (fun e=>by have:=(zY Y0).1 e; omega)
   have ov:=Yf wr lx ly X0 D5 (by rw[hp]; omega) (by rw[hq]; omega);clear hg hp hq lx;go_wp2_with fail
   refine ov.mono ?_;rintro e w2 ⟨sq,sr,rfl,cU,bi,br⟩;obtain⟨ar,cr,dc⟩:=bi.ak;have HR:=E6 bi;have HY:=E6 (ly.ae br);subst dc;clear bi cU ly ov;have m0:=Int.emod_nonneg X (show Y≠0 by omega);have m1:=Int.emod_lt_of_pos X hy;have nr:=xe m0 (show X%Y<=Y by omega)
   go_wp2
   go_roundg (X%Y).toNat
   case measure=>omega
   case rel=>exact⟨Y,X%Y,ay,ar,cy,cr,by omega,m0,rfl,by rw[bg.out.2],rfl,HY.out,HR.out,by rw[bg.out.2]; exact ny,by have:=bg.out.2; omega,by rw[Xs X0 D5]; exact HG.out,aY.trans (br.mono aY.size)⟩
  .
   obtain rfl:Y=0:=D5
   have q0:q=0:=by rw[<- hq]; rfl
   subst q0;rw[Xt X0]at hg;have cl:=fun E (h:zf wr E)=>Yv E (lx.ae h) (by rw[hp]; unfold zP; omega);have mk:=fun E v (h:aA E v (zp X))=>qp false E h (by rw[hp]; unfold zP; omega);have hv:=zD X0;have b9:fits X:=by unfold fits; rw[jg X0,hp]; exact nx
   simp only[hv,show zv false X=X from rfl,zM b9,zH b9]at mk;have HE:=E6 (E7 hg b9);have B2:Below w.heap.size w wr:=zt B (Eo _) aY;have ci:=I.ae aY;have ce:=J.ae aY;have cg:=or.ae aY;clear hg hp hq hv b9 lx ly aX M fa la ah N fb lb Z a9 fr lr I J or B;have B:=B2;have I:=ci;have J:=ce;have or:=cg;clear ci ce cg B2;go_wp2_with fail
   refine(cl _ (Et _ _)).mono ?_;rintro e w1 ⟨v0,rfl,dk,cn,st⟩;have Bn:=bA w st;replace I:ai w1 w.heap.size 26 #[Ez gx,Ex aa n ca]:=ai.aw st;replace J:ai w1 (w.heap.size+1) 26 #[Ez gy,Ex ab m cb]:=ai.aw st;replace or:ai w1 (w.heap.size+1+1) 26 #[Ez false,Ex none 0 0]:=ai.aw st;clear B;clear st;have B:=Bn;clear Bn;obtain⟨aX,M,fa,la⟩:=I.s1;obtain⟨ah,N,fb,lb⟩:=J.s1;obtain⟨Z,a9,fr,lr⟩:=or.s1;clear cl dk;go_wp2_with fail
   refine(mk _ _ cn).mono ?_;rintro e w2 ⟨v1,rfl,H,st⟩;have Bn:=bA w st;have na:=I.aG st;have nb:=J.aG st;have nr:=or.aG st;clear B I J or aX M fa la ah N fb lb Z a9 fr lr;clear st;have B:=Bn;clear Bn;have I:=na;clear na;obtain⟨aX,M,fa,la⟩:=I.s1;have J:=nb;clear nb;obtain⟨ah,N,fb,lb⟩:=J.s1;have or:=nr;clear nr;obtain⟨Z,a9,fr,lr⟩:=or.s1;clear mk cn;obtain⟨bb,ao,k,c,rfl⟩:=H.ak;have HV:=E6 H;clear H
   go_wp2
   refine En (by simp[results,Tryz.results96,go_sem,aX,M,fa,la,ah,N,fb,lb,Z,a9,fr,lr]; rfl) rfl ?_;exact⟨_,rfl,by rw[<- HE.out.1]; exact HV.out.aN or,by rw[<- HE.out.1]; exact HE.out.2,zh⟩
theorem WO (na H:Bool) {sa sb:Ef} {la lb:List Int} (w:Ee) (M:aA w sa la) (hb:aA w sb lb) (hv:¬(zS na la/\zS H lb)) :
  Ed Ec 96 #[Ej #[Ez na,sa],Ej #[Ez H,sb]] w fun e E=>e = Eh (Ev #[Ej #[Ez false,Ex none 0 0],Ey Ew 8])/\zf w E:=by
 have J:∀ (E:Ee) (q:Nat),ai E q 26 #[Ez na,sa,Ez H,sb]->zf w E->Ed Ec 93 #[Ex (some ⟨q,0,none⟩) 2 2] E fun e w2=>e = Eh (Ey Ew 8)/\zf E w2:=fun E q hq h=>by
  have:=KE E hq (M.ae h) (hb.ae h);rw[Ze,E9 hv]at this;exact this
 obtain⟨aa,ca,rfl⟩:=M.ak;obtain⟨ab,cb,rfl⟩:=hb.ak;obtain⟨n,hn⟩:∃n,la.length=n:=⟨_,rfl⟩;obtain⟨m,hm⟩:∃m,lb.length=m:=⟨_,rfl⟩;rw[hn,hm]at J|-;clear M hb hn hm hv
 go_enter Tryz.func96,Tryz.ntmps96
 go_wp2_with fail
 refine(J _ _ Qt zh).mono ?_;rintro e I ⟨rfl,st⟩;have Bn:=bA w st;have oa:ai I w.heap.size 26 #[Ez na,Ex aa n ca]:=ai.aw st;have ob:ai I (w.heap.size+1) 26 #[Ez H,Ex ab m cb]:=ai.aw st;have or:ai I (w.heap.size+1+1) 26 #[Ez false,Ex none 0 0]:=ai.aw st;clear st;have B:=Bn;clear Bn;obtain⟨aX,Y,fa,la⟩:=oa.s1;obtain⟨a9,N,fb,lb⟩:=ob.s1;obtain⟨ah,Z,fr,lr⟩:=or.s1;clear J
 go_wp2
 refine En (by simp[results,Tryz.results96,go_sem,aX,Y,fa,la,a9,N,fb,lb,ah,Z,fr,lr]; rfl) rfl ?_;exact⟨rfl,zh⟩
end
section
open Go.RowKit
variable {x y:Int} {va vb:Ef}
def xl (x y:Int):Int:=Int.fdiv x y
def xz (x y:Int):Int:=x-y*xl x y
theorem jY {q r:Int} (h:x=y*q+r) (E:(0<=r/\r<y)\/(y<r/\r<=0)):xl x y=q/\xz x y=r:=by
 have e:xl x y=q:=by
  unfold xl
  rcases E with⟨h0,h1⟩ | ⟨h0,h1⟩
  .
   rw[Int.fdiv_eq_ediv_of_nonneg x D5];exact(jU h h0 h1).1
  .
   rw[<- Int.neg_fdiv_neg,Int.fdiv_eq_ediv_of_nonneg (-x) (show 0<=-y by omega)];exact(jU (r:= -r) (by rw[h,Int.neg_add,Int.neg_mul]) D5 D5).1
 exact⟨e,by unfold xz; rw[e]; omega⟩
theorem YA {g:Bool} (gx:decide (x<0)=g) (gy:decide (y<0)=g) (h:y≠0):xl x y=zv false (zi x / zi y)/\xz x y=zv g (zi x%zi y):=by
 have H:0<zi y:=by unfold zi; omega
 have e:=Int.mul_ediv_add_emod (zi x) (zi y);have J:=Int.emod_nonneg (zi x) (show zi y≠0 by omega);have I:=Int.emod_lt_of_pos (zi x) H;have X:=yf x;have Y:=yf y
 cases g
 .
  simp at gx gy;have E:zi y*(zi x / zi y)=y*(zi x / zi y):=congrArg (· * (zi x / zi y)) (show zi y=y by omega);refine jY ?_ (Or.inl ⟨?_,?_⟩)
  all_goals simp only[zv,Bool.false_eq_true,if_false]; omega
 .
  simp at gx gy;have E:zi y*(zi x / zi y) = -(y*(zi x / zi y)):=(congrArg (· * (zi x / zi y)) (show zi y = -y by omega)).trans (Int.neg_mul _ _);refine jY ?_ (Or.inr ⟨?_,?_⟩)
  all_goals simp only[zv,Bool.false_eq_true,if_false,if_true]; omega
theorem Zf {gx gy:Bool} (J:decide (x<0)=gx) (I:decide (y<0)=gy) (hg:gx≠gy) (h:y≠0) :
  (zi x%zi y=0->xl x y=zv true (zi x / zi y)/\xz x y=zv gx (zi x%zi y))/\
  (0<zi x%zi y->xl x y=zv true (zi x / zi y) + -1/\xz x y=zv gx (zi x%zi y)+y):=by
 have H:0<zi y:=by unfold zi; omega
 have e:=Int.mul_ediv_add_emod (zi x) (zi y);have m0:=Int.emod_nonneg (zi x) (show zi y≠0 by omega);have N:=Int.emod_lt_of_pos (zi x) H;have X:=yf x;have Y:=yf y;have e1:y<0->zi y*(zi x / zi y) = -(y*(zi x / zi y)):=fun g=>(congrArg (· * (zi x / zi y)) (show zi y = -y by omega)).trans (Int.neg_mul _ _);have M:0<=y->zi y*(zi x / zi y)=y*(zi x / zi y):=fun g=>congrArg (· * (zi x / zi y)) (show zi y=y by omega);have e3:y * -(zi x / zi y) = -(y*(zi x / zi y)):=Int.mul_neg _ _;have Z:y*(-(zi x / zi y) + -1) = -(y*(zi x / zi y))-y:=by rw[Int.mul_add,Int.mul_neg]; omega
 cases gx<;>cases gy
 . exact absurd rfl hg
 .
  simp at J I;refine⟨fun E=>jY ?_ (Or.inr ⟨?_,?_⟩),fun E=>jY ?_ (Or.inr ⟨?_,?_⟩)⟩
  all_goals simp only[zv,Bool.false_eq_true,if_false,if_true]; omega
 .
  simp at J I;refine⟨fun E=>jY ?_ (Or.inl ⟨?_,?_⟩),fun E=>jY ?_ (Or.inl ⟨?_,?_⟩)⟩
  all_goals simp only[zv,Bool.false_eq_true,if_false,if_true]; omega
 . exact absurd rfl hg
theorem yE {z:Int} (h:zi z<=zi x) (E:fits x):fits z:=Nat.le_trans (xe (zA z) h) E
theorem kC (h:y≠0):zi (xl x y)<=zi x/\zi (xz x y)<=zi y/\zi x / zi y<=zi x/\zi x%zi y<=zi y:=by
 have M:0<zi y:=by unfold zi; omega
 have e:=Int.mul_ediv_add_emod (zi x) (zi y);have Z:=Int.emod_nonneg (zi x) (show zi y≠0 by omega);have m1:=Int.emod_lt_of_pos (zi x) M;have q0:0<=zi x / zi y:=Int.ediv_nonneg (zA x) D5;have l1:=Int.mul_le_mul_of_nonneg_right (show 1<=zi y by omega) q0;have Y:=yf y;obtain⟨gx,J⟩:∃b,decide (x<0)=b:=⟨_,rfl⟩;obtain⟨gy,I⟩:∃b,decide (y<0)=b:=⟨_,rfl⟩;have H:∀ (g:Bool) {m:Int},0<=m->zi (zv g m)=m:=fun g m h=>xV g h;refine⟨?_,?_,by omega,by omega⟩
 all_goals
  by_cases hs:gx=gy
  .
   subst hs;have S:=YA J I h
   first
    | (rw[S.1,H _ q0]; omega)
    | (rw[S.2,H _ Z]; omega)
  .
   have D:=Zf J I hs h
   rcases Int.lt_or_le 0 (zi x%zi y)with N | N
   .
    have E:=D.2 N;have l2:=Int.mul_le_mul_of_nonneg_right (show 2<=zi y by omega) q0
    first
     | (rw[E.1]; simp only[zv,if_true]; unfold zi at *; omega)
     | (rw[E.2]; cases gx<;>cases gy<;>first | exact absurd rfl hs | (simp at J I; simp only[zv,if_true,Bool.false_eq_true,if_false]; unfold zi at *; omega))
   .
    have E:=D.1 D5
    first
     | (rw[E.1,H _ q0]; omega)
     | (rw[E.2,H _ Z]; omega)
theorem XV (w:Ee) (ha:az w va x) (hb:az w vb y) (fx:fits x) (fy:fits y) (hy:y≠0) (aY:(decide (x<0)=decide (y<0))=True) :
  Ed Ec 169 #[va,vb] w fun e E=>∃q r,e = Eh (Ev #[q,r,Ey Ew 0])/\az E q (xl x y)/\az E r (xz x y)/\zf w E:=by
 have bo:∀E,zf w E->Ed Ec 156 #[va,vb] E fun e w2=>e = Eh (Ey Ew 0)/\zf E w2:=fun E h=>jM E (ha.ae h) (hb.ae h) fx fy;have F:=kC (x:=x) hy;have fq:fits (xl x y):=yE F.1 fx;have bi:fits (xz x y):=yE F.2.1 fy;have cU:0<zi y:=by unfold zi; omega
 have q0:0<=zi x / zi y:=Int.ediv_nonneg (zA x) D5;have m0:=Int.emod_nonneg (zi x) (show zi y≠0 by omega)
 have cn:∀ (d:Bool) (s:Ef) (E:Ee),aA E s (zp (zi x / zi y))->Ed Ec 139 #[Ez d,s] E fun e w2=>∃v,e = Eh (Ev #[v,Ey Ew 0])/\az w2 v (zv d (zi x / zi y))/\zf E w2:=fun d s E h=>by
  have fz:fits (zv d (zi x / zi y)):=yE (by rw[xV d q0]; exact F.2.2.1) fx;have:=qY d E h (by have:=xe q0 F.2.2.1; unfold fits at fx; unfold zP; omega);rw[zD q0,zM fz,zH fz]at this;exact this
 have ce:∀ (d:Bool) (s:Ef) (E:Ee),aA E s (zp (zi x%zi y))->Ed Ec 139 #[Ez d,s] E fun e w2=>∃v,e = Eh (Ev #[v,Ey Ew 0])/\az w2 v (zv d (zi x%zi y))/\zf E w2:=fun d s E h=>by
  have fz:fits (zv d (zi x%zi y)):=yE (by rw[xV d m0]; exact F.2.2.2) fy;have:=qY d E h (by have:=xe m0 F.2.2.2; unfold fits at fy; unfold zP; omega);rw[zD m0,zM fz,zH fz]at this;exact this
 have co:∀d,fits (zv d (zi x / zi y)):=fun d=>yE (by rw[xV d q0]; exact F.2.2.1) fx;have cg:∀d,fits (zv d (zi x%zi y)):=fun d=>yE (by rw[xV d m0]; exact F.2.2.2) fy;have ci:az w vb y:=hb;obtain⟨aa,ca,rfl,pa⟩:=ha.parts;obtain⟨ab,cb,rfl,pb⟩:=hb.parts
 have ov:∀E,zf w E->Ed Ec 157 #[Ex aa (zp (zi x)).length ca,Ex ab (zp (zi y)).length cb] E fun e w2=>∃q r,e = Eh (Ev #[q,r])/\aA w2 q (zp (zi x / zi y))/\aA w2 r (zp (zi x%zi y))/\zf E w2:=fun E h=>
  UA E (pa.ae h) (pb.ae h) (zA x) D5 (by unfold fits at fx; unfold zP; omega) (by unfold fits at fy; unfold zP; omega)
 have m1:0<(zp (zi y)).length:=List.length_pos_iff.2 (fun e=>by have:=(zY (zA y)).1 e; omega);obtain⟨n,hn⟩:∃n,(zp (zi x)).length=n:=⟨_,rfl⟩;obtain⟨m,hm⟩:∃m,(zp (zi y)).length=m:=⟨_,rfl⟩;rw[hn]at bo ov|-;rw[hm]at bo ov ci m1|-;obtain⟨gx,bg⟩:∃b,decide (x<0)=b:=⟨_,rfl⟩;obtain⟨gy,aX⟩:∃b,decide (y<0)=b:=⟨_,rfl⟩;rw[aX]at ci;rw[bg,aX]at bo aY|-;have HG:=E6 (E7 bg aX);have HY:=E6 hy;have dz:=E6 (E7 fq bi);have HZ:=E6 (E7 co cg);have ed:=E6 fy;obtain⟨ln,bh⟩:∃l,(zp (zi x%zi y)).length=l:=⟨_,rfl⟩
 have lz:(ln=0↔zi x%zi y=0):=by
  rw[<- bh,List.length_eq_zero_iff]; exact zY m0
 have d9:=E6 (E7 bh (E7 lz m0));clear ha hb hn hm bg aX fx fy fq bi F q0 m0 co cg hy bh lz cU;have hs:gx=gy:=by rw[aY]; trivial
 subst hs;clear aY
 go_enter Tryz.func169,Tryz.ntmps169
 go_wp2_with fail
 refine(bo _ zh).mono ?_;rintro e w1 ⟨rfl,st⟩;have Bn:=bA w st;have oa:ai w1 w.heap.size 26 #[Ez gx,Ex aa n ca]:=ai.aw st;have ob:ai w1 (w.heap.size+1) 26 #[Ez gx,Ex ab m cb]:=ai.aw st;have or:ai w1 (w.heap.size+1+1) 26 #[Ez false,Ex none 0 0]:=ai.aw st;have H:ai w1 (w.heap.size+1+1+1) 26 #[Ez false,Ex none 0 0]:=ai.aw st;clear st;have B:=Bn;clear Bn;obtain⟨ah,J,fa,la⟩:=oa.s1;obtain⟨a9,M,fb,lb⟩:=ob.s1;obtain⟨Y,Z,fr,lr⟩:=or.s1;obtain⟨N,I,ft,lt⟩:=H.s1;clear bo;go_wp2_with fail
 refine(ov _ B).mono ?_;rintro e w2 ⟨sq,sr,rfl,hq,hr,st⟩;have Bn:=bA w st;have na:=oa.aG st;have nb:=ob.aG st;have nr:=or.aG st;have nt:=H.aG st;clear B oa ob or H ah J fa la a9 M fb lb Y Z fr lr N I ft lt;clear st;have B:=Bn;clear Bn;have oa:=na;clear na;obtain⟨ah,J,fa,la⟩:=oa.s1;have ob:=nb;clear nb;obtain⟨a9,M,fb,lb⟩:=ob.s1;have or:=nr;clear nr;obtain⟨Y,Z,fr,lr⟩:=or.s1;have H:=nt;clear nt;obtain⟨N,I,ft,lt⟩:=H.s1;clear ov;obtain⟨ar,dP,bt⟩:=hr.ak;rw[d9.out.1]at bt;subst bt;have HQ:=E6 hq;have HR:=E6 hr;clear hq hr;go_wp2_with fail
 refine(cn false _ _ HQ.out).mono ?_;rintro e w3 ⟨vq,rfl,be,cx⟩;have st:zf _ w3:=cx;have Bn:=bA w st;have na:=oa.aG st;have nb:=ob.aG st;have nr:=or.aG st;have nt:=H.aG st;clear B oa ob or H ah J fa la a9 M fb lb Y Z fr lr N I ft lt;clear st;have B:=Bn;clear Bn;have oa:=na;clear na;obtain⟨ah,J,fa,la⟩:=oa.s1;have ob:=nb;clear nb;obtain⟨a9,M,fb,lb⟩:=ob.s1;have or:=nr;clear nr;obtain⟨Y,Z,fr,lr⟩:=or.s1;have H:=nt;clear nt;obtain⟨N,I,ft,lt⟩:=H.s1;clear cn;have dl:=E6 H.lt;have cy:=E6 (HR.out.ae cx);obtain⟨bq,aq,cN,cq,rfl⟩:=be.ak;have NQ:=E6 be;clear be HQ HR;go_wp2_with fail
 refine(ce gx _ _ (cy.out.ae zh)).mono ?_;rintro e w4 ⟨vr,rfl,b9,bl⟩;have st:zf _ w4:=bl;have Bn:=bA w st;have na:=oa.aG st;have nb:=ob.aG st;have nr:=or.aG st;have nt:=H.aG st;have oq:ai w4 w3.heap.size 26 #[Ez bq,Ex aq cN cq]:=ai.aw st;clear B oa ob or H ah J fa la a9 M fb lb Y Z fr lr N I ft lt;clear st;have B:=Bn;clear Bn;have oa:=na;clear na;obtain⟨ah,J,fa,la⟩:=oa.s1;have ob:=nb;clear nb;obtain⟨a9,M,fb,lb⟩:=ob.s1;have or:=nr;clear nr;obtain⟨Y,Z,fr,lr⟩:=or.s1;have H:=nt;clear nt;obtain⟨N,I,ft,lt⟩:=H.s1;obtain⟨dk,dx,fq,lq⟩:=oq.s1;clear ce;obtain⟨br,em,ek,dy,rfl⟩:=b9.ak;have NR:=E6 b9;have dc:=E6 ((NQ.out.ae zh).ae bl);clear b9 NQ cy;have er:=E6 (E7 (show w.heap.size+1+1+1<w3.heap.size from dl.out) oq.lt);have S:=E6 (YA HG.out.1 HG.out.2 HY.out);go_wp2_with fail
 all_goals go_region
 all_goals go_wp2
 all_goals refine En (by simp[results,Tryz.results169,go_sem,ah,J,fa,la,a9,M,fb,lb,Y,Z,fr,lr,N,I,ft,lt,dk,dx,fq,lq]; rfl) rfl ?_
 all_goals refine⟨_,_,rfl,?_,?_,zh⟩
 all_goals (try (rw[(S.out.1)]; exact az.cI (az.aK ((dc.out.aN or).aN ((H.aH D5).aH D5)) _)))
 all_goals (try (rw[(S.out.2)]; exact az.cI (az.aK ((NR.out.aN or).aN ((H.aH D5).aH D5)) _)))
theorem XW (w:Ee) (ha:az w va x) (hb:az w vb y) (fx:fits x) (fy:fits y) (hy:y≠0) (cN:(decide (x<0)=decide (y<0))=False) :
  Ed Ec 169 #[va,vb] w fun e w'=>∃q r,e = Eh (Ev #[q,r,Ey Ew 0])/\az w' q (xl x y)/\az w' r (xz x y)/\zf w w':=by
 have bo:∀w',zf w w'->Ed Ec 156 #[va,vb] w' fun e w2=>e = Eh (Ey Ew 0)/\zf w' w2:=fun w' h=>jM w' (ha.ae h) (hb.ae h) fx fy;have F:=kC (x:=x) hy;have fq:fits (xl x y):=yE F.1 fx;have dP:fits (xz x y):=yE F.2.1 fy;have gd:0<zi y:=by unfold zi; omega
 have q0:0<=zi x / zi y:=Int.ediv_nonneg (zA x) D5;have m0:=Int.emod_nonneg (zi x) (show zi y≠0 by omega)
 have f8:∀ (d:Bool) (s:Ef) (w':Ee),aA w' s (zp (zi x / zi y))->Ed Ec 139 #[Ez d,s] w' fun e w2=>∃v,e = Eh (Ev #[v,Ey Ew 0])/\az w2 v (zv d (zi x / zi y))/\zf w' w2:=fun d s w' h=>by
  have fz:fits (zv d (zi x / zi y)):=yE (by rw[xV d q0]; exact F.2.2.1) fx;have:=qY d w' h (by have:=xe q0 F.2.2.1; unfold fits at fx; unfold zP; omega);rw[zD q0,zM fz,zH fz]at this;exact this
 have em:∀ (d:Bool) (s:Ef) (w':Ee),aA w' s (zp (zi x%zi y))->Ed Ec 139 #[Ez d,s] w' fun e w2=>∃v,e = Eh (Ev #[v,Ey Ew 0])/\az w2 v (zv d (zi x%zi y))/\zf w' w2:=fun d s w' h=>by
  have fz:fits (zv d (zi x%zi y)):=yE (by rw[xV d m0]; exact F.2.2.2) fy;have:=qY d w' h (by have:=xe m0 F.2.2.2; unfold fits at fy; unfold zP; omega);rw[zD m0,zM fz,zH fz]at this;exact this
 have f9:∀d,fits (zv d (zi x / zi y)):=fun d=>yE (by rw[xV d q0]; exact F.2.2.1) fx;have er:∀d,fits (zv d (zi x%zi y)):=fun d=>yE (by rw[xV d m0]; exact F.2.2.2) fy;have dl:az w vb y:=hb;obtain⟨aa,ca,rfl,pa⟩:=ha.parts;obtain⟨ab,cb,rfl,pb⟩:=hb.parts
 have ov:∀w',zf w w'->Ed Ec 157 #[Ex aa (zp (zi x)).length ca,Ex ab (zp (zi y)).length cb] w' fun e w2=>∃q r,e = Eh (Ev #[q,r])/\aA w2 q (zp (zi x / zi y))/\aA w2 r (zp (zi x%zi y))/\zf w' w2:=fun w' h=>
  UA w' (pa.ae h) (pb.ae h) (zA x) D5 (by unfold fits at fx; unfold zP; omega) (by unfold fits at fy; unfold zP; omega)
 have m1:0<(zp (zi y)).length:=List.length_pos_iff.2 (fun e=>by have:=(zY (zA y)).1 e; omega);obtain⟨n,hn⟩:∃n,(zp (zi x)).length=n:=⟨_,rfl⟩;obtain⟨m,hm⟩:∃m,(zp (zi y)).length=m:=⟨_,rfl⟩;rw[hn]at bo ov|-;rw[hm]at bo ov dl m1|-;obtain⟨gx,dx⟩:∃b,decide (x<0)=b:=⟨_,rfl⟩;obtain⟨gy,cy⟩:∃b,decide (y<0)=b:=⟨_,rfl⟩;rw[cy]at dl;rw[dx,cy]at bo cN|-;have HG:=E6 (E7 dx cy);have HY:=E6 hy;have cU:=E6 (E7 fq dP);have HZ:=E6 (E7 f9 er);have g9:=E6 fy;obtain⟨ln,dz⟩:∃l,(zp (zi x%zi y)).length=l:=⟨_,rfl⟩
 have lz:(ln=0↔zi x%zi y=0):=by
  rw[<- dz,List.length_eq_zero_iff]; exact zY m0
 have cx:=E6 (E7 dz (E7 lz m0));clear ha hb hn hm dx cy fx fy fq dP F q0 m0 f9 er hy dz lz gd;have hs:¬gx=gy:=by rw[cN]; exact id
 have gJ:(gx==gy)=false:=by simp[hs]
 have D:=E6 (Zf HG.out.1 HG.out.2 hs HY.out);clear cN hs
 go_enter Tryz.func169,Tryz.ntmps169
 go_wp2_with fail
 refine(bo _ zh).mono ?_;rintro e w1 ⟨rfl,st⟩;have Bn:=bA w st;have M:ai w1 w.heap.size 26 #[Ez gx,Ex aa n ca]:=ai.aw st;have ob:ai w1 (w.heap.size+1) 26 #[Ez gy,Ex ab m cb]:=ai.aw st;have or:ai w1 (w.heap.size+1+1) 26 #[Ez false,Ex none 0 0]:=ai.aw st;have I:ai w1 (w.heap.size+1+1+1) 26 #[Ez false,Ex none 0 0]:=ai.aw st;clear st;have B:=Bn;clear Bn;obtain⟨be,N,fa,la⟩:=M.s1;obtain⟨aY,Y,fb,lb⟩:=ob.s1;obtain⟨ah,aX,fr,lr⟩:=or.s1;obtain⟨Z,J,ft,lt⟩:=I.s1;clear bo;go_wp2_with fail
 refine(ov _ B).mono ?_;rintro e w2 ⟨sq,sr,rfl,hq,hr,st⟩;have Bn:=bA w st;have na:=M.aG st;have nb:=ob.aG st;have nr:=or.aG st;have nt:=I.aG st;clear B M ob or I be N fa la aY Y fb lb ah aX fr lr Z J ft lt;clear st;have B:=Bn;clear Bn;have M:=na;clear na;obtain⟨be,N,fa,la⟩:=M.s1;have ob:=nb;clear nb;obtain⟨aY,Y,fb,lb⟩:=ob.s1;have or:=nr;clear nr;obtain⟨ah,aX,fr,lr⟩:=or.s1;have I:=nt;clear nt;obtain⟨Z,J,ft,lt⟩:=I.s1;clear ov;obtain⟨ar,gL,ek⟩:=hr.ak;rw[cx.out.1]at ek;subst ek;have HQ:=E6 hq;have HR:=E6 hr;clear hq hr;go_wp2_with fail
 refine(f8 true _ _ HQ.out).mono ?_;rintro e w3 ⟨vq,rfl,dc,fd⟩;have st:zf _ w3:=fd;have Bn:=bA w st;have na:=M.aG st;have nb:=ob.aG st;have nr:=or.aG st;have nt:=I.aG st;clear B M ob or I be N fa la aY Y fb lb ah aX fr lr Z J ft lt;clear st;have B:=Bn;clear Bn;have M:=na;clear na;obtain⟨be,N,fa,la⟩:=M.s1;have ob:=nb;clear nb;obtain⟨aY,Y,fb,lb⟩:=ob.s1;have or:=nr;clear nr;obtain⟨ah,aX,fr,lr⟩:=or.s1;have I:=nt;clear nt;obtain⟨Z,J,ft,lt⟩:=I.s1;clear f8;have gF:=E6 I.lt;have fe:=E6 (HR.out.ae fd);obtain⟨bq,aq,ce,cq,rfl⟩:=dc.ak;have NQ:=E6 dc;clear dc HQ HR;go_wp2_with fail
 refine(em gx _ _ (fe.out.ae zh)).mono ?_;rintro e w4 ⟨vr,rfl,d9,ed⟩;have st:zf _ w4:=ed;have Bn:=bA w st;have na:=M.aG st;have nb:=ob.aG st;have nr:=or.aG st;have nt:=I.aG st;have oq:ai w4 w3.heap.size 26 #[Ez bq,Ex aq ce cq]:=ai.aw st;clear B M ob or I be N fa la aY Y fb lb ah aX fr lr Z J ft lt;clear st;have B:=Bn;clear Bn;have M:=na;clear na;obtain⟨be,N,fa,la⟩:=M.s1;have ob:=nb;clear nb;obtain⟨aY,Y,fb,lb⟩:=ob.s1;have or:=nr;clear nr;obtain⟨ah,aX,fr,lr⟩:=or.s1;have I:=nt;clear nt;obtain⟨Z,J,ft,lt⟩:=I.s1;obtain⟨bi,bl,fq,lq⟩:=oq.s1;clear em;obtain⟨br,cn,ci,bh,rfl⟩:=d9.ak;have NR:=E6 d9;have eW:=E6 ((NQ.out.ae zh).ae ed);clear d9 NQ fe;have ey:=E6 (E7 (show w.heap.size+1+1+1<w3.heap.size from gF.out) oq.lt)
 rcases Nat.eq_zero_or_pos ln with h0 | h0
 .
  have E:=E6 (D.out.1 (cx.out.2.1.1 h0));subst h0;go_wp2_with fail
  all_goals go_region
  all_goals go_wp2
  all_goals refine En (by simp[results,Tryz.results169,go_sem,be,N,fa,la,aY,Y,fb,lb,ah,aX,fr,lr,Z,J,ft,lt,bi,bl,fq,lq]; rfl) rfl ?_
  all_goals refine⟨_,_,rfl,?_,?_,zh⟩
  all_goals (try (rw[(E.out.1)]; exact az.cI (az.aK ((eW.out.aN or).aN ((I.aH D5).aH D5)) _)))
  all_goals (try (rw[(E.out.2)]; exact az.cI (az.aK ((NR.out.aN or).aN ((I.aH D5).aH D5)) _)))
 .
  have E:=E6 (D.out.2 (by have:=cx.out.2.1; have:=cx.out.2.2; omega));go_wp2_with fail
  have NB:=E6 (dl.ae B);have gK:w3.heap.size<w4.heap.size:=ey.out.2;have gI:w.heap.size+1+1+1<w3.heap.size:=ey.out.1;have n1:¬w4.heap.size=w3.heap.size:=D5
  have n2:¬w.heap.size=w3.heap.size:=D5
  have n3:¬w.heap.size+1=w3.heap.size:=D5
  have n4:¬w3.heap.size=w4.heap.size:=D5
  have n5:¬w3.heap.size=w.heap.size:=D5
  have n6:¬w3.heap.size=w.heap.size+1:=D5
  have gO:qX (zv true (zi x / zi y) + -1)=0:=zM (by rw[<- E.out.1]; exact cU.out.1);have gn:Hid (xp (zv true (zi x / zi y) + -1)=xl x y):=by show xp _=_; rw[<- E.out.1]; exact zH cU.out.1
  have gA:Hid (xp (zv gx (zi x%zi y)+y)=xz x y):=by show xp _=_; rw[<- E.out.2]; exact zH cU.out.2
  go_region_with (first
   | (go_at_call 104; refine(Xl (-1) _ D5 D5).mono ?_; rintro e H ⟨vo,rfl,dk,bg⟩; go_must (have gz:=E6 ((eW.out.ae zh).ae bg); have gB:=E6 ((NR.out.ae zh).ae bg); have fl:=E6 ((NB.out.ae zh).ae bg); obtain⟨gQ,gH,gP,gM,rfl⟩:=dk.ak; have NO:=E6 dk; clear dk; have st:zf _ H:=bg; have Bn:=bA w st; have na:ai H w.heap.size 26 #[Ez gx,Ex aa n ca]:=ai.aw st; have nb:ai H (w.heap.size+1) 26 #[Ez gy,Ex ab m cb]:=ai.aw st; have nr:ai H (w.heap.size+1+1) 26 #[Ez false,Ex none 0 0]:=ai.aw st; have nt:ai H (w.heap.size+1+1+1) 26 #[Ez false,Ex none 0 0]:=ai.aw st; have nq:ai H w3.heap.size 26 #[Ez bq,Ex aq ce cq]:=ai.aw st; have ns:ai H w4.heap.size 26 #[Ez br,Ex cn ci bh]:=ai.aw st; clear B M ob or I oq be N fa la aY Y fb lb ah aX fr lr Z J ft lt bi bl fq lq; clear st; have B:=Bn; clear Bn; have M:=na; clear na; have be:Er H ⟨w.heap.size,0,none⟩=some (Ez gx):=M.c 0 rfl; have N:Er H ⟨w.heap.size,1,none⟩=some (Ex aa n ca):=M.c 1 rfl; have fa:=M.fr; have la:=M.lt; have ob:=nb; clear nb; have aY:Er H ⟨w.heap.size+1,0,none⟩=some (Ez gy):=ob.c 0 rfl; have Y:Er H ⟨w.heap.size+1,1,none⟩=some (Ex ab m cb):=ob.c 1 rfl; have fb:=ob.fr; have lb:=ob.lt; have or:=nr; clear nr; have ah:Er H ⟨w.heap.size+1+1,0,none⟩=some (Ez false):=or.c 0 rfl; have aX:Er H ⟨w.heap.size+1+1,1,none⟩=some (Ex none 0 0):=or.c 1 rfl; have fr:=or.fr; have lr:=or.lt; have I:=nt; clear nt; have Z:Er H ⟨w.heap.size+1+1+1,0,none⟩=some (Ez false):=I.c 0 rfl; have J:Er H ⟨w.heap.size+1+1+1,1,none⟩=some (Ex none 0 0):=I.c 1 rfl; have ft:=I.fr; have lt:=I.lt; have oq:=nq; clear nq; have bi:Er H ⟨w3.heap.size,0,none⟩=some (Ez bq):=oq.c 0 rfl; have bl:Er H ⟨w3.heap.size,1,none⟩=some (Ex aq ce cq):=oq.c 1 rfl; have fq:=oq.fr; have lq:=oq.lt; have os:=ns; clear ns; have cg:Er H ⟨w4.heap.size,0,none⟩=some (Ez br):=os.c 0 rfl; have co:Er H ⟨w4.heap.size,1,none⟩=some (Ex cn ci bh):=os.c 1 rfl; have fs:=os.fr; have ls:=os.lt))
   | (go_at_call 192; refine(WM _ gz.out NO.out (HZ.out.1 _) (xZ (by unfold zi; omega))).mono ?_; rintro e H ⟨vs,rfl,dy,bg⟩; go_must (have gt:=E6 ((gB.out.ae zh).ae bg); have gE:=E6 ((fl.out.ae zh).ae bg); obtain⟨bs,gC,gD,g8,rfl⟩:=dy.ak; have NS:=E6 dy; clear dy; have st:zf _ H:=bg; have Bn:=bA w st; have na:ai H w.heap.size 26 #[Ez gx,Ex aa n ca]:=ai.aw st; have nb:ai H (w.heap.size+1) 26 #[Ez gy,Ex ab m cb]:=ai.aw st; have nr:ai H (w.heap.size+1+1) 26 #[Ez false,Ex none 0 0]:=ai.aw st; have nt:ai H (w.heap.size+1+1+1) 26 #[Ez false,Ex none 0 0]:=ai.aw st; have nq:ai H w3.heap.size 26 #[Ez bq,Ex aq ce cq]:=ai.aw st; have ns:ai H w4.heap.size 26 #[Ez br,Ex cn ci bh]:=ai.aw st; clear B M ob or I oq os be N fa la aY Y fb lb ah aX fr lr Z J ft lt bi bl fq lq cg co fs ls; clear st; have B:=Bn; clear Bn; have M:=na; clear na; have be:Er H ⟨w.heap.size,0,none⟩=some (Ez gx):=M.c 0 rfl; have N:Er H ⟨w.heap.size,1,none⟩=some (Ex aa n ca):=M.c 1 rfl; have fa:=M.fr; have la:=M.lt; have ob:=nb; clear nb; have aY:Er H ⟨w.heap.size+1,0,none⟩=some (Ez gy):=ob.c 0 rfl; have Y:Er H ⟨w.heap.size+1,1,none⟩=some (Ex ab m cb):=ob.c 1 rfl; have fb:=ob.fr; have lb:=ob.lt; have or:=nr; clear nr; have ah:Er H ⟨w.heap.size+1+1,0,none⟩=some (Ez false):=or.c 0 rfl; have aX:Er H ⟨w.heap.size+1+1,1,none⟩=some (Ex none 0 0):=or.c 1 rfl; have fr:=or.fr; have lr:=or.lt; have I:=nt; clear nt; have Z:Er H ⟨w.heap.size+1+1+1,0,none⟩=some (Ez false):=I.c 0 rfl; have J:Er H ⟨w.heap.size+1+1+1,1,none⟩=some (Ex none 0 0):=I.c 1 rfl; have ft:=I.fr; have lt:=I.lt; have oq:=nq; clear nq; have bi:Er H ⟨w3.heap.size,0,none⟩=some (Ez bq):=oq.c 0 rfl; have bl:Er H ⟨w3.heap.size,1,none⟩=some (Ex aq ce cq):=oq.c 1 rfl; have fq:=oq.fr; have lq:=oq.lt; have os:=ns; clear ns; have cg:Er H ⟨w4.heap.size,0,none⟩=some (Ez br):=os.c 0 rfl; have co:Er H ⟨w4.heap.size,1,none⟩=some (Ex cn ci bh):=os.c 1 rfl; have fs:=os.fr; have ls:=os.lt)))
  all_goals
   go_wp2_with fail
   refine(WM _ (gt.out.aN oq) (gE.out.aN oq) (HZ.out.2 _) g9.out).mono ?_;rintro e w8 ⟨gN,rfl,bt,eM⟩;have f7:=E6 ((NS.out.aN oq).ae eM);rw[gn.out]at f7;rw[gA.out]at bt;obtain⟨b9,a9,n9,c9,rfl⟩:=bt.ak;have gG:=E6 bt;clear bt;have st:zf _ w8:=eM;have Bn:=bA w st;have na:=M.aG st;have nb:=ob.aG st;have nr:=or.aG st;have nt:=I.aG st;replace oq:ai w8 w3.heap.size 26 #[Ez bs,Ex gC gD g8]:=ai.aw st;replace os:ai w8 w4.heap.size 26 #[Ez br,Ex cn ci bh]:=ai.aw st;clear B M ob or I be N fa la aY Y fb lb ah aX fr lr Z J ft lt bi bl fq lq cg co fs ls;clear st;have B:=Bn;clear Bn;have M:=na;clear na;obtain⟨be,N,fa,la⟩:=M.s1;have ob:=nb;clear nb;obtain⟨aY,Y,fb,lb⟩:=ob.s1;have or:=nr;clear nr;obtain⟨ah,aX,fr,lr⟩:=or.s1;have I:=nt;clear nt;obtain⟨Z,J,ft,lt⟩:=I.s1;obtain⟨bi,bl,fq,lq⟩:=oq.s1;obtain⟨cg,co,fs,ls⟩:=os.s1;go_wp2_with fail
   go_region
   go_wp2
   refine En (by simp[results,Tryz.results169,go_sem,be,N,fa,la,aY,Y,fb,lb,ah,aX,fr,lr,Z,J,ft,lt,bi,bl,fq,lq,cg,co,fs,ls]; rfl) rfl ?_;refine⟨_,_,rfl,?_,?_,zh⟩
   . exact az.cI (((f7.out.aN os).aN ((or.aH D5).aH D5)).aN ((((I.aH D5).aH D5).aH D5).aH D5))
   . exact az.cI (((gG.out.aN os).aN ((or.aH D5).aH D5)).aN ((((I.aH D5).aH D5).aH D5).aH D5))
theorem KI (w:Ee) (I:az w va x) (N:az w vb y) (M:fits x) (H:fits y) (J:y≠0) :
  Ed Ec 169 #[va,vb] w fun e E=>∃q r,e = Eh (Ev #[q,r,Ey Ew 0])/\az E q (xl x y)/\az E r (xz x y)/\zf w E:=by
 by_cases h:decide (x<0)=decide (y<0)
 . exact XV w I N M H J (by simp[h])
 . exact XW w I N M H J (by simp[h])
def xH (gx:Bool) (la:List Int) (gy:Bool) (lb:List Int):Prop:=zS gx la/\zS gy lb/\gy=false/\lb≠ []/\yv (zv gx (zo la)) (zv gy (zo lb))=1
instance (gx:Bool) (la:List Int) (gy:Bool) (lb:List Int):Decidable (xH gx la gy lb):=inferInstanceAs (Decidable (_/\_/\_/\_/\_))
theorem KJ (gx gy:Bool) {sa sb:Ef} {la lb:List Int} (w:Ee) (ha:aA w sa la) (hb:aA w sb lb) :
  Ed Ec 86 #[Ej #[Ez gx,sa,Ez gy,sb]] w fun e w'=>e = Eh (Ey Ew (yZ (xH gx la gy lb)))/\zf w w':=by
 have Y:∀w',zf w w'->Ed Ec 124 #[Ej #[Ez gx,sa]] w' fun e w2=>e = Eh (Ey Ew (yZ (zS gx la)))/\zf w' w2:=fun w' h=>je gx w' (ha.ae h);have Z:∀w',zf w w'->Ed Ec 124 #[Ej #[Ez gy,sb]] w' fun e w2=>e = Eh (Ey Ew (yZ (zS gy lb)))/\zf w' w2:=fun w' h=>je gy w' (hb.ae h)
 have gc:zS gx la->zS gy lb->∀w',zf w w'->Ed Ec 125 #[Ej #[Ez gx,sa],Ej #[Ez gy,sb]] w' fun e w2=>∃v,e = Eh (Ev #[v,Ey Ew 0])/\az w2 v (yv (zv gx (zo la)) (zv gy (zo lb)))/\fits (yv (zv gx (zo la)) (zv gy (zo lb)))/\zf w' w2:=fun va vb w' h=>
  Bg w' (qB (ha.ae h) va) (qB (hb.ae h) vb) (qC ha.ok va) (qC hb.ok vb)
 obtain⟨aa,ca,rfl⟩:=ha.ak;obtain⟨ab,cb,rfl⟩:=hb.ak;obtain⟨n,hn⟩:∃n,la.length=n:=⟨_,rfl⟩;obtain⟨m,hm⟩:∃m,lb.length=m:=⟨_,rfl⟩;rw[hn]at Y gc|-;rw[hm]at Z gc|-;have ah:m=0↔lb = []:=by rw[<- hm]; exact List.length_eq_zero_iff
 clear ha hb hn hm
 by_cases h1:zS gx la
 .
  have E1:yZ (zS gx la)=0:=E8 h1;rw[E1]at Y
  by_cases h2:zS gy lb
  .
   have E2:yZ (zS gy lb)=0:=E8 h2;rw[E2]at Z;have aY:=gc h1 h2;clear gc E1 E2
   cases gy with
   | true=>
    have H:Hid (yZ (xH gx la true lb)=8):=E9 (fun h=>by have:=h.2.2.1; cases this);clear h1 h2 aY ah
    go_enter Tryz.func86,Tryz.ntmps86
    go_wp2_with fail
    refine(Y _ zh).mono ?_;rintro e w1 ⟨rfl,a9⟩;have st:zf _ w1:=a9;have N:=bA w st;have of:ai w1 w.heap.size 28 #[Ez gx,Ex aa n ca,Ez true,Ex ab m cb]:=ai.aw st;clear st;have B:=N;clear N;obtain⟨E,I,M,J,ff,lf⟩:=of.s3;clear Y;go_wp2_with fail
    refine(Z _ B).mono ?_;rintro e w2 ⟨rfl,aX⟩;have st:zf _ w2:=aX;have N:=bA w st;have nf:=of.aG st;clear B of E I M J ff lf;clear st;have B:=N;clear N;have of:=nf;clear nf;obtain⟨E,I,M,J,ff,lf⟩:=of.s3;clear Z
    go_wp2
    go_returns
    exact⟨yK H.out.symm,zh⟩
   | false=>
    rcases Nat.eq_zero_or_pos m with h0 | h0
    .
     have H:Hid (yZ (xH gx la false lb)=8):=E9 (fun h=>h.2.2.2.1 (ah.1 h0));subst h0;clear h1 h2 aY ah
     go_enter Tryz.func86,Tryz.ntmps86
     go_wp2_with fail
     refine(Y _ zh).mono ?_;rintro e w1 ⟨rfl,a9⟩;have st:zf _ w1:=a9;have N:=bA w st;have of:ai w1 w.heap.size 28 #[Ez gx,Ex aa n ca,Ez false,Ex ab 0 cb]:=ai.aw st;clear st;have B:=N;clear N;obtain⟨E,I,M,J,ff,lf⟩:=of.s3;clear Y;go_wp2_with fail
     refine(Z _ B).mono ?_;rintro e w2 ⟨rfl,aX⟩;have st:zf _ w2:=aX;have N:=bA w st;have nf:=of.aG st;clear B of E I M J ff lf;clear st;have B:=N;clear N;have of:=nf;clear nf;obtain⟨E,I,M,J,ff,lf⟩:=of.s3;clear Z
     go_wp2
     go_returns
     exact⟨yK H.out.symm,zh⟩
    .
     have bl:lb≠ []:=fun e=>by have:=ah.2 e; omega
     have HV:Hid (yZ (xH gx la false lb)=if yv (zv gx (zo la)) (zv false (zo lb))=1 then 0 else 8):=by
      show yZ (xH gx la false lb)=_
      by_cases hg:yv (zv gx (zo la)) (zv false (zo lb))=1
      . rw[E8 hg]; exact E8 ⟨h1,h2,rfl,bl,hg⟩
      . rw[E9 hg]; exact E9 (fun h=>hg h.2.2.2.2)
     obtain⟨G,hG⟩:∃G,yv (zv gx (zo la)) (zv false (zo lb))=G:=⟨_,rfl⟩;rw[hG]at aY HV;clear h1 h2 ah hG bl
     go_enter Tryz.func86,Tryz.ntmps86
     go_wp2_with fail
     refine(Y _ zh).mono ?_;rintro e w1 ⟨rfl,a9⟩;have st:zf _ w1:=a9;have N:=bA w st;have of:ai w1 w.heap.size 28 #[Ez gx,Ex aa n ca,Ez false,Ex ab m cb]:=ai.aw st;clear st;have B:=N;clear N;obtain⟨E,I,M,J,ff,lf⟩:=of.s3;clear Y;go_wp2_with fail
     refine(Z _ B).mono ?_;rintro e w2 ⟨rfl,aX⟩;have st:zf _ w2:=aX;have N:=bA w st;have nf:=of.aG st;clear B of E I M J ff lf;clear st;have B:=N;clear N;have of:=nf;clear nf;obtain⟨E,I,M,J,ff,lf⟩:=of.s3;clear Z;go_wp2_with fail
     refine(aY _ B).mono ?_;rintro e w3 ⟨vg,rfl,be,bt,st⟩;have N:=bA w st;have nf:=of.aG st;clear B of E I M J ff lf;clear st;have B:=N;clear N;have of:=nf;clear nf;obtain⟨E,I,M,J,ff,lf⟩:=of.s3;clear aY;obtain⟨bg,ag,ng,cg,rfl⟩:=be.ak;have NG:=E6 be;clear be;go_wp2_with fail
     have cn:w.heap.size<w3.heap.size:=of.lt
     go_region_with (first
      | (go_at_call 104; refine(Xl 1 _ D5 D5).mono ?_; rintro e wv ⟨vo,rfl,bh,b9⟩; go_must (have ce:=E6 ((NG.out.ae zh).ae b9); obtain⟨cy,ci,cx,co,rfl⟩:=bh.ak; have NO:=E6 bh; clear bh; have st:zf _ wv:=b9; have N:=bA w st; have nf:ai wv w.heap.size 28 #[Ez gx,Ex aa n ca,Ez false,Ex ab m cb]:=ai.aw st; have ng:ai wv w3.heap.size 26 #[Ez bg,Ex ag ng cg]:=ai.aw st; clear B of E I M J ff lf; clear st; have B:=N; clear N; have of:=nf; clear nf; have E:Er wv ⟨w.heap.size,0,none⟩=some (Ez gx):=of.c 0 rfl; have I:Er wv ⟨w.heap.size,1,none⟩=some (Ex aa n ca):=of.c 1 rfl; have M:Er wv ⟨w.heap.size,2,none⟩=some (Ez false):=of.c 2 rfl; have J:Er wv ⟨w.heap.size,3,none⟩=some (Ex ab m cb):=of.c 3 rfl; have ff:=of.fr; have lf:=of.lt; have og:=ng; clear ng; have br:Er wv ⟨w3.heap.size,0,none⟩=some (Ez bg):=og.c 0 rfl; have bi:Er wv ⟨w3.heap.size,1,none⟩=some (Ex ag ng cg):=og.c 1 rfl; have fg:=og.fr; have lg:=og.lt))
      | (go_at_call 44; refine(UB _ ce.out NO.out bt (xZ (by unfold zi; omega))).mono ?_; rintro e wv ⟨rfl,b9⟩; go_must (have st:zf _ wv:=b9; have N:=bA w st; have nf:ai wv w.heap.size 28 #[Ez gx,Ex aa n ca,Ez false,Ex ab m cb]:=ai.aw st; have ng:ai wv w3.heap.size 26 #[Ez bg,Ex ag ng cg]:=ai.aw st; clear B of og E I M J ff lf br bi fg lg; clear st; have B:=N; clear N; have of:=nf; clear nf; have E:Er wv ⟨w.heap.size,0,none⟩=some (Ez gx):=of.c 0 rfl; have I:Er wv ⟨w.heap.size,1,none⟩=some (Ex aa n ca):=of.c 1 rfl; have M:Er wv ⟨w.heap.size,2,none⟩=some (Ez false):=of.c 2 rfl; have J:Er wv ⟨w.heap.size,3,none⟩=some (Ex ab m cb):=of.c 3 rfl; have ff:=of.fr; have lf:=of.lt; have og:=ng; clear ng; have br:Er wv ⟨w3.heap.size,0,none⟩=some (Ez bg):=og.c 0 rfl; have bi:Er wv ⟨w3.heap.size,1,none⟩=some (Ex ag ng cg):=og.c 1 rfl; have fg:=og.fr; have lg:=og.lt)))
     all_goals
      go_wp2
      all_goals go_returns
      .
       first
        | (
          have h:(!decide (G=1))=true:=by assumption
          have hn:¬G=1:=by simpa using h
          exact⟨yK (HV.out.trans (E9 hn)).symm,zh⟩)
      .
       first
        | (
          have h:(!decide (G=1))=false:=by assumption
          have hn:G=1:=by simpa using h
          exact⟨yK (HV.out.trans (E8 hn)).symm,zh⟩)
  .
   have E2:yZ (zS gy lb)=8:=E9 h2;rw[E2]at Z;have H:Hid (yZ (xH gx la gy lb)=8):=E9 (fun h=>h2 h.2.1);clear h1 h2 gc ah E1 E2
   go_enter Tryz.func86,Tryz.ntmps86
   go_wp2_with fail
   refine(Y _ zh).mono ?_;rintro e w1 ⟨rfl,a9⟩;have st:zf _ w1:=a9;have N:=bA w st;have of:ai w1 w.heap.size 28 #[Ez gx,Ex aa n ca,Ez gy,Ex ab m cb]:=ai.aw st;clear st;have B:=N;clear N;obtain⟨E,I,M,J,ff,lf⟩:=of.s3;clear Y;go_wp2_with fail
   refine(Z _ B).mono ?_;rintro e w2 ⟨rfl,st⟩;have N:=bA w st;have nf:=of.aG st;clear B of E I M J ff lf;clear st;have B:=N;clear N;have of:=nf;clear nf;obtain⟨E,I,M,J,ff,lf⟩:=of.s3;clear Z
   go_wp2
   go_returns
   exact⟨yK H.out.symm,zh⟩
 .
  have E1:yZ (zS gx la)=8:=E9 h1;rw[E1]at Y;have H:Hid (yZ (xH gx la gy lb)=8):=E9 (fun h=>h1 h.1);clear h1 gc ah E1 Z
  go_enter Tryz.func86,Tryz.ntmps86
  go_wp2_with fail
  refine(Y _ zh).mono ?_;rintro e w1 ⟨rfl,st⟩;have N:=bA w st;have of:ai w1 w.heap.size 28 #[Ez gx,Ex aa n ca,Ez gy,Ex ab m cb]:=ai.aw st;clear st;have B:=N;clear N;obtain⟨E,I,M,J,ff,lf⟩:=of.s3;clear Y
  go_wp2
  go_returns
  exact⟨yK H.out.symm,zh⟩
end
section
open Go.RowKit
variable {x y:Int} {va vb:Ef}
theorem Cx (w:Ee) (ha:az w va x) (hb:az w vb y) (fx:fits x) (fy:fits y) :
  Ed Ec 152 #[va,vb] w fun e E=>∃v,e = Eh (Ev #[v,Ey Ew (qX (x-y))])/\az E v (xp (x-y))/\zf w E:=by
 have ck:∀ (E:Ee) (q:Nat) (aa ab:Option Addr) (ca cb:Nat),ai E q 26 #[Ez (decide (x<0)),Ex aa (zp (zi x)).length ca,Ez (decide (y<0)),Ex ab (zp (zi y)).length cb]->aA E (Ex aa (zp (zi x)).length ca) (zp (zi x))->aA E (Ex ab (zp (zi y)).length cb) (zp (zi y))->
   Ed Ec 93 #[Ex (some ⟨q,0,none⟩) 2 2] E fun e w2=>e = Eh (Ey Ew 0)/\zf E w2:=fun E q aa ab ca cb hb h1 h2=>xG E hb h1 h2 fx fy
 obtain⟨ab,cb,rfl,pb⟩:=hb.parts;have en:zi (-y)=zi y:=by unfold zi; omega
 have ad:∀E,zf w E->Ed Ec 180 #[va,Ej #[Ez (!decide (y<0)),Ex ab (zp (zi y)).length cb]] E fun e w2=>∃v,e = Eh (Ev #[v,Ey Ew (qX (x-y))])/\az w2 v (xp (x-y))/\zf E w2:=fun E h=>by
  have:=QK (y:= -y) (gy:= !decide (y<0)) E (ha.ae h) (by rw[en]; exact pb.ae h) (by
   rcases Int.lt_trichotomy y 0 with h | h | h
   . right; rw[E_ h,E' D5]; rfl
   . left; omega
   . right; rw[E' (show ¬y<0 by omega),E_ D5]; rfl) fx (by unfold fits; rw[en]; exact fy)
  rw[<- Int.sub_eq_add_neg]at this;exact this
 obtain⟨aa,ca,rfl,pa⟩:=ha.parts;have H:=fun(E:Ee) (q:Nat)=>ck E q aa ab ca cb;obtain⟨n,hn⟩:∃n,(zp (zi x)).length=n:=⟨_,rfl⟩;obtain⟨m,hm⟩:∃m,(zp (zi y)).length=m:=⟨_,rfl⟩;rw[hn]at pa ad|-;rw[hm]at pb ad|-;simp only[hn,hm]at H;obtain⟨gx,I⟩:∃b,decide (x<0)=b:=⟨_,rfl⟩;obtain⟨gy,J⟩:∃b,decide (y<0)=b:=⟨_,rfl⟩;rw[I,J]at ad|-;simp only[I,J]at H;clear ha hb hn hm I J fx fy ck en
 go_enter Tryz.func152,Tryz.ntmps152
 go_wp2_with fail
 refine(H _ _ Qt (pa.ae zh) (pb.ae zh)).mono ?_;rintro e w1 ⟨rfl,st⟩;have Bn:=bA w st;have oa:ai w1 w.heap.size 26 #[Ez gx,Ex aa n ca]:=ai.aw st;have ob:ai w1 (w.heap.size+1) 26 #[Ez gy,Ex ab m cb]:=ai.aw st;have or:ai w1 (w.heap.size+1+1) 26 #[Ez false,Ex none 0 0]:=ai.aw st;clear st;have B:=Bn;clear Bn;obtain⟨a9,N,fa,la⟩:=oa.s1;obtain⟨aX,ah,fb,lb⟩:=ob.s1;obtain⟨Z,Y,fr,lr⟩:=or.s1;clear H;go_wp2_with fail
 refine(ad _ zh).mono ?_;rintro e w2 ⟨v2,rfl,M,st⟩;have Bn:=bA w st;have na:=oa.aG st;have nr:=or.aG st;clear B oa ob or a9 N fa la aX ah fb lb Z Y fr lr;clear st;have B:=Bn;clear Bn;have oa:=na;clear na;obtain⟨a9,N,fa,la⟩:=oa.s1;have or:=nr;clear nr;obtain⟨Z,Y,fr,lr⟩:=or.s1;clear ad;obtain⟨bb,ao,k,c,rfl⟩:=M.ak;have HV:=E6 M;clear M
 go_wp2
 refine En (by simp[results,Tryz.results152,go_sem,a9,N,fa,la,Z,Y,fr,lr]; rfl) rfl ?_;exact⟨_,rfl,HV.out.aN or,zh⟩
theorem Xu (w:Ee) (ha:az w va x) (hb:az w vb y) (fx:fits x) (fy:fits y) (hy:y≠0) (bg:(decide (x<0)=decide (y<0))) (hZ:(zi x%zi y=0)\/(0<zi x%zi y)) :
  Ed Ec 132 #[va,vb] w fun e E=>∃q r,e = Eh (Ev #[q,r,Ey Ew 0])/\az E q (xl x y)/\az E r (xz x y)/\zf w E:=by
 have ck:∀ (E:Ee) (q:Nat) (aa ab:Option Addr) (ca cb:Nat),ai E q 26 #[Ez (decide (x<0)),Ex aa (zp (zi x)).length ca,Ez (decide (y<0)),Ex ab (zp (zi y)).length cb]->aA E (Ex aa (zp (zi x)).length ca) (zp (zi x))->aA E (Ex ab (zp (zi y)).length cb) (zp (zi y))->
   Ed Ec 93 #[Ex (some ⟨q,0,none⟩) 2 2] E fun e w2=>e = Eh (Ey Ew 0)/\zf E w2:=fun E q aa ab ca cb hb H I=>xG E hb H I fx fy
 have F:=kC (x:=x) hy;have fq:fits (xl x y):=yE F.1 fx;have bh:fits (xz x y):=yE F.2.1 fy;have bt:0<zi y:=by unfold zi; omega
 have q0:0<=zi x / zi y:=Int.ediv_nonneg (zA x) D5;have m0:=Int.emod_nonneg (zi x) (show zi y≠0 by omega);have m1:=Int.emod_lt_of_pos (zi x) bt;have lq:(zp (zi x / zi y)).length<=4096:=Nat.le_trans (xe q0 F.2.2.1) fx;have ce:(zp (zi x%zi y)).length<=4096:=Nat.le_trans (xe m0 F.2.2.2) fy;obtain⟨aa,ca,rfl,pa⟩:=ha.parts;obtain⟨ab,cb,rfl,pb⟩:=hb.parts;have bi:=fun(E:Ee) (q:Nat)=>ck E q aa ab ca cb
 have dv:∀E,zf w E->Ed Ec 135 #[Ex aa (zp (zi x)).length ca,Ex ab (zp (zi y)).length cb] E fun e w2=>∃q r,e = Eh (Ev #[q,r])/\aA w2 q (zp (zi x / zi y))/\aA w2 r (zp (zi x%zi y))/\zf E w2:=fun E h=>
  Yf E (pa.ae h) (pb.ae h) (zA x) D5 (by unfold fits at fx; omega) (by unfold fits at fy; omega)
 have y0:0<(zp (zi y)).length:=List.length_pos_iff.2 (fun e=>by have:=(zY (zA y)).1 e; omega);have VY:=zD (zA y);have Y1:(zp (zi y)).length<=4096:=fy;unfold fits at fx fy;obtain⟨n,hn⟩:∃n,(zp (zi x)).length=n:=⟨_,rfl⟩;obtain⟨m,hm⟩:∃m,(zp (zi y)).length=m:=⟨_,rfl⟩;rw[hn]at pa dv|-;rw[hm]at pb dv y0 Y1|-;simp only[hn,hm]at bi;obtain⟨gx,b9⟩:∃b,decide (x<0)=b:=⟨_,rfl⟩;obtain⟨gy,be⟩:∃b,decide (y<0)=b:=⟨_,rfl⟩;have HS:Hid (decide (x<0)=gx/\decide (y<0)=gy):=⟨b9,be⟩;rw[b9,be]at bg|-;simp only[b9,be]at bi;have VQ:=zD q0;have VR:=zD m0;have bl:(zp (zi x%zi y)).length=0↔zi x%zi y=0:=List.length_eq_zero_iff.trans (zY m0);have DS:=YA b9 (bg▸be) hy
 have co:∀E v l,aA E v l->zo l=zi x / zi y->l.length<=zP->Ed Ec 94 #[Ez false,v] E fun e w2=>∃v',e = Eh (Ev #[v',Ey Ew 0])/\az w2 v' (xl x y)/\zf E w2:=fun E v l h H I=>by
  have:=qp false E h I;rw[H,show zv false (zi x / zi y)=xl x y from by exact DS.1.symm,zM fq,zH fq]at this;exact this
 have cy:∀E v l,aA E v l->zo l=zi x%zi y->l.length<=zP->Ed Ec 94 #[Ez gx,v] E fun e w2=>∃v',e = Eh (Ev #[v',Ey Ew 0])/\az w2 v' (xz x y)/\zf E w2:=fun E v l h H I=>by
  have:=qp gx E h I;rw[H,show zv gx (zi x%zi y)=xz x y from by exact DS.2.symm,zM bh,zH bh]at this;exact this
 have HF:=E6 (E7 VQ (E7 VR (E7 lq (E7 ce VY))));have HM:=E6 (E7 m1 (E7 hm m0));obtain⟨k,hk⟩:∃k,(zp (zi x%zi y)).length=k:=⟨_,rfl⟩;rw[hk]at bl
 rcases hZ with hZ | hZ
 focus
  have d9:k=0:=bl.2 hZ;have HK:=E6 hk;clear ha hb hn hm b9 be fx fy ck DS F bt q0 m0 m1 lq ce VY VQ VR hy bl hk hZ fq bh;subst bg;subst d9
 rotate_left
 focus
  have d9:0<k:=D5
  have HK:=E6 hk;clear ha hb hn hm b9 be fx fy ck DS F bt q0 m0 m1 lq ce VY VQ VR hy bl hk hZ fq bh;subst bg
 all_goals
  go_enter Tryz.func132,Tryz.ntmps132
  go_wp2_with fail
  refine(bi _ _ Qt (pa.ae zh) (pb.ae zh)).mono ?_;rintro e w1 ⟨rfl,st⟩;have Bn:=bA w st;have oa:ai w1 w.heap.size 26 #[Ez gx,Ex aa n ca]:=ai.aw st;have ob:ai w1 (w.heap.size+1) 26 #[Ez gx,Ex ab m cb]:=ai.aw st;have or:ai w1 (w.heap.size+1+1) 26 #[Ez false,Ex none 0 0]:=ai.aw st;have M:ai w1 (w.heap.size+1+1+1) 26 #[Ez false,Ex none 0 0]:=ai.aw st;clear st;have B:=Bn;clear Bn;obtain⟨aY,a9,fa,la⟩:=oa.s1;obtain⟨aX,ah,fb,lb⟩:=ob.s1;obtain⟨Y,Z,fr,lr⟩:=or.s1;obtain⟨N,J,ft,lt⟩:=M.s1;clear bi;go_wp2_with fail
  refine(dv _ B).mono ?_;rintro e w2 ⟨sq,sr,rfl,hq,hr,st⟩;have Bn:=bA w st;have na:=oa.aG st;have nb:=ob.aG st;have nr:=or.aG st;have nt:=M.aG st;clear B oa ob or M aY a9 fa la aX ah fb lb Y Z fr lr N J ft lt;clear st;have B:=Bn;clear Bn;have oa:=na;clear na;obtain⟨aY,a9,fa,la⟩:=oa.s1;have ob:=nb;clear nb;obtain⟨aX,ah,fb,lb⟩:=ob.s1;have or:=nr;clear nr;obtain⟨Y,Z,fr,lr⟩:=or.s1;have M:=nt;clear nt;obtain⟨N,J,ft,lt⟩:=M.s1;clear dv;obtain⟨aq,cq,rfl⟩:=hq.ak;obtain⟨ar,cr,rfl⟩:=hr.ak;rw[HK.out]at hr|-;obtain⟨nq,br⟩:∃k,(zp (zi x / zi y)).length=k:=⟨_,rfl⟩;rw[br]at hq|-;have dl:=E6 br;clear br;go_wp2_with fail
  refine(co _ _ _ hq HF.out.1 (by have:=HF.out.2.2.1; unfold zP; omega)).mono ?_;rintro e w3 ⟨v7,rfl,ci,dc⟩;have st:zf _ w3:=dc;have Bn:=bA w st;have na:=oa.aG st;have nb:=ob.aG st;have nr:=or.aG st;have nt:=M.aG st;clear B oa ob or M aY a9 fa la aX ah fb lb Y Z fr lr N J ft lt;clear st;have B:=Bn;clear Bn;have oa:=na;clear na;obtain⟨aY,a9,fa,la⟩:=oa.s1;have ob:=nb;clear nb;obtain⟨aX,ah,fb,lb⟩:=ob.s1;have or:=nr;clear nr;obtain⟨Y,Z,fr,lr⟩:=or.s1;have M:=nt;clear nt;obtain⟨N,J,ft,lt⟩:=M.s1;clear co;have dk:=hr.ae dc;clear hr hq;obtain⟨b7,a7,n7,c7,rfl⟩:=ci.ak;have N7:=E6 ci;clear ci;have cU:=or;go_wp2_with fail
  refine(cy _ _ _ (aA.aN dk or) HF.out.2.1 (by have:=HF.out.2.2.2.1; unfold zP; omega)).mono ?_;rintro e w4 ⟨v8,rfl,cg,cx⟩;have st:zf _ w4:=cx;have Bn:=bA w st;have na:=oa.aG st;have nb:=ob.aG st;replace or:ai w4 (w.heap.size+1+1) 26 #[Ez b7,Ex a7 n7 c7]:=ai.aw st;have nt:=M.aG st;clear B oa ob M aY a9 fa la aX ah fb lb Y Z fr lr N J ft lt;clear st;have B:=Bn;clear Bn;have oa:=na;clear na;obtain⟨aY,a9,fa,la⟩:=oa.s1;have ob:=nb;clear nb;obtain⟨aX,ah,fb,lb⟩:=ob.s1;obtain⟨Y,Z,fr,lr⟩:=or.s1;have M:=nt;clear nt;obtain⟨N,J,ft,lt⟩:=M.s1;clear cy;have N9:=E6 ((N7.out.aN cU).ae cx);clear cU;obtain⟨b8,a8,n8,c8,rfl⟩:=cg.ak;have N8:=E6 cg;clear cg;go_wp2_with fail
  clear aY a9 fa la aX ah fb lb
  refine aj.aI (fun D v W=>ai W (w.heap.size+1+1) 26 #[Ez b7,Ex a7 n7 c7]/\ai W (w.heap.size+1+1+1) 26 #[Ez b8,Ex a8 n8 c8]/\Below w.heap.size w W/\az W (Ej #[Ez b7,Ex a7 n7 c7]) (xl x y)/\az W (Ej #[Ez b8,Ex a8 n8 c8]) (xz x y))
   (aj.inl [3,4]) (aj.ge []) aj.aR (fun _=>aj.Any) (fun _ _=>False) (aj.pl []) (aj.pl []) D6 D6 D6 (aj.cH _) (fun v=> ?_) (fun _ _ _ _ _ h=>h) (fun _ _ _ _ _ _ _ _ _ _ _ _ _=>aj.none_) (fun _ _ _ _ h=>h.elim) (fun cN Q' cn hQ=> ?_)
  . exact⟨(((or.aH D5).aH D5).drew:ai (World.drew _) _ _ _),M.both.drew,zh,(N9.out.aN M).cI,(N8.out.aN M).cI⟩
  clear N9 N8 or M B;apply aj.RP rfl rfl rfl 72 rfl rfl
  .
   intro D v' W' hc hj hf K hK;have c0:W'.cell? ⟨w.heap.size+1+1,0,none⟩=some (Ez b7):=hj.1.c 0 rfl;have c1:W'.cell? ⟨w.heap.size+1+1,1,none⟩=some (Ex a7 n7 c7):=hj.1.c 1 rfl;go_step;exact hK.out
  . rfl
  apply aj.RP rfl rfl rfl 73 rfl rfl
  .
   intro D v' W' hc hj hf K hK;have c0:W'.cell? ⟨w.heap.size+1+1+1,0,none⟩=some (Ez b8):=hj.2.1.c 0 rfl;have c1:W'.cell? ⟨w.heap.size+1+1+1,1,none⟩=some (Ex a8 n8 c8):=hj.2.1.c 1 rfl;go_step;exact hK.out
  . rfl
  refine aj.aD 74 ?_;refine aj.dL (fun D v' W' hc hj hf K hK=> ?_) (fun _ _=>aj.aB (b:=⟨_,[]⟩) rfl ?_)
  .
   obtain⟨H,I,h3,h4,h5⟩:=hj;have c0:W'.cell? ⟨w.heap.size+1+1,0,none⟩=some (Ez b7):=H.c 0 rfl;have c1:W'.cell? ⟨w.heap.size+1+1,1,none⟩=some (Ex a7 n7 c7):=H.c 1 rfl;have ff:=H.fr;go_step;exact hK.out undef _ aj.any ⟨H.both,(I.aH D5).aH D5,(Below.setCell (p:=⟨w.heap.size+1+1,1,none⟩) (Below.setCell (p:=⟨w.heap.size+1+1,0,none⟩) h3 (show w.heap.size<=w.heap.size+1+1 by omega) _) (show w.heap.size<=w.heap.size+1+1 by omega) _),h4.aN H,h5.aN H⟩ aj.none_ trivial
  refine aj.dL (fun D v' W' hc hj hf K hK=> ?_) (fun _ _=>aj.aB (b:=⟨_,[]⟩) rfl ?_)
  .
   obtain⟨H,I,h3,h4,h5⟩:=hj;have c0:W'.cell? ⟨w.heap.size+1+1+1,0,none⟩=some (Ez b8):=I.c 0 rfl;have c1:W'.cell? ⟨w.heap.size+1+1+1,1,none⟩=some (Ex a8 n8 c8):=I.c 1 rfl;have ff:=I.fr;go_step;exact hK.out undef _ aj.any ⟨(H.aH D5).aH D5,I.both,(Below.setCell (p:=⟨w.heap.size+1+1+1,1,none⟩) (Below.setCell (p:=⟨w.heap.size+1+1+1,0,none⟩) h3 (show w.heap.size<=w.heap.size+1+1+1 by omega) _) (show w.heap.size<=w.heap.size+1+1+1 by omega) _),h4.aN I,h5.aN I⟩ aj.none_ trivial
  refine aj.aD 6 ?_;refine aj.aF (fun Dn v' W' hd hj hf=> ?_);clear hd hf;refine hQ _ _ ?_;clear hQ cn Q' cN;obtain⟨H,I,h3,h4,h5⟩:=hj;have Y:W'.cell? ⟨w.heap.size+1+1,0,none⟩=some (Ez b7):=H.c 0 rfl;have Z:W'.cell? ⟨w.heap.size+1+1,1,none⟩=some (Ex a7 n7 c7):=H.c 1 rfl;have fr:=H.fr;have lr:=H.lt;have N:W'.cell? ⟨w.heap.size+1+1+1,0,none⟩=some (Ez b8):=I.c 0 rfl;have J:W'.cell? ⟨w.heap.size+1+1+1,1,none⟩=some (Ex a8 n8 c8):=I.c 1 rfl;have ft:=I.fr;have lt:=I.lt
  go_wp2
  refine En (by simp[results,Tryz.results132,go_sem,Y,Z,fr,lr,N,J,ft,lt]; rfl) rfl ?_;exact⟨_,_,rfl,h4,h5,h3⟩
theorem JR (w:Ee) (J:az w va x) (Y:az w vb y) (N:fits x) (I:fits y) (M:y≠0) (E:(decide (x<0)=decide (y<0))) (hZ:zi x%zi y=0) :
  Ed Ec 132 #[va,vb] w fun e H=>∃q r,e = Eh (Ev #[q,r,Ey Ew 0])/\az H q (xl x y)/\az H r (xz x y)/\zf w H:=
 Xu w J Y N I M E (.inl hZ)
theorem JS (w:Ee) (J:az w va x) (Y:az w vb y) (N:fits x) (I:fits y) (M:y≠0) (E:(decide (x<0)=decide (y<0))) (hZ:0<zi x%zi y) :
  Ed Ec 132 #[va,vb] w fun e H=>∃q r,e = Eh (Ev #[q,r,Ey Ew 0])/\az H q (xl x y)/\az H r (xz x y)/\zf w H:=
 Xu w J Y N I M E (.inr hZ)
theorem JT (w:Ee) (ha:az w va x) (hb:az w vb y) (fx:fits x) (fy:fits y) (hy:y≠0) (bi:¬(decide (x<0)=decide (y<0))) (hZ:0<zi x%zi y) :
  Ed Ec 132 #[va,vb] w fun e E=>∃q r,e = Eh (Ev #[q,r,Ey Ew 0])/\az E q (xl x y)/\az E r (xz x y)/\zf w E:=by
 have ck:∀ (E:Ee) (q:Nat) (aa ab:Option Addr) (ca cb:Nat),ai E q 26 #[Ez (decide (x<0)),Ex aa (zp (zi x)).length ca,Ez (decide (y<0)),Ex ab (zp (zi y)).length cb]->aA E (Ex aa (zp (zi x)).length ca) (zp (zi x))->aA E (Ex ab (zp (zi y)).length cb) (zp (zi y))->
   Ed Ec 93 #[Ex (some ⟨q,0,none⟩) 2 2] E fun e w2=>e = Eh (Ey Ew 0)/\zf E w2:=fun E q aa ab ca cb hb h1 h2=>xG E hb h1 h2 fx fy
 have F:=kC (x:=x) hy;have fq:fits (xl x y):=yE F.1 fx;have bl:fits (xz x y):=yE F.2.1 fy;have dy:0<zi y:=by unfold zi; omega
 have q0:0<=zi x / zi y:=Int.ediv_nonneg (zA x) D5;have m0:=Int.emod_nonneg (zi x) (show zi y≠0 by omega);have m1:=Int.emod_lt_of_pos (zi x) dy;have lq:(zp (zi x / zi y)).length<=4096:=Nat.le_trans (xe q0 F.2.2.1) fx;have ey:(zp (zi x%zi y)).length<=4096:=Nat.le_trans (xe m0 F.2.2.2) fy;obtain⟨aa,ca,rfl,pa⟩:=ha.parts;obtain⟨ab,cb,rfl,pb⟩:=hb.parts;have be:=fun(E:Ee) (q:Nat)=>ck E q aa ab ca cb
 have dv:∀E,zf w E->Ed Ec 135 #[Ex aa (zp (zi x)).length ca,Ex ab (zp (zi y)).length cb] E fun e w2=>∃q r,e = Eh (Ev #[q,r])/\aA w2 q (zp (zi x / zi y))/\aA w2 r (zp (zi x%zi y))/\zf E w2:=fun E h=>
  Yf E (pa.ae h) (pb.ae h) (zA x) D5 (by unfold fits at fx; omega) (by unfold fits at fy; omega)
 have y0:0<(zp (zi y)).length:=List.length_pos_iff.2 (fun e=>by have:=(zY (zA y)).1 e; omega);have VY:=zD (zA y);have Y1:(zp (zi y)).length<=4096:=fy;unfold fits at fx fy;obtain⟨n,hn⟩:∃n,(zp (zi x)).length=n:=⟨_,rfl⟩;obtain⟨m,hm⟩:∃m,(zp (zi y)).length=m:=⟨_,rfl⟩;rw[hn]at pa dv|-;rw[hm]at pb dv y0 Y1|-;simp only[hn,hm]at be;obtain⟨gx,b9⟩:∃b,decide (x<0)=b:=⟨_,rfl⟩;obtain⟨gy,aY⟩:∃b,decide (y<0)=b:=⟨_,rfl⟩;have HS:Hid (decide (x<0)=gx/\decide (y<0)=gy):=⟨b9,aY⟩;rw[b9,aY]at bi|-;simp only[b9,aY]at be;have VQ:=zD q0;have VR:=zD m0;have dP:(zp (zi x%zi y)).length=0↔zi x%zi y=0:=List.length_eq_zero_iff.trans (zY m0);have DS:=(Zf b9 aY bi hy).2 hZ;have cU:gx = !gy:=by cases gx<;>cases gy<;>simp_all
 have cx:∀E v l,aA E v l->zo l=zi x / zi y+1->l.length<=zP->Ed Ec 94 #[Ez true,v] E fun e w2=>∃v',e = Eh (Ev #[v',Ey Ew 0])/\az w2 v' (xl x y)/\zf E w2:=fun E v l h h1 h2=>by
  have:=qp true E h h2;rw[h1,show zv true (zi x / zi y+1)=xl x y from by rw[DS.1]; unfold zv; simp only[if_true]; omega,zM fq,zH fq]at this;exact this
 have dl:∀E v l,aA E v l->zo l=zi y-zi x%zi y->l.length<=zP->Ed Ec 94 #[Ez gy,v] E fun e w2=>∃v',e = Eh (Ev #[v',Ey Ew 0])/\az w2 v' (xz x y)/\zf E w2:=fun E v l h h1 h2=>by
  have:=qp gy E h h2;rw[h1,show zv gy (zi y-zi x%zi y)=xz x y from by rw[DS.2]; have Y:=yf y; subst cU; unfold zv; cases gy<;>simp at aY<;>simp<;>omega,zM bl,zH bl]at this;exact this
 have HF:=E6 (E7 VQ (E7 VR (E7 lq (E7 ey VY))));have HM:=E6 (E7 m1 (E7 hm m0));obtain⟨k,hk⟩:∃k,(zp (zi x%zi y)).length=k:=⟨_,rfl⟩;rw[hk]at dP;have fe:0<k:=D5
 have HK:=E6 hk;clear ha hb hn hm b9 aY fx fy ck DS F dy q0 m0 m1 lq ey VY VQ VR hy dP hk hZ fq bl;subst cU;clear bi
 go_enter Tryz.func132,Tryz.ntmps132
 go_wp2_with fail
 refine(be _ _ Qt (pa.ae zh) (pb.ae zh)).mono ?_;rintro e w1 ⟨rfl,st⟩;have Bn:=bA w st;have oa:ai w1 w.heap.size 26 #[Ez (!gy),Ex aa n ca]:=ai.aw st;have ob:ai w1 (w.heap.size+1) 26 #[Ez gy,Ex ab m cb]:=ai.aw st;have or:ai w1 (w.heap.size+1+1) 26 #[Ez false,Ex none 0 0]:=ai.aw st;have I:ai w1 (w.heap.size+1+1+1) 26 #[Ez false,Ex none 0 0]:=ai.aw st;clear st;have B:=Bn;clear Bn;obtain⟨aX,Z,fa,la⟩:=oa.s1;obtain⟨ah,a9,fb,lb⟩:=ob.s1;obtain⟨M,N,fr,lr⟩:=or.s1;obtain⟨J,H,ft,lt⟩:=I.s1;clear be;go_wp2_with fail
 refine(dv _ B).mono ?_;rintro e w2 ⟨sq,sr,rfl,hq,hr,st⟩;have Bn:=bA w st;have na:=oa.aG st;have nb:=ob.aG st;have nr:=or.aG st;have nt:=I.aG st;clear B oa ob or I aX Z fa la ah a9 fb lb M N fr lr J H ft lt;clear st;have B:=Bn;clear Bn;have oa:=na;clear na;obtain⟨aX,Z,fa,la⟩:=oa.s1;have ob:=nb;clear nb;obtain⟨ah,a9,fb,lb⟩:=ob.s1;have or:=nr;clear nr;obtain⟨M,N,fr,lr⟩:=or.s1;have I:=nt;clear nt;obtain⟨J,H,ft,lt⟩:=I.s1;clear dv;obtain⟨aq,cq,rfl⟩:=hq.ak;obtain⟨ar,cr,rfl⟩:=hr.ak;rw[HK.out]at hr|-;obtain⟨nq,bt⟩:∃k,(zp (zi x / zi y)).length=k:=⟨_,rfl⟩;rw[bt]at hq|-;have fl:=E6 bt;clear bt;have dk:=E6 hr;clear hr;have eW:=E6 (pb.ae B);go_wp2_with fail
 refine(Gt _ (hq.ae ((Et _ _).alloc (Eo _) _)) (aA.one (x:=1) D5 D5) (by have:=HF.out.2.2.1; unfold zP; omega) (by unfold zP; simp)).mono ?_;rintro e w3 ⟨v5,l5,rfl,bh,em,cy,er⟩;have st:zf _ w3:=er;have Bn:=bA w st;have na:=oa.aG st;have nb:=ob.aG st;have nr:=or.aG st;have nt:=I.aG st;clear B oa ob or I aX Z fa la ah a9 fb lb M N fr lr J H ft lt;clear st;have B:=Bn;clear Bn;have oa:=na;clear na;obtain⟨aX,Z,fa,la⟩:=oa.s1;have ob:=nb;clear nb;obtain⟨ah,a9,fb,lb⟩:=ob.s1;have or:=nr;clear nr;obtain⟨M,N,fr,lr⟩:=or.s1;have I:=nt;clear nt;obtain⟨J,H,ft,lt⟩:=I.s1;have H5:Hid (zo l5=zi x / zi y+1/\l5.length<=zP):=⟨by rw[em,HF.out.1]; simp[zo],by rw[cy]; have:=HF.out.2.2.1; simp; unfold zP; omega⟩;clear em cy hq;obtain⟨a5,c5,rfl⟩:=bh.ak;obtain⟨n5,ce⟩:∃k,l5.length=k:=⟨_,rfl⟩;rw[ce]at bh|-;have f9:=E6 ce;clear ce;have f7:=E6 (pb.ae B);have f8:=E6 (dk.out.ae (((Et _ _).alloc (Eo _) _).trans (er.mono D8)));go_wp2_with fail
 refine(JN _ f7.out f8.out (by have:=HM.out.2.1; unfold zP; omega) (xe HM.out.2.2 (by have:=HM.out.1; omega)) (by rw[HF.out.2.1,HF.out.2.2.2.2]; have:=HM.out.1; omega)).mono ?_;rintro e w4 ⟨v6,l6,rfl,bg,dz,co,cN⟩;have st:zf _ w4:=cN;have Bn:=bA w st;have na:=oa.aG st;have nb:=ob.aG st;have nr:=or.aG st;have nt:=I.aG st;clear B oa ob or I aX Z fa la ah a9 fb lb M N fr lr J H ft lt;clear st;have B:=Bn;clear Bn;have oa:=na;clear na;obtain⟨aX,Z,fa,la⟩:=oa.s1;have ob:=nb;clear nb;obtain⟨ah,a9,fb,lb⟩:=ob.s1;have or:=nr;clear nr;obtain⟨M,N,fr,lr⟩:=or.s1;have I:=nt;clear nt;obtain⟨J,H,ft,lt⟩:=I.s1;have H6:Hid (zo l6=zi y-zi x%zi y/\l6.length<=zP):=⟨by rw[dz,HF.out.2.1,HF.out.2.2.2.2],by rw[co,HM.out.2.1]; unfold zP; omega⟩;clear dz co eW dk;obtain⟨a6,c6,rfl⟩:=bg.ak;obtain⟨n6,br⟩:∃k,l6.length=k:=⟨_,rfl⟩;rw[br]at bg|-;have fd:=E6 br;clear br;have dc:=bh.ae cN;clear bh;go_wp2_with fail
 refine(cx _ _ _ dc H5.out.1 H5.out.2).mono ?_;rintro e w5 ⟨v7,rfl,ci,eM⟩;have st:zf _ w5:=eM;have Bn:=bA w st;have na:=oa.aG st;have nb:=ob.aG st;have nr:=or.aG st;have nt:=I.aG st;clear B oa ob or I aX Z fa la ah a9 fb lb M N fr lr J H ft lt;clear st;have B:=Bn;clear Bn;have oa:=na;clear na;obtain⟨aX,Z,fa,la⟩:=oa.s1;have ob:=nb;clear nb;obtain⟨ah,a9,fb,lb⟩:=ob.s1;have or:=nr;clear nr;obtain⟨M,N,fr,lr⟩:=or.s1;have I:=nt;clear nt;obtain⟨J,H,ft,lt⟩:=I.s1;clear cx;have dx:=bg.ae eM;clear bg;obtain⟨b7,a7,n7,c7,rfl⟩:=ci.ak;have N7:=E6 ci;clear ci;have ek:=or;go_wp2_with fail
 refine(dl _ _ _ (aA.aN dx or) H6.out.1 H6.out.2).mono ?_;rintro e w6 ⟨v8,rfl,cg,d9⟩;have st:zf _ w6:=d9;have Bn:=bA w st;have na:=oa.aG st;have nb:=ob.aG st;replace or:ai w6 (w.heap.size+1+1) 26 #[Ez b7,Ex a7 n7 c7]:=ai.aw st;have nt:=I.aG st;clear B oa ob I aX Z fa la ah a9 fb lb M N fr lr J H ft lt;clear st;have B:=Bn;clear Bn;have oa:=na;clear na;obtain⟨aX,Z,fa,la⟩:=oa.s1;have ob:=nb;clear nb;obtain⟨ah,a9,fb,lb⟩:=ob.s1;obtain⟨M,N,fr,lr⟩:=or.s1;have I:=nt;clear nt;obtain⟨J,H,ft,lt⟩:=I.s1;clear dl;have N9:=E6 ((N7.out.aN ek).ae d9);clear ek;obtain⟨b8,a8,n8,c8,rfl⟩:=cg.ak;have N8:=E6 cg;clear cg;go_wp2_with fail
 clear aX Z fa la ah a9 fb lb
 refine aj.aI (fun D v W=>ai W (w.heap.size+1+1) 26 #[Ez b7,Ex a7 n7 c7]/\ai W (w.heap.size+1+1+1) 26 #[Ez b8,Ex a8 n8 c8]/\Below w.heap.size w W/\az W (Ej #[Ez b7,Ex a7 n7 c7]) (xl x y)/\az W (Ej #[Ez b8,Ex a8 n8 c8]) (xz x y))
  (aj.inl [3,4]) (aj.ge []) aj.aR (fun _=>aj.Any) (fun _ _=>False) (aj.pl []) (aj.pl []) D6 D6 D6 (aj.cH _) (fun v=> ?_) (fun _ _ _ _ _ h=>h) (fun _ _ _ _ _ _ _ _ _ _ _ _ _=>aj.none_) (fun _ _ _ _ h=>h.elim) (fun ed Q' cn hQ=> ?_)
 . exact⟨(((or.aH D5).aH D5).drew:ai (World.drew _) _ _ _),I.both.drew,zh,(N9.out.aN I).cI,(N8.out.aN I).cI⟩
 clear N9 N8 or I B;apply aj.RP rfl rfl rfl 72 rfl rfl
 .
  intro D v' W' hc hj hf K hK;have c0:W'.cell? ⟨w.heap.size+1+1,0,none⟩=some (Ez b7):=hj.1.c 0 rfl;have c1:W'.cell? ⟨w.heap.size+1+1,1,none⟩=some (Ex a7 n7 c7):=hj.1.c 1 rfl;go_step;exact hK.out
 . rfl
 apply aj.RP rfl rfl rfl 73 rfl rfl
 .
  intro D v' W' hc hj hf K hK;have c0:W'.cell? ⟨w.heap.size+1+1+1,0,none⟩=some (Ez b8):=hj.2.1.c 0 rfl;have c1:W'.cell? ⟨w.heap.size+1+1+1,1,none⟩=some (Ex a8 n8 c8):=hj.2.1.c 1 rfl;go_step;exact hK.out
 . rfl
 refine aj.aD 74 ?_;refine aj.dL (fun D v' W' hc hj hf K hK=> ?_) (fun _ _=>aj.aB (b:=⟨_,[]⟩) rfl ?_)
 .
  obtain⟨h1,h2,h3,h4,h5⟩:=hj;have c0:W'.cell? ⟨w.heap.size+1+1,0,none⟩=some (Ez b7):=h1.c 0 rfl;have c1:W'.cell? ⟨w.heap.size+1+1,1,none⟩=some (Ex a7 n7 c7):=h1.c 1 rfl;have ff:=h1.fr;go_step;exact hK.out undef _ aj.any ⟨h1.both,(h2.aH D5).aH D5,(Below.setCell (p:=⟨w.heap.size+1+1,1,none⟩) (Below.setCell (p:=⟨w.heap.size+1+1,0,none⟩) h3 (show w.heap.size<=w.heap.size+1+1 by omega) _) (show w.heap.size<=w.heap.size+1+1 by omega) _),h4.aN h1,h5.aN h1⟩ aj.none_ trivial
 refine aj.dL (fun D v' W' hc hj hf K hK=> ?_) (fun _ _=>aj.aB (b:=⟨_,[]⟩) rfl ?_)
 .
  obtain⟨h1,h2,h3,h4,h5⟩:=hj;have c0:W'.cell? ⟨w.heap.size+1+1+1,0,none⟩=some (Ez b8):=h2.c 0 rfl;have c1:W'.cell? ⟨w.heap.size+1+1+1,1,none⟩=some (Ex a8 n8 c8):=h2.c 1 rfl;have ff:=h2.fr;go_step;exact hK.out undef _ aj.any ⟨(h1.aH D5).aH D5,h2.both,(Below.setCell (p:=⟨w.heap.size+1+1+1,1,none⟩) (Below.setCell (p:=⟨w.heap.size+1+1+1,0,none⟩) h3 (show w.heap.size<=w.heap.size+1+1+1 by omega) _) (show w.heap.size<=w.heap.size+1+1+1 by omega) _),h4.aN h2,h5.aN h2⟩ aj.none_ trivial
 refine aj.aD 6 ?_;refine aj.aF (fun Dn v' W' hd hj hf=> ?_);clear hd hf;refine hQ _ _ ?_;clear hQ cn Q' ed;obtain⟨h1,h2,h3,h4,h5⟩:=hj;have M:W'.cell? ⟨w.heap.size+1+1,0,none⟩=some (Ez b7):=h1.c 0 rfl;have N:W'.cell? ⟨w.heap.size+1+1,1,none⟩=some (Ex a7 n7 c7):=h1.c 1 rfl;have fr:=h1.fr;have lr:=h1.lt;have J:W'.cell? ⟨w.heap.size+1+1+1,0,none⟩=some (Ez b8):=h2.c 0 rfl;have H:W'.cell? ⟨w.heap.size+1+1+1,1,none⟩=some (Ex a8 n8 c8):=h2.c 1 rfl;have ft:=h2.fr;have lt:=h2.lt
 go_wp2
 refine En (by simp[results,Tryz.results132,go_sem,M,N,fr,lr,J,H,ft,lt]; rfl) rfl ?_;exact⟨_,_,rfl,h4,h5,h3⟩
theorem JU (w:Ee) (ha:az w va x) (hb:az w vb y) (fx:fits x) (fy:fits y) (hy:y≠0) (bh:¬(decide (x<0)=decide (y<0))) (hZ:zi x%zi y=0) :
  Ed Ec 132 #[va,vb] w fun e E=>∃q r,e = Eh (Ev #[q,r,Ey Ew 0])/\az E q (xl x y)/\az E r (xz x y)/\zf w E:=by
 have ck:∀ (E:Ee) (q:Nat) (aa ab:Option Addr) (ca cb:Nat),ai E q 26 #[Ez (decide (x<0)),Ex aa (zp (zi x)).length ca,Ez (decide (y<0)),Ex ab (zp (zi y)).length cb]->aA E (Ex aa (zp (zi x)).length ca) (zp (zi x))->aA E (Ex ab (zp (zi y)).length cb) (zp (zi y))->
   Ed Ec 93 #[Ex (some ⟨q,0,none⟩) 2 2] E fun e w2=>e = Eh (Ey Ew 0)/\zf E w2:=fun E q aa ab ca cb hb H I=>xG E hb H I fx fy
 have F:=kC (x:=x) hy;have fq:fits (xl x y):=yE F.1 fx;have bi:fits (xz x y):=yE F.2.1 fy;have cy:0<zi y:=by unfold zi; omega
 have q0:0<=zi x / zi y:=Int.ediv_nonneg (zA x) D5;have m0:=Int.emod_nonneg (zi x) (show zi y≠0 by omega);have m1:=Int.emod_lt_of_pos (zi x) cy;have lq:(zp (zi x / zi y)).length<=4096:=Nat.le_trans (xe q0 F.2.2.1) fx;have dc:(zp (zi x%zi y)).length<=4096:=Nat.le_trans (xe m0 F.2.2.2) fy;obtain⟨aa,ca,rfl,pa⟩:=ha.parts;obtain⟨ab,cb,rfl,pb⟩:=hb.parts;have bg:=fun(E:Ee) (q:Nat)=>ck E q aa ab ca cb
 have dv:∀E,zf w E->Ed Ec 135 #[Ex aa (zp (zi x)).length ca,Ex ab (zp (zi y)).length cb] E fun e w2=>∃q r,e = Eh (Ev #[q,r])/\aA w2 q (zp (zi x / zi y))/\aA w2 r (zp (zi x%zi y))/\zf E w2:=fun E h=>
  Yf E (pa.ae h) (pb.ae h) (zA x) D5 (by unfold fits at fx; omega) (by unfold fits at fy; omega)
 have y0:0<(zp (zi y)).length:=List.length_pos_iff.2 (fun e=>by have:=(zY (zA y)).1 e; omega);have VY:=zD (zA y);have Y1:(zp (zi y)).length<=4096:=fy;unfold fits at fx fy;obtain⟨n,hn⟩:∃n,(zp (zi x)).length=n:=⟨_,rfl⟩;obtain⟨m,hm⟩:∃m,(zp (zi y)).length=m:=⟨_,rfl⟩;rw[hn]at pa dv|-;rw[hm]at pb dv y0 Y1|-;simp only[hn,hm]at bg;obtain⟨gx,b9⟩:∃b,decide (x<0)=b:=⟨_,rfl⟩;obtain⟨gy,be⟩:∃b,decide (y<0)=b:=⟨_,rfl⟩;have HS:Hid (decide (x<0)=gx/\decide (y<0)=gy):=⟨b9,be⟩;rw[b9,be]at bh|-;simp only[b9,be]at bg;have VQ:=zD q0;have VR:=zD m0;have br:(zp (zi x%zi y)).length=0↔zi x%zi y=0:=List.length_eq_zero_iff.trans (zY m0);have DS:=(Zf b9 be bh hy).1 hZ;have co:gx = !gy:=by cases gx<;>cases gy<;>simp_all
 have ci:∀E v l,aA E v l->zo l=zi x / zi y->l.length<=zP->Ed Ec 94 #[Ez true,v] E fun e w2=>∃v',e = Eh (Ev #[v',Ey Ew 0])/\az w2 v' (xl x y)/\zf E w2:=fun E v l h H I=>by
  have:=qp true E h I;rw[H,show zv true (zi x / zi y)=xl x y from by exact DS.1.symm,zM fq,zH fq]at this;exact this
 have cx:∀E v l,aA E v l->zo l=zi x%zi y->l.length<=zP->Ed Ec 94 #[Ez gy,v] E fun e w2=>∃v',e = Eh (Ev #[v',Ey Ew 0])/\az w2 v' (xz x y)/\zf E w2:=fun E v l h H I=>by
  have:=qp gy E h I;rw[H,show zv gy (zi x%zi y)=xz x y from by rw[DS.2,hZ]; subst co; cases gy<;>rfl,zM bi,zH bi]at this;exact this
 have HF:=E6 (E7 VQ (E7 VR (E7 lq (E7 dc VY))));have HM:=E6 (E7 m1 (E7 hm m0));obtain⟨k,hk⟩:∃k,(zp (zi x%zi y)).length=k:=⟨_,rfl⟩;rw[hk]at br;have dl:k=0:=br.2 hZ;have HK:=E6 hk;clear ha hb hn hm b9 be fx fy ck DS F cy q0 m0 m1 lq dc VY VQ VR hy br hk hZ fq bi;subst co;subst dl;clear bh
 go_enter Tryz.func132,Tryz.ntmps132
 go_wp2_with fail
 refine(bg _ _ Qt (pa.ae zh) (pb.ae zh)).mono ?_;rintro e w1 ⟨rfl,st⟩;have Bn:=bA w st;have oa:ai w1 w.heap.size 26 #[Ez (!gy),Ex aa n ca]:=ai.aw st;have ob:ai w1 (w.heap.size+1) 26 #[Ez gy,Ex ab m cb]:=ai.aw st;have or:ai w1 (w.heap.size+1+1) 26 #[Ez false,Ex none 0 0]:=ai.aw st;have M:ai w1 (w.heap.size+1+1+1) 26 #[Ez false,Ex none 0 0]:=ai.aw st;clear st;have B:=Bn;clear Bn;obtain⟨aY,a9,fa,la⟩:=oa.s1;obtain⟨aX,ah,fb,lb⟩:=ob.s1;obtain⟨Y,Z,fr,lr⟩:=or.s1;obtain⟨N,J,ft,lt⟩:=M.s1;clear bg;go_wp2_with fail
 refine(dv _ B).mono ?_;rintro e w2 ⟨sq,sr,rfl,hq,hr,st⟩;have Bn:=bA w st;have na:=oa.aG st;have nb:=ob.aG st;have nr:=or.aG st;have nt:=M.aG st;clear B oa ob or M aY a9 fa la aX ah fb lb Y Z fr lr N J ft lt;clear st;have B:=Bn;clear Bn;have oa:=na;clear na;obtain⟨aY,a9,fa,la⟩:=oa.s1;have ob:=nb;clear nb;obtain⟨aX,ah,fb,lb⟩:=ob.s1;have or:=nr;clear nr;obtain⟨Y,Z,fr,lr⟩:=or.s1;have M:=nt;clear nt;obtain⟨N,J,ft,lt⟩:=M.s1;clear dv;obtain⟨aq,cq,rfl⟩:=hq.ak;obtain⟨ar,cr,rfl⟩:=hr.ak;rw[HK.out]at hr|-;obtain⟨nq,bl⟩:∃k,(zp (zi x / zi y)).length=k:=⟨_,rfl⟩;rw[bl]at hq|-;have dx:=E6 bl;clear bl;go_wp2_with fail
 refine(ci _ _ _ hq HF.out.1 (by have:=HF.out.2.2.1; unfold zP; omega)).mono ?_;rintro e w3 ⟨v7,rfl,ce,d9⟩;have st:zf _ w3:=d9;have Bn:=bA w st;have na:=oa.aG st;have nb:=ob.aG st;have nr:=or.aG st;have nt:=M.aG st;clear B oa ob or M aY a9 fa la aX ah fb lb Y Z fr lr N J ft lt;clear st;have B:=Bn;clear Bn;have oa:=na;clear na;obtain⟨aY,a9,fa,la⟩:=oa.s1;have ob:=nb;clear nb;obtain⟨aX,ah,fb,lb⟩:=ob.s1;have or:=nr;clear nr;obtain⟨Y,Z,fr,lr⟩:=or.s1;have M:=nt;clear nt;obtain⟨N,J,ft,lt⟩:=M.s1;clear ci;have dk:=hr.ae d9;clear hr hq;obtain⟨b7,a7,n7,c7,rfl⟩:=ce.ak;have N7:=E6 ce;clear ce;have cU:=or;go_wp2_with fail
 refine(cx _ _ _ (aA.aN dk or) HF.out.2.1 (by have:=HF.out.2.2.2.1; unfold zP; omega)).mono ?_;rintro e w4 ⟨v8,rfl,bt,cn⟩;have st:zf _ w4:=cn;have Bn:=bA w st;have na:=oa.aG st;have nb:=ob.aG st;replace or:ai w4 (w.heap.size+1+1) 26 #[Ez b7,Ex a7 n7 c7]:=ai.aw st;have nt:=M.aG st;clear B oa ob M aY a9 fa la aX ah fb lb Y Z fr lr N J ft lt;clear st;have B:=Bn;clear Bn;have oa:=na;clear na;obtain⟨aY,a9,fa,la⟩:=oa.s1;have ob:=nb;clear nb;obtain⟨aX,ah,fb,lb⟩:=ob.s1;obtain⟨Y,Z,fr,lr⟩:=or.s1;have M:=nt;clear nt;obtain⟨N,J,ft,lt⟩:=M.s1;clear cx;have N9:=E6 ((N7.out.aN cU).ae cn);clear cU;obtain⟨b8,a8,n8,c8,rfl⟩:=bt.ak;have N8:=E6 bt;clear bt;go_wp2_with fail
 clear aY a9 fa la aX ah fb lb
 refine aj.aI (fun D v W=>ai W (w.heap.size+1+1) 26 #[Ez b7,Ex a7 n7 c7]/\ai W (w.heap.size+1+1+1) 26 #[Ez b8,Ex a8 n8 c8]/\Below w.heap.size w W/\az W (Ej #[Ez b7,Ex a7 n7 c7]) (xl x y)/\az W (Ej #[Ez b8,Ex a8 n8 c8]) (xz x y))
  (aj.inl [3,4]) (aj.ge []) aj.aR (fun _=>aj.Any) (fun _ _=>False) (aj.pl []) (aj.pl []) D6 D6 D6 (aj.cH _) (fun v=> ?_) (fun _ _ _ _ _ h=>h) (fun _ _ _ _ _ _ _ _ _ _ _ _ _=>aj.none_) (fun _ _ _ _ h=>h.elim) (fun cN Q' cg hQ=> ?_)
 . exact⟨(((or.aH D5).aH D5).drew:ai (World.drew _) _ _ _),M.both.drew,zh,(N9.out.aN M).cI,(N8.out.aN M).cI⟩
 clear N9 N8 or M B;apply aj.RP rfl rfl rfl 72 rfl rfl
 .
  intro D v' W' hc hj hf K hK;have c0:W'.cell? ⟨w.heap.size+1+1,0,none⟩=some (Ez b7):=hj.1.c 0 rfl;have c1:W'.cell? ⟨w.heap.size+1+1,1,none⟩=some (Ex a7 n7 c7):=hj.1.c 1 rfl;go_step;exact hK.out
 . rfl
 apply aj.RP rfl rfl rfl 73 rfl rfl
 .
  intro D v' W' hc hj hf K hK;have c0:W'.cell? ⟨w.heap.size+1+1+1,0,none⟩=some (Ez b8):=hj.2.1.c 0 rfl;have c1:W'.cell? ⟨w.heap.size+1+1+1,1,none⟩=some (Ex a8 n8 c8):=hj.2.1.c 1 rfl;go_step;exact hK.out
 . rfl
 refine aj.aD 74 ?_;refine aj.dL (fun D v' W' hc hj hf K hK=> ?_) (fun _ _=>aj.aB (b:=⟨_,[]⟩) rfl ?_)
 .
  obtain⟨H,I,h3,h4,h5⟩:=hj;have c0:W'.cell? ⟨w.heap.size+1+1,0,none⟩=some (Ez b7):=H.c 0 rfl;have c1:W'.cell? ⟨w.heap.size+1+1,1,none⟩=some (Ex a7 n7 c7):=H.c 1 rfl;have ff:=H.fr;go_step;exact hK.out undef _ aj.any ⟨H.both,(I.aH D5).aH D5,(Below.setCell (p:=⟨w.heap.size+1+1,1,none⟩) (Below.setCell (p:=⟨w.heap.size+1+1,0,none⟩) h3 (show w.heap.size<=w.heap.size+1+1 by omega) _) (show w.heap.size<=w.heap.size+1+1 by omega) _),h4.aN H,h5.aN H⟩ aj.none_ trivial
 refine aj.dL (fun D v' W' hc hj hf K hK=> ?_) (fun _ _=>aj.aB (b:=⟨_,[]⟩) rfl ?_)
 .
  obtain⟨H,I,h3,h4,h5⟩:=hj;have c0:W'.cell? ⟨w.heap.size+1+1+1,0,none⟩=some (Ez b8):=I.c 0 rfl;have c1:W'.cell? ⟨w.heap.size+1+1+1,1,none⟩=some (Ex a8 n8 c8):=I.c 1 rfl;have ff:=I.fr;go_step;exact hK.out undef _ aj.any ⟨(H.aH D5).aH D5,I.both,(Below.setCell (p:=⟨w.heap.size+1+1+1,1,none⟩) (Below.setCell (p:=⟨w.heap.size+1+1+1,0,none⟩) h3 (show w.heap.size<=w.heap.size+1+1+1 by omega) _) (show w.heap.size<=w.heap.size+1+1+1 by omega) _),h4.aN I,h5.aN I⟩ aj.none_ trivial
 refine aj.aD 6 ?_;refine aj.aF (fun Dn v' W' hd hj hf=> ?_);clear hd hf;refine hQ _ _ ?_;clear hQ cg Q' cN;obtain⟨H,I,h3,h4,h5⟩:=hj;have Y:W'.cell? ⟨w.heap.size+1+1,0,none⟩=some (Ez b7):=H.c 0 rfl;have Z:W'.cell? ⟨w.heap.size+1+1,1,none⟩=some (Ex a7 n7 c7):=H.c 1 rfl;have fr:=H.fr;have lr:=H.lt;have N:W'.cell? ⟨w.heap.size+1+1+1,0,none⟩=some (Ez b8):=I.c 0 rfl;have J:W'.cell? ⟨w.heap.size+1+1+1,1,none⟩=some (Ex a8 n8 c8):=I.c 1 rfl;have ft:=I.fr;have lt:=I.lt
 go_wp2
 refine En (by simp[results,Tryz.results132,go_sem,Y,Z,fr,lr,N,J,ft,lt]; rfl) rfl ?_;exact⟨_,_,rfl,h4,h5,h3⟩
theorem KM (w:Ee) (H:az w va x) (M:az w vb y) (J:fits x) (E:fits y) (I:y≠0) :
  Ed Ec 132 #[va,vb] w fun e N=>∃q r,e = Eh (Ev #[q,r,Ey Ew 0])/\az N q (xl x y)/\az N r (xz x y)/\zf w N:=by
 have Y:=Int.emod_nonneg (zi x) (show zi y≠0 by unfold zi; omega)
 by_cases hs:decide (x<0)=decide (y<0)
 .
  rcases Int.lt_or_le 0 (zi x%zi y)with h | h
  . exact JS w H M J E I hs h
  . exact JR w H M J E I hs D5
 .
  rcases Int.lt_or_le 0 (zi x%zi y)with h | h
  . exact JT w H M J E I hs h
  . exact JU w H M J E I hs D5
end
end Go.Proofs.YtffmbepfbienaaaGreat
