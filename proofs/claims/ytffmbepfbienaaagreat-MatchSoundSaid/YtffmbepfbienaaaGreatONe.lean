import Derived.Test.YtffmbepfbienaaaGreatOTl
set_option linter.unusedVariables false
set_option linter.unusedSimpArgs false
set_option maxHeartbeats 6400000
set_option maxRecDepth 1000000
open Go.Value renaming slice->Ex,bool->Ez,int->Ey,agg->Ej,tuple->Ev
open Go.IntKind renaming i64->Ew
open Go.Ending renaming returned->Eh
open Go.Proofs.Tryz renaming prog->Ed
open Go renaming Calls->Ee,World->Ef,Value->Ei,bodyPost_ret->Eo
open Nat renaming le_refl->Ep,lt_or_ge->Er
open Go.World renaming cell?->Es,size_alloc->Et
open Go.RowKit.Below renaming refl->Fz
namespace Go.Proofs.YtffmbepfbienaaaGreat
section
open Go.RowKit
variable {X x y:Int} {va vb:Ei}
theorem j' (w:Ef) (M:az w va x) (H:az w vb y) (J:fits x) (I:fits y) :
  Ee Ed 156 #[va,vb] w fun e E=>e = Eh (Ey Ew 0)/\zf w E:=by
 obtain⟨sa,rfl,la⟩:=M;obtain⟨sb,rfl,lb⟩:=H;have:=Ha (decide (x<0)) (decide (y<0)) w la lb;have e:yT (zU (decide (x<0)) (zp (zi x))/\zU (decide (y<0)) (zp (zi y)))=0:=E9 ⟨xy J,xy I⟩;rw[e]at this;exact this
def yn (x y:Int):Int:=((Int.gcd x y:Nat):Int)
theorem Qq (x y:Int):yn (zi x) (zi y)=yn x y:=by unfold yn zi; simp[Int.gcd]
theorem Xh {Y:Int} (h0:0<=X) (E:1<=Y):yn Y (X%Y)=yn X Y:=by
 unfold yn;obtain⟨a,rfl⟩:=Int.eq_ofNat_of_zero_le h0;obtain⟨b,rfl⟩:=Int.eq_ofNat_of_zero_le (show 0<=Y by omega);have e:((a:Int)%(b:Int))=((a%b:Nat):Int):=by simp
 rw[e];simp only[Int.gcd,Int.natAbs_natCast];rw[Nat.gcd_comm b,<- Nat.gcd_rec,Nat.gcd_comm]
theorem Xi (h0:0<=X):yn X 0=X:=by unfold yn; simp[Int.gcd]; omega
theorem yY (H:0<=x) (E:x<=y):(zp x).length<=(zp y).length:=by
 rcases Er (zp y).length (zp x).length with g | g
 . have:=ye (show 0<=y by omega) H g; omega
 . exact g
theorem qV (h:0<=X):zi X=X:=by unfold zi; omega
theorem UE {a d:Ei} {A D:Int} (w:Ef) (J:aA w a (zp A)) (hd:aA w d (zp D)) (M:0<=A) (H:1<=D) (I:(zp A).length<=aD) (N:(zp D).length<=aD) :
  Ee Ed 157 #[a,d] w fun e E=>∃q r,e = Eh (Ev #[q,r])/\aA E q (zp (A / D))/\aA E r (zp (A%D))/\zf w E:=by
 rcases Int.lt_or_le A D with h | h
 . exact Uu w J hd M H I N h
 .
  have Y:zp D≠ []:=fun e=>by have:=(zY (show 0<=D by omega)).1 e; omega
  have Z:=List.length_pos_iff.2 Y
  rcases Er (zp D).length 2 with g | g
  . exact VA w J hd M H I D6 h
  . exact Js (m:=(zp D).length-2) w J hd M H I D6 h
theorem BF (w:Ef) (ha:az w va x) (hb:az w vb y) (fx:fits x) (fy:fits y) :
  Ee Ed 125 #[va,vb] w fun e M=>∃v,e = Eh (Ev #[v,Ey Ew 0])/\az M v (yn x y)/\fits (yn x y)/\zf w M:=by
 have bo:∀M,zf w M->Ee Ed 156 #[va,vb] M fun e w2=>e = Eh (Ey Ew 0)/\zf M w2:=fun M h=>j' M (ha.ae h) (hb.ae h) fx fy;obtain⟨aa,ca,rfl,pa⟩:=ha.parts;obtain⟨ab,cb,rfl,pb⟩:=hb.parts;unfold fits at fx fy;obtain⟨n,hn⟩:∃n,(zp (zi x)).length=n:=⟨_,rfl⟩;obtain⟨m,hm⟩:∃m,(zp (zi y)).length=m:=⟨_,rfl⟩;rw[hn]at pa bo|-;rw[hm]at pb bo|-;obtain⟨gx,cn⟩:∃b,decide (x<0)=b:=⟨_,rfl⟩;obtain⟨gy,bt⟩:∃b,decide (y<0)=b:=⟨_,rfl⟩;rw[cn,bt]at bo|-;have HN:=E7 (E8 hn hm);have HF:=E7 (E8 fx fy);clear ha hb hn hm cn bt fx fy
 go_enter Tryz.func125,Tryz.ntmps125
 go_wp2_with fail
 refine(bo _ zh).mono ?_;rintro e H ⟨rfl,cZ⟩;have st:zf _ H:=cZ;have Bn:=bA w st;have oa:ai H w.heap.size 26 #[Ez gx,Ex aa n ca]:=ai.aw st;have ob:ai H (w.heap.size+1) 26 #[Ez gy,Ex ab m cb]:=ai.aw st;have or:ai H (w.heap.size+1+1) 26 #[Ez false,Ex none 0 0]:=ai.aw st;clear st;have B:=Bn;clear Bn;obtain⟨Z,be,fa,la⟩:=oa.s1;obtain⟨bg,bh,fb,lb⟩:=ob.s1;obtain⟨a9,bi,fr,lr⟩:=or.s1;clear bo;go_wp2_with fail
 go_quiet (fail)
 go_wp2_with fail
 have ci:=pa.ae B;have ce:=pb.ae B;rename Ef=>H
 go_loopg [6,7,8,9] (zi y).toNat (fun k vx vy q r wr=>∃ (X Y:Int) (ax ay:Option Addr) (cx cy:Nat),0<=X/\0<=Y/\k=Y.toNat/\vx = Ex ax (zp X).length cx/\vy = Ex ay (zp Y).length cy/\aA wr vx (zp X)/\aA wr vy (zp Y)/\(zp X).length<=4096/\(zp Y).length<=4096/\yn X Y=yn x y/\zf H wr)
 case atStart=>exact⟨zi x,zi y,aa,ab,ca,cb,zD _,zD _,rfl,by rw[HN.out.1],by rw[HN.out.2],ci,ce,HF.out.1,HF.out.2,Qq x y,by show Below _ _ _; first | exact yS (Fz _ _) _ | exact Fz _ _⟩
 case round=>
  obtain⟨X,Y,ax,ay,cx,cy,X0,Y0,rfl,rfl,rfl,lx,ly,nx,ny,hg,E⟩:=hrel;have HG:=E7 hg;obtain⟨p,N⟩:∃p,(zp X).length=p:=⟨_,rfl⟩;obtain⟨q,J⟩:∃q,(zp Y).length=q:=⟨_,rfl⟩;have ah:=E7 (E8 N J);rw[N]at lx nx;rw[J]at ly ny;simp only[N,J]
  rcases Int.lt_or_le 0 Y with hy | hy
  .
   have q0:0<q:=by rw[<- J]; exact List.length_pos_iff.2 (fun e=>by have:=(zY Y0).1 e; omega)
   have ov:=UE wr lx ly X0 D6 (by rw[N]; unfold aD; omega) (by rw[J]; unfold aD; omega);clear hg N J lx;go_wp2_with fail
   refine ov.mono ?_;rintro e w2 ⟨sq,sr,rfl,d9,bf,br⟩;obtain⟨ar,cr,dc⟩:=bf.ak;have HR:=E7 bf;have HY:=E7 (ly.ae br);subst dc;clear bf d9 ly ov;have m0:=Int.emod_nonneg X (show Y≠0 by omega);have m1:=Int.emod_lt_of_pos X hy;have nr:=yY m0 (show X%Y<=Y by omega)
   go_wp2
   go_roundg (X%Y).toNat
   case measure=>omega
   case rel=>exact⟨Y,X%Y,ay,ar,cy,cr,by omega,m0,rfl,by rw[ah.out.2],rfl,HY.out,HR.out,by rw[ah.out.2]; exact ny,by have:=ah.out.2; omega,by rw[Xh X0 D6]; exact HG.out,E.trans (br.mono E.size)⟩
  .
   obtain rfl:Y=0:=D6
   have q0:q=0:=by rw[<- J]; rfl
   subst q0;rw[Xi X0]at hg;have mk:=qQ false wr lx (by rw[N]; unfold aD; omega);have hv:=zE X0;have I:fits X:=by unfold fits; rw[qV X0,N]; exact nx
   rw[hv]at mk;rw[show zv false X=X from rfl,zQ I,zJ I]at mk;have HE:=E7 (E8 hg I);have B2:Below w.heap.size w wr:=zA B (Ep _) E;have bl:=oa.ae E;have cN:=ob.ae E;have cg:=or.ae E;clear hg N J hv I lx ly ci ce Z be fa la bg bh fb lb a9 bi fr lr oa ob or B;have B:=B2;have oa:=bl;have ob:=cN;have or:=cg;clear bl cN cg B2;go_wp2_with fail
   refine(mk).mono ?_;rintro e H ⟨v1,rfl,b9,st⟩;have Bn:=bA w st;replace oa:ai H w.heap.size 26 #[Ez gx,Ex aa n ca]:=ai.aw st;replace ob:ai H (w.heap.size+1) 26 #[Ez gy,Ex ab m cb]:=ai.aw st;replace or:ai H (w.heap.size+1+1) 26 #[Ez false,Ex none 0 0]:=ai.aw st;clear B;clear st;have B:=Bn;clear Bn;obtain⟨Z,be,fa,la⟩:=oa.s1;obtain⟨bg,bh,fb,lb⟩:=ob.s1;obtain⟨a9,bi,fr,lr⟩:=or.s1;obtain⟨bb,ao,k,c,rfl⟩:=b9.ak;have HV:=E7 b9;clear b9
   go_wp2
   refine Eo (by simp[results,Tryz.results125,go_sem,Z,be,fa,la,bg,bh,fb,lb,a9,bi,fr,lr]; rfl) rfl ?_;exact⟨_,rfl,by rw[<- HE.out.1]; exact HV.out.aN or,by rw[<- HE.out.1]; exact HE.out.2,zh⟩
theorem YW {a b:Bool} (h:a=b):Ending.returned (Ez a) = Eh (Ez b):=by rw[h]
theorem Qr (w:Ef) (ha:az w va x) (hb:az w vb y) (fx:fits x) (fy:fits y) :
  Ee Ed 44 #[va,vb] w fun e M=>e = Eh (Ez (decide (x=y)))/\zf w M:=by
 obtain⟨aa,ca,rfl,pa⟩:=ha.parts;obtain⟨ab,cb,rfl,Z⟩:=hb.parts
 have H:∀M,zf w M->Ee Ed 85 #[Ex aa (zp (zi x)).length ca,Ex ab (zp (zi y)).length cb] M fun e w2=>e = Eh (Ey Ew (zM (zi x) (zi y)))/\zf M w2:=fun M h=>
  qJ M (pa.ae h) (Z.ae h) (zD x) (zD y) (by unfold fits at fx; unfold aD; omega) (by unfold fits at fy; unfold aD; omega)
 have X:=z4 x;have Y:=z4 y;have C:=jO (zi x) (zi y);obtain⟨c,hc⟩:∃c,zM (zi x) (zi y)=c:=⟨_,rfl⟩;rw[hc]at H C;obtain⟨n,hn⟩:∃n,(zp (zi x)).length=n:=⟨_,rfl⟩;obtain⟨m,hm⟩:∃m,(zp (zi y)).length=m:=⟨_,rfl⟩;rw[hn]at H|-;rw[hm]at H|-;obtain⟨gx,I⟩:∃b,decide (x<0)=b:=⟨_,rfl⟩;obtain⟨gy,J⟩:∃b,decide (y<0)=b:=⟨_,rfl⟩;rw[I,J]
 by_cases hs:gx=gy
 .
  subst hs
  have E:Hid ((c==0)=decide (x=y)):=by
   show (c==0)=decide (x=y)
   have:(x<0↔y<0):=by
    have h1:=I.trans J.symm;simpa using h1
   by_cases h0:c=0
   . rw[h0,E' (show x=y by omega)]; rfl
   . rw[Ea (show ¬x=y by omega)]; simp[h0]
  clear hc hn hm I J X Y C pa Z ha hb fx fy
  go_enter Tryz.func44,Tryz.ntmps44
  cases gx
  all_goals
   go_wp2_with fail
   refine(H _ zh).mono ?_;rintro e w1 ⟨rfl,N⟩;clear H
   go_wp2
   go_returns
   exact⟨YW E.out,(show Below _ _ _ from zh).trans (N.mono (by simp only[Et]; omega))⟩
 .
  have E:Hid (decide (x=y)=false):=by
   show decide (x=y)=false
   simp;rintro rfl;exact hs (I.symm.trans J)
  have a9:(gx==gy)=false:=by simp[hs]
  clear hc hn hm I J X Y C pa Z ha hb fx fy H hs
  go_enter Tryz.func44,Tryz.ntmps44
  go_wp2
  go_returns
  exact⟨YW E.out.symm,zh⟩
def DB (z:Int):Int:=if -9223372036854775808<=z/\z<9223372036854775808 then 0 else 16
def DC (z:Int):Int:=if -9223372036854775808<=z/\z<9223372036854775808 then z else 0
end
section
open Go.RowKit
variable {na:Bool} {x y:Int} {la:List Int} {B:Nat} {T:TypeId} {sa sb va vb:Ei}
theorem DE (w:Ef) (ha:az w va x) (hb:az w vb y) (fx:fits x) (fy:fits y) :
  Ee Ed 100 #[va,vb] w fun e w'=>e = Eh (Ey Ew (zM x y))/\zf w w':=by
 obtain⟨aa,ca,rfl,pa⟩:=ha.parts;obtain⟨ab,cb,rfl,pb⟩:=hb.parts;unfold fits at fx fy;have nx:(zp (zi x)).length<=aD:=by unfold aD; omega
 have ny:(zp (zi y)).length<=aD:=by unfold aD; omega
 obtain⟨n,Z⟩:∃n,(zp (zi x)).length=n:=⟨_,rfl⟩;obtain⟨m,Y⟩:∃m,(zp (zi y)).length=m:=⟨_,rfl⟩;rw[Z]at pa|-;rw[Y]at pb|-;clear ha hb
 rcases Int.lt_or_le x 0 with M | M
 .
  have J:decide (x<0)=true:=by simp[M]
  rcases Int.lt_or_le y 0 with I | I
  .
   have H:decide (y<0)=true:=by simp[I]
   have E:=E7 (Qf x y M I);rw[J,H];clear Z Y J H M I
   go_enter Tryz.func100,Tryz.ntmps100
   go_wp2_with fail
   refine(qK _ (pb.ae zh) (pa.ae zh) (zD _) (zD _) ny nx).mono ?_;rintro e w1 ⟨rfl,N⟩
   go_wp2
   go_returns
   exact⟨yE E.out,(show Below _ _ _ from zh).trans (N.mono (by simp only[Et]; omega))⟩
  .
   have H:decide (y<0)=false:=by simp; omega
   have E:Hid (zM x y = -1):=by show zM x y = -1; unfold zM; rw[E_ D6,E9 D6]
   rw[J,H];clear Z Y J H M I
   go_enter Tryz.func100,Tryz.ntmps100
   go_wp2
   go_returns
   exact⟨yE E.out.symm,zh⟩
 .
  have J:decide (x<0)=false:=by simp; omega
  rcases Int.lt_or_le y 0 with I | I
  .
   have H:decide (y<0)=true:=by simp[I]
   have E:Hid (zM x y=1):=by show zM x y=1; unfold zM; rw[E_ D6,E_ D6]
   rw[J,H];clear Z Y J H M I
   go_enter Tryz.func100,Tryz.ntmps100
   go_wp2
   go_returns
   exact⟨yE E.out.symm,zh⟩
  .
   have H:decide (y<0)=false:=by simp; omega
   have E:=E7 (Qg x y M I);rw[J,H];clear Z Y J H M I
   go_enter Tryz.func100,Tryz.ntmps100
   go_wp2_with fail
   refine(qK _ (pa.ae zh) (pb.ae zh) (zD _) (zD _) nx ny).mono ?_;rintro e w1 ⟨rfl,N⟩
   go_wp2
   go_returns
   exact⟨yE E.out,(show Below _ _ _ from zh).trans (N.mono (by simp only[Et]; omega))⟩
theorem UF (w:Ef) (J:az w va x):Ee Ed 97 #[va] w fun e M=>e = Eh (Ez (decide (x=0)))/\zf w M:=by
 obtain⟨aa,ca,rfl,N⟩:=J.parts;have h0:=zY (zD x);obtain⟨n,H⟩:∃n,(zp (zi x)).length=n:=⟨_,rfl⟩;rw[H]
 have E:Hid (((n:Int)==0)=decide (x=0)):=by
  show ((n:Int)==0)=decide (x=0)
  have I:n=0↔x=0:=by
   rw[<- H,List.length_eq_zero_iff,h0]; unfold zi; omega
  by_cases h:x=0
  . rw[E' h,I.2 h]; rfl
  .
   have:¬n=0:=fun e=>h (I.1 e);rw[Ea h]; simp[this]
 clear H h0 J N
 go_enter Tryz.func97,Tryz.ntmps97
 go_wp2
 go_returns
 exact⟨YW E.out,(show Below _ _ _ from(Fz _ _).alloc (Ep _) _)⟩
theorem vK {p:Prop} [Decidable p]:yT p=if p then 0 else 8:=rfl
theorem UG {n cap:Nat} {ng:Nat->Bool} {sv:Nat->Ei} {ls:Nat->List Int} (w:Ef) (hn:n<=1000) (hB:B<w.heap.size)
  (hc:∀k,k<n->w.cell? ⟨B,k*2,none⟩=some (Ez (ng k))/\w.cell? ⟨B,k*2+1,none⟩=some (sv k)/\aA w (sv k) (ls k)) :
  Ee Ed 93 #[Ex (some ⟨B,0,none⟩) n cap] w fun e w'=>(e = Eh (Ey Ew 0)/\(∀k,k<n->zU (ng k) (ls k))\/e = Eh (Ey Ew 8)/\∃k,k<n/\¬zU (ng k) (ls k))/\zf w w':=by
 go_enter Tryz.func93,Tryz.ntmps93
 go_wp2
 go_loopw [4,5,8] (fun p l kk wr=>∃k:Nat,k<=n/\kk = Ey Ew k/\(∀i,i<k->zU (ng i) (ls i))/\Below w.heap.size w wr) (fun _ _ k _=>n-(intOf k).toNat)
 case atStart=>exact⟨0,Nat.zero_le _,rfl,fun i h=>absurd h (Nat.not_lt_zero i),Fz _ _⟩
 case round=>
  obtain⟨k,hk,rfl,hv,H⟩:=hrel;have Z:=H.size
  rcases Er k n with h1 | h1
  .
   obtain⟨c1,c2,hL⟩:=hc k h1;have bg:=(H.cell (p:=⟨B,k*2,none⟩) hB).trans c1;have Y:=(H.cell (p:=⟨B,k*2+1,none⟩) hB).trans c2;obtain⟨g,hg⟩:∃g,ng k=g:=⟨_,rfl⟩;obtain⟨l,hl⟩:∃l,ls k=l:=⟨_,rfl⟩;rw[hl]at hL;obtain⟨ao,lc,bf⟩:=hL.ak;rw[bf]at hL Y;rw[hg]at bg;obtain⟨ok,-,be,fc⟩:=hL.cells;obtain⟨len,E⟩:∃m,l.length=m:=⟨_,rfl⟩;rw[E]at Y be fc;have ah:¬zU g l->∃k,k<n/\¬zU (ng k) (ls k):=fun h=>⟨k,h1,by rw[hg,hl]; exact h⟩
   have J:zU g l->∀i,i<k+1->zU (ng i) (ls i):=fun h i N=>by
    rcases Er i k with q | q
    . exact hv i q
    .
     obtain rfl:i=k:=D6
     rw[hg,hl]; exact h
   have b9:=E7 J;have M:=E7 ah;have HN:=E7 H;clear c1 c2 hc hL bf hg hl J ah hv
   rcases Er 4096 len with q1 | q1
   .
    have I:=E7 (M.out (fun h=>by have:=h.1; omega));clear fc
    go_wp2
    go_returns
    exact⟨Or.inr ⟨rfl,I.out⟩,HN.out.alloc Z _⟩
   .
    match len,E with
    | 0,E=>
     obtain rfl:=List.eq_nil_of_length_eq_zero E;clear fc
     cases g
     .
      have I:=E7 (b9.out ⟨by simp,rfl,fun _=>rfl⟩)
      go_wp2
      go_roundw
      case rel=>exact⟨k+1,by omega,by go_num,I.out,HN.out.alloc Z _⟩
      case measure=>simp[intOf]; omega
     .
      have I:=E7 (M.out (fun h=>by have:=h.2.2 rfl; cases this))
      go_wp2
      go_returns
      exact⟨Or.inr ⟨rfl,I.out⟩,HN.out.alloc Z _⟩
    | j+1,E=>
     obtain⟨b,o,rfl,hb,a9⟩:=fc D6;have N:=Y_ E;have g:=a9 j D6;obtain⟨x,hx⟩:∃x,l.getD j 0=x:=⟨_,rfl⟩;rw[hx]at g N;have g1:=(H.cell (p:=⟨b,o+j,none⟩) hb).trans g;have bi:b<wr.heap.size:=Nat.lt_of_lt_of_le hb Z;have bh:l≠ []:=by rintro rfl; cases E
     have g2:=E7 g1
     have g3:∀os:Obj,(wr.alloc os).cell? ⟨b,o+j,none⟩=some (Ey .u32 x):=fun os=>by
      rw[<- g1]; exact World.cell?_of_block (Below.heap_alloc _ _ _ bi)
     clear a9 fc g
     rcases Int.decEq x 0 with h2 | h2
     .
      have br:(x==0)=false:=by simp[h2]
      have I:=E7 (b9.out ⟨by omega,N.2 h2,fun e=>absurd e bh⟩);clear N hx
      go_wp2
      go_roundw
      case rel=>exact⟨k+1,by omega,by go_num,I.out,HN.out.alloc Z _⟩
      case measure=>simp[intOf]; omega
     .
      have I:=E7 (M.out (fun h=>N.1 h.2.1 h2));clear N hx;subst h2
      go_wp2
      go_returns
      exact⟨Or.inr ⟨rfl,I.out⟩,HN.out.alloc Z _⟩
  .
   have bl:k=n:=D6
   subst bl;have HV:=E7 hv;clear hv hc
   go_wp2
   go_returns
   exact⟨Or.inl ⟨rfl,HV.out⟩,H⟩
theorem Ky {H:Bool} {lb:List Int} (w:Ef) (E:ai w B T #[Ez na,sa,Ez H,sb]) (Y:aA w sa la) (N:aA w sb lb) :
  Ee Ed 93 #[Ex (some ⟨B,0,none⟩) 2 2] w fun e M=>e = Eh (Ey Ew (yT (zU na la/\zU H lb)))/\zf w M:=by
 have C:=UG (n:=2) (B:=B) (cap:=2) (ng:=fun k=>if k=0 then na else H) (sv:=fun k=>if k=0 then sa else sb) (ls:=fun k=>if k=0 then la else lb) w D6 E.lt (fun k I=>by
  match k,I with
  | 0,_=>exact⟨E.c 0 rfl,E.c 1 rfl,Y⟩
  | 1,_=>exact⟨E.c 2 rfl,E.c 3 rfl,N⟩)
 refine C.mono ?_;rintro e M ⟨⟨rfl,hv⟩ | ⟨rfl,k,I,hv⟩,J⟩
 . exact⟨yE (show (0:Int)=yT _ from(E9 ⟨hv 0 D6,hv 1 D6⟩).symm),J⟩
 .
  refine⟨yE (show (8:Int)=yT _ from(E_ (fun h=> ?_)).symm),J⟩
  match k,I,hv with
  | 0,_,hv=>exact hv h.1
  | 1,_,hv=>exact hv h.2
theorem Kz (w:Ef) (E:ai w B T #[Ez na,sa]) (M:aA w sa la) :
  Ee Ed 93 #[Ex (some ⟨B,0,none⟩) 1 1] w fun e I=>e = Eh (Ey Ew (yT (zU na la)))/\zf w I:=by
 have C:=UG (n:=1) (B:=B) (cap:=1) (ng:=fun _=>na) (sv:=fun _=>sa) (ls:=fun _=>la) w D6 E.lt (fun k J=>by
  match k,J with
  | 0,_=>exact⟨E.c 0 rfl,E.c 1 rfl,M⟩)
 refine C.mono ?_;rintro e I ⟨⟨rfl,hv⟩ | ⟨rfl,k,J,hv⟩,H⟩
 . exact⟨yE (show (0:Int)=yT _ from(E9 (hv 0 D6)).symm),H⟩
 . exact⟨yE (show (8:Int)=yT _ from(E_ (fun h=>hv h)).symm),H⟩
theorem xA (w:Ef) (I:ai w B T #[Ez (decide (x<0)),sa,Ez (decide (y<0)),sb]) (M:aA w sa (zp (zi x))) (H:aA w sb (zp (zi y))) (N:fits x) (J:fits y) :
  Ee Ed 93 #[Ex (some ⟨B,0,none⟩) 2 2] w fun e E=>e = Eh (Ey Ew 0)/\zf w E:=by
 have:=Ky w I M H;rw[show yT (zU (decide (x<0)) (zp (zi x))/\zU (decide (y<0)) (zp (zi y)))=0 from E9 ⟨xy N,xy J⟩]at this;exact this
theorem C6 (w:Ef) (ha:az w va x) (hb:az w vb y) (fx:fits x) (fy:fits y) :
  Ee Ed 155 #[va,vb] w fun e E=>∃v,e = Eh (Ev #[v,Ey Ew (jc (x+y))])/\az E v (xt (x+y))/\zf w E:=by
 have ck:∀ (E:Ef) (q:Nat) (aa ab:Option Addr) (ca cb:Nat),ai E q 26 #[Ez (decide (x<0)),Ex aa (zp (zi x)).length ca,Ez (decide (y<0)),Ex ab (zp (zi y)).length cb]->aA E (Ex aa (zp (zi x)).length ca) (zp (zi x))->aA E (Ex ab (zp (zi y)).length cb) (zp (zi y))->
   Ee Ed 93 #[Ex (some ⟨q,0,none⟩) 2 2] E fun e w2=>e = Eh (Ey Ew 0)/\zf E w2:=fun E q aa ab ca cb hb h1 h2=>xA E hb h1 h2 fx fy
 have ad:=fun(E:Ef) (h:zf w E)=>C5 E (ha.ae h) (hb.ae h) fx fy;obtain⟨aa,ca,rfl,pa⟩:=ha.parts;obtain⟨ab,cb,rfl,pb⟩:=hb.parts;have H:=fun(E:Ef) (q:Nat)=>ck E q aa ab ca cb;obtain⟨n,hn⟩:∃n,(zp (zi x)).length=n:=⟨_,rfl⟩;obtain⟨m,hm⟩:∃m,(zp (zi y)).length=m:=⟨_,rfl⟩;rw[hn]at pa ad|-;rw[hm]at pb ad|-;simp only[hn,hm]at H;obtain⟨gx,ah⟩:∃b,decide (x<0)=b:=⟨_,rfl⟩;obtain⟨gy,N⟩:∃b,decide (y<0)=b:=⟨_,rfl⟩;rw[ah,N]at ad|-;simp only[ah,N]at H;clear ha hb hn hm ah N fx fy ck
 go_enter Tryz.func155,Tryz.ntmps155
 go_wp2_with fail
 refine(H _ _ Qa (pa.ae zh) (pb.ae zh)).mono ?_;rintro e w1 ⟨rfl,st⟩;have Bn:=bA w st;have oa:ai w1 w.heap.size 26 #[Ez gx,Ex aa n ca]:=ai.aw st;have ob:ai w1 (w.heap.size+1) 26 #[Ez gy,Ex ab m cb]:=ai.aw st;have or:ai w1 (w.heap.size+1+1) 26 #[Ez false,Ex none 0 0]:=ai.aw st;clear st;have B:=Bn;clear Bn;obtain⟨I,Y,fa,la⟩:=oa.s1;obtain⟨Z,a9,fb,lb⟩:=ob.s1;obtain⟨J,b9,fr,lr⟩:=or.s1;clear H;go_wp2_with fail
 refine(ad _ B).mono ?_;rintro e w2 ⟨v2,rfl,M,st⟩;have Bn:=bA w st;have na:=oa.aM st;have nb:=ob.aM st;have nr:=or.aM st;clear B oa ob or I Y fa la Z a9 fb lb J b9 fr lr;clear st;have B:=Bn;clear Bn;have oa:=na;clear na;obtain⟨I,Y,fa,la⟩:=oa.s1;have ob:=nb;clear nb;obtain⟨Z,a9,fb,lb⟩:=ob.s1;have or:=nr;clear nr;obtain⟨J,b9,fr,lr⟩:=or.s1;clear ad;obtain⟨bb,ao,k,c,rfl⟩:=M.ak;have HV:=E7 M;clear M
 go_wp2
 refine Eo (by simp[results,Tryz.results155,go_sem,I,Y,fa,la,Z,a9,fb,lb,J,b9,fr,lr]; rfl) rfl ?_;exact⟨_,rfl,HV.out.aN or,zh⟩
theorem BG (w:Ef) (ha:az w va x) (M:az w vb y) (fx:fits x) (fy:fits y) :
  Ee Ed 59 #[va,vb] w fun e E=>e = Eh (Ev #[Ey Ew (zM x y),Ey Ew 0])/\zf w E:=by
 have ck:∀ (E:Ef) (q:Nat) (aa ab:Option Addr) (ca cb:Nat),ai E q 26 #[Ez (decide (x<0)),Ex aa (zp (zi x)).length ca,Ez (decide (y<0)),Ex ab (zp (zi y)).length cb]->aA E (Ex aa (zp (zi x)).length ca) (zp (zi x))->aA E (Ex ab (zp (zi y)).length cb) (zp (zi y))->
   Ee Ed 93 #[Ex (some ⟨q,0,none⟩) 2 2] E fun e w2=>e = Eh (Ey Ew 0)/\zf E w2:=fun E q aa ab ca cb M h1 h2=>xA E M h1 h2 fx fy
 have ad:=fun(E:Ef) (h:zf w E)=>DE E (ha.ae h) (M.ae h) fx fy;obtain⟨aa,ca,rfl,pa⟩:=ha.parts;obtain⟨ab,cb,rfl,pb⟩:=M.parts;have H:=fun(E:Ef) (q:Nat)=>ck E q aa ab ca cb;obtain⟨n,hn⟩:∃n,(zp (zi x)).length=n:=⟨_,rfl⟩;obtain⟨m,hm⟩:∃m,(zp (zi y)).length=m:=⟨_,rfl⟩;rw[hn]at pa ad|-;rw[hm]at pb ad|-;simp only[hn,hm]at H;obtain⟨gx,J⟩:∃b,decide (x<0)=b:=⟨_,rfl⟩;obtain⟨gy,I⟩:∃b,decide (y<0)=b:=⟨_,rfl⟩;rw[J,I]at ad|-;simp only[J,I]at H;clear ha M hn hm J I fx fy ck
 go_enter Tryz.func59,Tryz.ntmps59
 go_wp2_with fail
 refine(H _ _ Qa (pa.ae zh) (pb.ae zh)).mono ?_;rintro e w1 ⟨rfl,st⟩;have N:=bA w st;have Z:ai w1 w.heap.size 26 #[Ez gx,Ex aa n ca]:=ai.aw st;have ob:ai w1 (w.heap.size+1) 26 #[Ez gy,Ex ab m cb]:=ai.aw st;clear st;have B:=N;clear N;obtain⟨Y,a9,fa,la⟩:=Z.s1;obtain⟨ah,b9,fb,lb⟩:=ob.s1;clear H;go_wp2_with fail
 refine(ad _ B).mono ?_;rintro e w2 ⟨rfl,st⟩;have N:=bA w st;have na:=Z.aM st;have nb:=ob.aM st;clear B Z ob Y a9 fa la ah b9 fb lb;clear st;have B:=N;clear N;have Z:=na;clear na;obtain⟨Y,a9,fa,la⟩:=Z.s1;have ob:=nb;clear nb;obtain⟨ah,b9,fb,lb⟩:=ob.s1;clear ad
 go_wp2
 go_returns
 exact⟨rfl,zh⟩
theorem BH (w:Ef) (Y:az w va x) (N:az w vb y) (fx:fits x) (fy:fits y) :
  Ee Ed 98 #[va,vb] w fun e M=>e = Eh (Ez (decide (x=y)))/\zf w M:=by
 have I:=fun(M:Ef) (h:zf w M)=>BG M (Y.ae h) (N.ae h) fx fy;obtain⟨c,hc⟩:∃c,zM x y=c:=⟨_,rfl⟩
 have E:Hid ((c==0)=decide (x=y)):=by
  show (c==0)=decide (x=y)
  have:=jO x y;rw[hc]at this
  by_cases h:x=y
  . rw[E' h,show c=0 by omega]; rfl
  . rw[Ea h]; simp; omega
 rw[hc]at I;obtain⟨aa,ca,rfl,pa⟩:=Y.parts;obtain⟨ab,cb,rfl,pb⟩:=N.parts;obtain⟨n,hn⟩:∃n,(zp (zi x)).length=n:=⟨_,rfl⟩;obtain⟨m,hm⟩:∃m,(zp (zi y)).length=m:=⟨_,rfl⟩;rw[hn,hm]at I|-;obtain⟨gx,J⟩:∃b,decide (x<0)=b:=⟨_,rfl⟩;obtain⟨gy,H⟩:∃b,decide (y<0)=b:=⟨_,rfl⟩;rw[J,H]at I|-;clear Y N hn hm J H fx fy pa pb hc
 go_enter Tryz.func98,Tryz.ntmps98
 go_wp2_with fail
 refine(I _ zh).mono ?_;rintro e w1 ⟨rfl,st⟩;have Z:=bA w st;have oa:ai w1 w.heap.size 26 #[Ez gx,Ex aa n ca]:=ai.aw st;have ob:ai w1 (w.heap.size+1) 26 #[Ez gy,Ex ab m cb]:=ai.aw st;clear st;have B:=Z;clear Z;obtain⟨a9,ah,fa,la⟩:=oa.s1;obtain⟨b9,be,fb,lb⟩:=ob.s1;clear I
 go_wp2
 go_returns
 exact⟨YW E.out,zh⟩
theorem C7 (w:Ef):Ee Ed 99 #[] w fun e J=>∃v,e = Eh v/\az J v 1/\zf w J:=by
 go_enter Tryz.func99,Tryz.ntmps99
 go_wp2_with fail
 refine(UB 1 _ D6 D6).mono ?_;rintro e Y ⟨v2,rfl,E,st⟩;have M:=bA w st;have or:ai Y w.heap.size 26 #[Ez false,Ex none 0 0]:=ai.aw st;clear st;have B:=M;clear M;obtain⟨H,I,fr,Z⟩:=or.s1;obtain⟨bb,ao,k,c,rfl⟩:=E.ak;have N:=E7 E;clear E
 go_wp2
 refine Eo (by simp[results,Tryz.results99,go_sem,H,I,fr,Z]; rfl) rfl ?_;exact⟨_,rfl,N.out.aN or,zh⟩
end
section
open Go.RowKit
theorem ZT {a d:Ei} {A D:Int} (w:Ef) (I:aA w a (zp A)) (hd:aA w d (zp D)) (J:0<=A) (H:1<=D) (M:(zp A).length<=1000000) (Z:(zp D).length<=1000000) :
  Ee Ed 135 #[a,d] w fun e E=>∃q r,e = Eh (Ev #[q,r])/\aA E q (zp (A / D))/\aA E r (zp (A%D))/\zf w E:=by
 rcases Int.lt_or_le A D with h | h
 . exact JB w I hd J H (by unfold aD; omega) (by unfold aD; omega) h
 .
  have N:zp D≠ []:=fun e=>by have:=(zY (show 0<=D by omega)).1 e; omega
  have Y:=List.length_pos_iff.2 N
  rcases Er (zp D).length 2 with g | g
  . exact Qo w I hd J H (by unfold aD; omega) D6 h
  . exact XH (m:=(zp D).length-2) w I hd J H M D6 h
set_option maxHeartbeats 3200000 in
set_option maxRecDepth 1000000 in
theorem BI {va vb:Ei} {x y:Int} (w:Ef) (ha:az w va x) (hb:az w vb y) (fx:fits x) (fy:fits y) :
  Ee Ed 96 #[va,vb] w fun e E=>∃v,e = Eh (Ev #[v,Ey Ew 0])/\az E v (yn x y)/\fits (yn x y)/\zf w E:=by
 have ck:∀ (E:Ef) (q:Nat) (aa ab:Option Addr) (ca cb:Nat),ai E q 26 #[Ez (decide (x<0)),Ex aa (zp (zi x)).length ca,Ez (decide (y<0)),Ex ab (zp (zi y)).length cb]->aA E (Ex aa (zp (zi x)).length ca) (zp (zi x))->aA E (Ex ab (zp (zi y)).length cb) (zp (zi y))->
   Ee Ed 93 #[Ex (some ⟨q,0,none⟩) 2 2] E fun e w2=>e = Eh (Ey Ew 0)/\zf E w2:=fun E q aa ab ca cb hb h1 h2=>xA E hb h1 h2 fx fy
 obtain⟨aa,ca,rfl,pa⟩:=ha.parts;obtain⟨ab,cb,rfl,pb⟩:=hb.parts;have bg:=fun(E:Ef) (q:Nat)=>ck E q aa ab ca cb;unfold fits at fx fy;obtain⟨n,hn⟩:∃n,(zp (zi x)).length=n:=⟨_,rfl⟩;obtain⟨m,hm⟩:∃m,(zp (zi y)).length=m:=⟨_,rfl⟩;rw[hn]at pa|-;rw[hm]at pb|-;simp only[hn,hm]at bg;obtain⟨gx,bl⟩:∃b,decide (x<0)=b:=⟨_,rfl⟩;obtain⟨gy,bh⟩:∃b,decide (y<0)=b:=⟨_,rfl⟩;rw[bl,bh]at|-;simp only[bl,bh]at bg;have HN:=E7 (E8 hn hm);have HF:=E7 (E8 fx fy);clear ha hb hn hm bl bh fx fy ck
 go_enter Tryz.func96,Tryz.ntmps96
 go_wp2_with fail
 refine(bg _ _ Qa (pa.ae zh) (pb.ae zh)).mono ?_;rintro e w1 ⟨rfl,cZ⟩;have st:zf _ w1:=cZ;have Bn:=bA w st;have I:ai w1 w.heap.size 26 #[Ez gx,Ex aa n ca]:=ai.aw st;have J:ai w1 (w.heap.size+1) 26 #[Ez gy,Ex ab m cb]:=ai.aw st;have or:ai w1 (w.heap.size+1+1) 26 #[Ez false,Ex none 0 0]:=ai.aw st;clear st;have B:=Bn;clear Bn;obtain⟨b9,a9,fa,la⟩:=I.s1;obtain⟨M,N,fb,lb⟩:=J.s1;obtain⟨Z,ah,fr,lr⟩:=or.s1;clear bg;go_wp2_with fail
 go_region_held3 (fun E=>E.cell? ⟨w.heap.size,0,none⟩=some (Ez gx)/\E.cell? ⟨w.heap.size,1,none⟩=some (Ex aa n ca)/\E.cell? ⟨w.heap.size+1,0,none⟩=some (Ez gy)/\E.cell? ⟨w.heap.size+1,1,none⟩=some (Ex ab m cb))
  ((refine⟨ai.c (t:=26) (cs:=#[Ez gx,Ex aa n ca]) ?_ 0 rfl,ai.c (t:=26) (cs:=#[Ez gx,Ex aa n ca]) ?_ 1 rfl,ai.c (t:=26) (cs:=#[Ez gy,Ex ab m cb]) ?_ 0 rfl,ai.c (t:=26) (cs:=#[Ez gy,Ex ab m cb]) ?_ 1 rfl⟩<;>(repeat' first | with_reducible assumption | (with_reducible refine ai.bK ?_; first | with_reducible rfl | (simp only[Et,World.size_setCell,World.size_drew]; done)) | with_reducible refine ai.alloc ?_ _ | with_reducible refine ai.drew ?_ | with_reducible refine ai.drewN ?_ _ | with_reducible apply ai.both | with_reducible refine ai.aK ?_ ?_ | (show _≠_; omega))))
  (first
   | ((go_at_call 134; refine(Yj _ (pa.ae zh) (by have:=HF.out; have:=HN.out; unfold aD; omega)).mono ?_; rintro e wv ⟨v1,rfl,dk,H,dt⟩; go_must (have st:zf _ wv:=dt; have Bn:=bA w st; have na:ai wv w.heap.size 26 #[Ez gx,Ex aa n ca]:=ai.aw st; have nb:ai wv (w.heap.size+1) 26 #[Ez gy,Ex ab m cb]:=ai.aw st; have nr:ai wv (w.heap.size+1+1) 26 #[Ez false,Ex none 0 0]:=ai.aw st; clear B I J or b9 a9 fa la M N fb lb Z ah fr lr; clear st; have B:=Bn; clear Bn; have I:=na; clear na; have b9:Es wv ⟨w.heap.size,0,none⟩=some (Ez gx):=I.c 0 rfl; have a9:Es wv ⟨w.heap.size,1,none⟩=some (Ex aa n ca):=I.c 1 rfl; have fa:=I.fr; have la:=I.lt; have J:=nb; clear nb; have M:Es wv ⟨w.heap.size+1,0,none⟩=some (Ez gy):=J.c 0 rfl; have N:Es wv ⟨w.heap.size+1,1,none⟩=some (Ex ab m cb):=J.c 1 rfl; have fb:=J.fr; have lb:=J.lt; have or:=nr; clear nr; have Z:Es wv ⟨w.heap.size+1+1,0,none⟩=some (Ez false):=or.c 0 rfl; have ah:Es wv ⟨w.heap.size+1+1,1,none⟩=some (Ex none 0 0):=or.c 1 rfl; have fr:=or.fr; have lr:=or.lt))))
 have ce:=pb.ae B;obtain⟨ax,cx,rfl⟩:=H.ak;clear dk;rw[HN.out.1]at H|-;go_wp2_with fail
 go_loopg [7,8,9,10] (zi y).toNat (fun k vx vy q r wr=>∃ (X Y:Int) (ax ay:Option Addr) (cx cy:Nat),0<=X/\0<=Y/\k=Y.toNat/\vx = Ex ax (zp X).length cx/\vy = Ex ay (zp Y).length cy/\aA wr vx (zp X)/\aA wr vy (zp Y)/\(zp X).length<=4096/\(zp Y).length<=4096/\yn X Y=yn x y/\zf wv wr)
 case atStart=>exact⟨zi x,zi y,ax,ab,cx,cb,zD _,zD _,rfl,by rw[HN.out.1],by rw[HN.out.2],H,ce,HF.out.1,HF.out.2,Qq x y,by show Below _ _ _; first | exact yS (Fz _ _) _ | exact Fz _ _⟩
 case round=>
  clear H ce;obtain⟨X,Y,ax,ay,cx,cy,X0,Y0,rfl,rfl,rfl,lx,ly,nx,ny,hg,be⟩:=hrel;have HG:=E7 hg;obtain⟨p,hp⟩:∃p,(zp X).length=p:=⟨_,rfl⟩;obtain⟨q,hq⟩:∃q,(zp Y).length=q:=⟨_,rfl⟩;have bi:=E7 (E8 hp hq);rw[hp]at lx nx;rw[hq]at ly ny;simp only[hp,hq]
  rcases Int.lt_or_le 0 Y with hy | hy
  .
   have q0:0<q:=by rw[<- hq]; exact List.length_pos_iff.2 (fun e=>by have:=(zY Y0).1 e; omega)
   have ov:=ZT wr lx ly X0 D6 (by rw[hp]; omega) (by rw[hq]; omega);clear hg hp hq lx;go_wp2_with fail
   refine ov.mono ?_;rintro e w2 ⟨sq,sr,rfl,d9,br,cg⟩;obtain⟨ar,cr,dl⟩:=br.ak;have HR:=E7 br;have HY:=E7 (ly.ae cg);subst dl;clear br d9 ly ov;have m0:=Int.emod_nonneg X (show Y≠0 by omega);have m1:=Int.emod_lt_of_pos X hy;have nr:=yY m0 (show X%Y<=Y by omega)
   go_wp2
   go_roundg (X%Y).toNat
   case measure=>omega
   case rel=>exact⟨Y,X%Y,ay,ar,cy,cr,by omega,m0,rfl,by rw[bi.out.2],rfl,HY.out,HR.out,by rw[bi.out.2]; exact ny,by have:=bi.out.2; omega,by rw[Xh X0 D6]; exact HG.out,be.trans (cg.mono be.size)⟩
  .
   obtain rfl:Y=0:=D6
   have q0:q=0:=by rw[<- hq]; rfl
   subst q0;rw[Xi X0]at hg;have cl:=fun E (h:zf wr E)=>Yj E (lx.ae h) (by rw[hp]; unfold aD; omega);have mk:=fun E v (h:aA E v (zp X))=>xX false E h (by rw[hp]; unfold aD; omega);have hv:=zE X0;have bf:fits X:=by unfold fits; rw[qV X0,hp]; exact nx
   simp only[hv,show zv false X=X from rfl,zQ bf,zJ bf]at mk;have HE:=E7 (E8 hg bf);have B2:Below w.heap.size w wr:=zA B (Ep _) be;have bt:=I.ae be;have cn:=J.ae be;have ci:=or.ae be;clear hg hp hq hv bf lx ly b9 a9 fa la M N fb lb Z ah fr lr I J or B;have B:=B2;have I:=bt;have J:=cn;have or:=ci;clear bt cn ci B2;go_wp2_with fail
   refine(cl _ (Fz _ _)).mono ?_;rintro e w1 ⟨v0,rfl,dc,cN,st⟩;have Bn:=bA w st;replace I:ai w1 w.heap.size 26 #[Ez gx,Ex aa n ca]:=ai.aw st;replace J:ai w1 (w.heap.size+1) 26 #[Ez gy,Ex ab m cb]:=ai.aw st;replace or:ai w1 (w.heap.size+1+1) 26 #[Ez false,Ex none 0 0]:=ai.aw st;clear B;clear st;have B:=Bn;clear Bn;obtain⟨b9,a9,fa,la⟩:=I.s1;obtain⟨M,N,fb,lb⟩:=J.s1;obtain⟨Z,ah,fr,lr⟩:=or.s1;clear cl dc;go_wp2_with fail
   refine(mk _ _ cN).mono ?_;rintro e w2 ⟨v1,rfl,H,st⟩;have Bn:=bA w st;have na:=I.aM st;have nb:=J.aM st;have nr:=or.aM st;clear B I J or b9 a9 fa la M N fb lb Z ah fr lr;clear st;have B:=Bn;clear Bn;have I:=na;clear na;obtain⟨b9,a9,fa,la⟩:=I.s1;have J:=nb;clear nb;obtain⟨M,N,fb,lb⟩:=J.s1;have or:=nr;clear nr;obtain⟨Z,ah,fr,lr⟩:=or.s1;clear mk cN;obtain⟨bb,ao,k,c,rfl⟩:=H.ak;have HV:=E7 H;clear H
   go_wp2
   refine Eo (by simp[results,Tryz.results96,go_sem,b9,a9,fa,la,M,N,fb,lb,Z,ah,fr,lr]; rfl) rfl ?_;exact⟨_,rfl,by rw[<- HE.out.1]; exact HV.out.aN or,by rw[<- HE.out.1]; exact HE.out.2,zh⟩
theorem Gd (na H:Bool) {sa sb:Ei} {la lb:List Int} (w:Ef) (ha:aA w sa la) (I:aA w sb lb) (hv:¬(zU na la/\zU H lb)) :
  Ee Ed 96 #[Ej #[Ez na,sa],Ej #[Ez H,sb]] w fun e E=>e = Eh (Ev #[Ej #[Ez false,Ex none 0 0],Ey Ew 8])/\zf w E:=by
 have Y:∀ (E:Ef) (q:Nat),ai E q 26 #[Ez na,sa,Ez H,sb]->zf w E->Ee Ed 93 #[Ex (some ⟨q,0,none⟩) 2 2] E fun e w2=>e = Eh (Ey Ew 8)/\zf E w2:=fun E q hq h=>by
  have:=Ky E hq (ha.ae h) (I.ae h);rw[vK,E_ hv]at this;exact this
 obtain⟨aa,ca,rfl⟩:=ha.ak;obtain⟨ab,cb,rfl⟩:=I.ak;obtain⟨n,hn⟩:∃n,la.length=n:=⟨_,rfl⟩;obtain⟨m,hm⟩:∃m,lb.length=m:=⟨_,rfl⟩;rw[hn,hm]at Y|-;clear ha I hn hm hv
 go_enter Tryz.func96,Tryz.ntmps96
 go_wp2_with fail
 refine(Y _ _ Qa zh).mono ?_;rintro e w1 ⟨rfl,st⟩;have Bn:=bA w st;have oa:ai w1 w.heap.size 26 #[Ez na,Ex aa n ca]:=ai.aw st;have ob:ai w1 (w.heap.size+1) 26 #[Ez H,Ex ab m cb]:=ai.aw st;have or:ai w1 (w.heap.size+1+1) 26 #[Ez false,Ex none 0 0]:=ai.aw st;clear st;have B:=Bn;clear Bn;obtain⟨J,N,fa,la⟩:=oa.s1;obtain⟨Z,a9,fb,lb⟩:=ob.s1;obtain⟨M,ah,fr,lr⟩:=or.s1;clear Y
 go_wp2
 refine Eo (by simp[results,Tryz.results96,go_sem,J,N,fa,la,Z,a9,fb,lb,M,ah,fr,lr]; rfl) rfl ?_;exact⟨rfl,zh⟩
end
section
open Go.RowKit
variable {x y:Int} {va vb:Ei}
def xg (x y:Int):Int:=Int.fdiv x y
def xv (x y:Int):Int:=x-y*xg x y
theorem jR {q r:Int} (h:x=y*q+r) (E:(0<=r/\r<y)\/(y<r/\r<=0)):xg x y=q/\xv x y=r:=by
 have e:xg x y=q:=by
  unfold xg
  rcases E with⟨h0,h1⟩ | ⟨h0,h1⟩
  .
   rw[Int.fdiv_eq_ediv_of_nonneg x D6];exact(jM h h0 h1).1
  .
   rw[<- Int.neg_fdiv_neg,Int.fdiv_eq_ediv_of_nonneg (-x) (show 0<=-y by omega)];exact(jM (r:= -r) (by rw[h,Int.neg_add,Int.neg_mul]) D6 D6).1
 exact⟨e,by unfold xv; rw[e]; omega⟩
theorem Yo {g:Bool} (gx:decide (x<0)=g) (gy:decide (y<0)=g) (h:y≠0):xg x y=zv false (zi x / zi y)/\xv x y=zv g (zi x%zi y):=by
 have H:0<zi y:=by unfold zi; omega
 have e:=Int.mul_ediv_add_emod (zi x) (zi y);have J:=Int.emod_nonneg (zi x) (show zi y≠0 by omega);have I:=Int.emod_lt_of_pos (zi x) H;have X:=z4 x;have Y:=z4 y
 cases g
 .
  simp at gx gy;have E:zi y*(zi x / zi y)=y*(zi x / zi y):=congrArg (· * (zi x / zi y)) (show zi y=y by omega);refine jR ?_ (Or.inl ⟨?_,?_⟩)
  all_goals simp only[zv,Bool.false_eq_true,if_false]; omega
 .
  simp at gx gy;have E:zi y*(zi x / zi y) = -(y*(zi x / zi y)):=(congrArg (· * (zi x / zi y)) (show zi y = -y by omega)).trans (Int.neg_mul _ _);refine jR ?_ (Or.inr ⟨?_,?_⟩)
  all_goals simp only[zv,Bool.false_eq_true,if_false,if_true]; omega
theorem vL {gx gy:Bool} (J:decide (x<0)=gx) (I:decide (y<0)=gy) (hg:gx≠gy) (h:y≠0) :
  (zi x%zi y=0->xg x y=zv true (zi x / zi y)/\xv x y=zv gx (zi x%zi y))/\
  (0<zi x%zi y->xg x y=zv true (zi x / zi y) + -1/\xv x y=zv gx (zi x%zi y)+y):=by
 have H:0<zi y:=by unfold zi; omega
 have e:=Int.mul_ediv_add_emod (zi x) (zi y);have m0:=Int.emod_nonneg (zi x) (show zi y≠0 by omega);have Z:=Int.emod_lt_of_pos (zi x) H;have X:=z4 x;have Y:=z4 y;have N:y<0->zi y*(zi x / zi y) = -(y*(zi x / zi y)):=fun g=>(congrArg (· * (zi x / zi y)) (show zi y = -y by omega)).trans (Int.neg_mul _ _);have M:0<=y->zi y*(zi x / zi y)=y*(zi x / zi y):=fun g=>congrArg (· * (zi x / zi y)) (show zi y=y by omega);have e3:y * -(zi x / zi y) = -(y*(zi x / zi y)):=Int.mul_neg _ _;have e4:y*(-(zi x / zi y) + -1) = -(y*(zi x / zi y))-y:=by rw[Int.mul_add,Int.mul_neg]; omega
 cases gx<;>cases gy
 . exact absurd rfl hg
 .
  simp at J I;refine⟨fun E=>jR ?_ (Or.inr ⟨?_,?_⟩),fun E=>jR ?_ (Or.inr ⟨?_,?_⟩)⟩
  all_goals simp only[zv,Bool.false_eq_true,if_false,if_true]; omega
 .
  simp at J I;refine⟨fun E=>jR ?_ (Or.inl ⟨?_,?_⟩),fun E=>jR ?_ (Or.inl ⟨?_,?_⟩)⟩
  all_goals simp only[zv,Bool.false_eq_true,if_false,if_true]; omega
 . exact absurd rfl hg
theorem yA {z:Int} (h:zi z<=zi x) (E:fits x):fits z:=Nat.le_trans (yY (zD z) h) E
theorem ke (h:y≠0):zi (xg x y)<=zi x/\zi (xv x y)<=zi y/\zi x / zi y<=zi x/\zi x%zi y<=zi y:=by
 have M:0<zi y:=by unfold zi; omega
 have e:=Int.mul_ediv_add_emod (zi x) (zi y);have Z:=Int.emod_nonneg (zi x) (show zi y≠0 by omega);have m1:=Int.emod_lt_of_pos (zi x) M;have q0:0<=zi x / zi y:=Int.ediv_nonneg (zD x) D6;have l1:=Int.mul_le_mul_of_nonneg_right (show 1<=zi y by omega) q0;have Y:=z4 y;obtain⟨gx,J⟩:∃b,decide (x<0)=b:=⟨_,rfl⟩;obtain⟨gy,I⟩:∃b,decide (y<0)=b:=⟨_,rfl⟩;have H:∀ (g:Bool) {m:Int},0<=m->zi (zv g m)=m:=fun g m h=>xM g h;refine⟨?_,?_,by omega,by omega⟩
 all_goals
  by_cases hs:gx=gy
  .
   subst hs;have S:=Yo J I h
   first
    | (rw[S.1,H _ q0]; omega)
    | (rw[S.2,H _ Z]; omega)
  .
   have D:=vL J I hs h
   rcases Int.lt_or_le 0 (zi x%zi y)with N | N
   .
    have E:=D.2 N;have l2:=Int.mul_le_mul_of_nonneg_right (show 2<=zi y by omega) q0
    first
     | (rw[E.1]; simp only[zv,if_true]; unfold zi at *; omega)
     | (rw[E.2]; cases gx<;>cases gy<;>first | exact absurd rfl hs | (simp at J I; simp only[zv,if_true,Bool.false_eq_true,if_false]; unfold zi at *; omega))
   .
    have E:=D.1 D6
    first
     | (rw[E.1,H _ q0]; omega)
     | (rw[E.2,H _ Z]; omega)
theorem XI (w:Ef) (ha:az w va x) (hb:az w vb y) (fx:fits x) (fy:fits y) (hy:y≠0) (bi:(decide (x<0)=decide (y<0))=True) :
  Ee Ed 169 #[va,vb] w fun e E=>∃q r,e = Eh (Ev #[q,r,Ey Ew 0])/\az E q (xg x y)/\az E r (xv x y)/\zf w E:=by
 have bo:∀E,zf w E->Ee Ed 156 #[va,vb] E fun e w2=>e = Eh (Ey Ew 0)/\zf E w2:=fun E h=>j' E (ha.ae h) (hb.ae h) fx fy;have F:=ke (x:=x) hy;have fq:fits (xg x y):=yA F.1 fx;have cy:fits (xv x y):=yA F.2.1 fy;have dt:0<zi y:=by unfold zi; omega
 have q0:0<=zi x / zi y:=Int.ediv_nonneg (zD x) D6;have m0:=Int.emod_nonneg (zi x) (show zi y≠0 by omega)
 have ci:∀ (d:Bool) (s:Ei) (E:Ef),aA E s (zp (zi x / zi y))->Ee Ed 139 #[Ez d,s] E fun e w2=>∃v,e = Eh (Ev #[v,Ey Ew 0])/\az w2 v (zv d (zi x / zi y))/\zf E w2:=fun d s E h=>by
  have fz:fits (zv d (zi x / zi y)):=yA (by rw[xM d q0]; exact F.2.2.1) fx;have:=qQ d E h (by have:=yY q0 F.2.2.1; unfold fits at fx; unfold aD; omega);rw[zE q0,zQ fz,zJ fz]at this;exact this
 have cn:∀ (d:Bool) (s:Ei) (E:Ef),aA E s (zp (zi x%zi y))->Ee Ed 139 #[Ez d,s] E fun e w2=>∃v,e = Eh (Ev #[v,Ey Ew 0])/\az w2 v (zv d (zi x%zi y))/\zf E w2:=fun d s E h=>by
  have fz:fits (zv d (zi x%zi y)):=yA (by rw[xM d m0]; exact F.2.2.2) fy;have:=qQ d E h (by have:=yY m0 F.2.2.2; unfold fits at fy; unfold aD; omega);rw[zE m0,zQ fz,zJ fz]at this;exact this
 have cN:∀d,fits (zv d (zi x / zi y)):=fun d=>yA (by rw[xM d q0]; exact F.2.2.1) fx;have cg:∀d,fits (zv d (zi x%zi y)):=fun d=>yA (by rw[xM d m0]; exact F.2.2.2) fy;have bl:az w vb y:=hb;obtain⟨aa,ca,rfl,pa⟩:=ha.parts;obtain⟨ab,cb,rfl,pb⟩:=hb.parts
 have ov:∀E,zf w E->Ee Ed 157 #[Ex aa (zp (zi x)).length ca,Ex ab (zp (zi y)).length cb] E fun e w2=>∃q r,e = Eh (Ev #[q,r])/\aA w2 q (zp (zi x / zi y))/\aA w2 r (zp (zi x%zi y))/\zf E w2:=fun E h=>
  UE E (pa.ae h) (pb.ae h) (zD x) D6 (by unfold fits at fx; unfold aD; omega) (by unfold fits at fy; unfold aD; omega)
 have m1:0<(zp (zi y)).length:=List.length_pos_iff.2 (fun e=>by have:=(zY (zD y)).1 e; omega);obtain⟨n,hn⟩:∃n,(zp (zi x)).length=n:=⟨_,rfl⟩;obtain⟨m,hm⟩:∃m,(zp (zi y)).length=m:=⟨_,rfl⟩;rw[hn]at bo ov|-;rw[hm]at bo ov bl m1|-;obtain⟨gx,bh⟩:∃b,decide (x<0)=b:=⟨_,rfl⟩;obtain⟨gy,b9⟩:∃b,decide (y<0)=b:=⟨_,rfl⟩;rw[b9]at bl;rw[bh,b9]at bo bi|-;have HG:=E7 (E8 bh b9);have HY:=E7 hy;have ec:=E7 (E8 fq cy);have HZ:=E7 (E8 cN cg);have em:=E7 fy;obtain⟨ln,bf⟩:∃l,(zp (zi x%zi y)).length=l:=⟨_,rfl⟩
 have lz:(ln=0↔zi x%zi y=0):=by
  rw[<- bf,List.length_eq_zero_iff]; exact zY m0
 have dx:=E7 (E8 bf (E8 lz m0));clear ha hb hn hm bh b9 fx fy fq cy F q0 m0 cN cg hy bf lz dt;have hs:gx=gy:=by rw[bi]; trivial
 subst hs;clear bi
 go_enter Tryz.func169,Tryz.ntmps169
 go_wp2_with fail
 refine(bo _ zh).mono ?_;rintro e w1 ⟨rfl,st⟩;have Bn:=bA w st;have oa:ai w1 w.heap.size 26 #[Ez gx,Ex aa n ca]:=ai.aw st;have ob:ai w1 (w.heap.size+1) 26 #[Ez gx,Ex ab m cb]:=ai.aw st;have or:ai w1 (w.heap.size+1+1) 26 #[Ez false,Ex none 0 0]:=ai.aw st;have H:ai w1 (w.heap.size+1+1+1) 26 #[Ez false,Ex none 0 0]:=ai.aw st;clear st;have B:=Bn;clear Bn;obtain⟨a9,N,fa,la⟩:=oa.s1;obtain⟨I,J,fb,lb⟩:=ob.s1;obtain⟨M,Z,fr,lr⟩:=or.s1;obtain⟨Y,ah,ft,lt⟩:=H.s1;clear bo;go_wp2_with fail
 refine(ov _ B).mono ?_;rintro e w2 ⟨sq,sr,rfl,hq,hr,st⟩;have Bn:=bA w st;have na:=oa.aM st;have nb:=ob.aM st;have nr:=or.aM st;have nt:=H.aM st;clear B oa ob or H a9 N fa la I J fb lb M Z fr lr Y ah ft lt;clear st;have B:=Bn;clear Bn;have oa:=na;clear na;obtain⟨a9,N,fa,la⟩:=oa.s1;have ob:=nb;clear nb;obtain⟨I,J,fb,lb⟩:=ob.s1;have or:=nr;clear nr;obtain⟨M,Z,fr,lr⟩:=or.s1;have H:=nt;clear nt;obtain⟨Y,ah,ft,lt⟩:=H.s1;clear ov;obtain⟨ar,ek,cZ⟩:=hr.ak;rw[dx.out.1]at cZ;subst cZ;have HQ:=E7 hq;have HR:=E7 hr;clear hq hr;go_wp2_with fail
 refine(ci false _ _ HQ.out).mono ?_;rintro e w3 ⟨vq,rfl,be,bt⟩;have st:zf _ w3:=bt;have Bn:=bA w st;have na:=oa.aM st;have nb:=ob.aM st;have nr:=or.aM st;have nt:=H.aM st;clear B oa ob or H a9 N fa la I J fb lb M Z fr lr Y ah ft lt;clear st;have B:=Bn;clear Bn;have oa:=na;clear na;obtain⟨a9,N,fa,la⟩:=oa.s1;have ob:=nb;clear nb;obtain⟨I,J,fb,lb⟩:=ob.s1;have or:=nr;clear nr;obtain⟨M,Z,fr,lr⟩:=or.s1;have H:=nt;clear nt;obtain⟨Y,ah,ft,lt⟩:=H.s1;clear ci;have dy:=E7 H.lt;have ce:=E7 (HR.out.ae bt);obtain⟨bq,aq,dc,cq,rfl⟩:=be.ak;have NQ:=E7 be;clear be HQ HR;go_wp2_with fail
 refine(cn gx _ _ (ce.out.ae zh)).mono ?_;rintro e w4 ⟨vr,rfl,bg,cx⟩;have st:zf _ w4:=cx;have Bn:=bA w st;have na:=oa.aM st;have nb:=ob.aM st;have nr:=or.aM st;have nt:=H.aM st;have oq:ai w4 w3.heap.size 26 #[Ez bq,Ex aq dc cq]:=ai.aw st;clear B oa ob or H a9 N fa la I J fb lb M Z fr lr Y ah ft lt;clear st;have B:=Bn;clear Bn;have oa:=na;clear na;obtain⟨a9,N,fa,la⟩:=oa.s1;have ob:=nb;clear nb;obtain⟨I,J,fb,lb⟩:=ob.s1;have or:=nr;clear nr;obtain⟨M,Z,fr,lr⟩:=or.s1;have H:=nt;clear nt;obtain⟨Y,ah,ft,lt⟩:=H.s1;obtain⟨dl,dk,fq,lq⟩:=oq.s1;clear cn;obtain⟨br,ed,er,dP,rfl⟩:=bg.ak;have NR:=E7 bg;have d9:=E7 ((NQ.out.ae zh).ae cx);clear bg NQ ce;have ey:=E7 (E8 (show w.heap.size+1+1+1<w3.heap.size from dy.out) oq.lt);have S:=E7 (Yo HG.out.1 HG.out.2 HY.out);go_wp2_with fail
 all_goals go_region
 all_goals go_wp2
 all_goals refine Eo (by simp[results,Tryz.results169,go_sem,a9,N,fa,la,I,J,fb,lb,M,Z,fr,lr,Y,ah,ft,lt,dl,dk,fq,lq]; rfl) rfl ?_
 all_goals refine⟨_,_,rfl,?_,?_,zh⟩
 all_goals (try (rw[(S.out.1)]; exact az.cE (az.aP ((d9.out.aN or).aN ((H.aK D6).aK D6)) _)))
 all_goals (try (rw[(S.out.2)]; exact az.cE (az.aP ((NR.out.aN or).aN ((H.aK D6).aK D6)) _)))
theorem XJ (w:Ef) (ha:az w va x) (hb:az w vb y) (fx:fits x) (fy:fits y) (hy:y≠0) (ed:(decide (x<0)=decide (y<0))=False) :
  Ee Ed 169 #[va,vb] w fun e w'=>∃q r,e = Eh (Ev #[q,r,Ey Ew 0])/\az w' q (xg x y)/\az w' r (xv x y)/\zf w w':=by
 have bo:∀w',zf w w'->Ee Ed 156 #[va,vb] w' fun e w2=>e = Eh (Ey Ew 0)/\zf w' w2:=fun w' h=>j' w' (ha.ae h) (hb.ae h) fx fy;have F:=ke (x:=x) hy;have fq:fits (xg x y):=yA F.1 fx;have f9:fits (xv x y):=yA F.2.1 fy;have gr:0<zi y:=by unfold zi; omega
 have q0:0<=zi x / zi y:=Int.ediv_nonneg (zD x) D6;have m0:=Int.emod_nonneg (zi x) (show zi y≠0 by omega)
 have eS:∀ (d:Bool) (s:Ei) (w':Ef),aA w' s (zp (zi x / zi y))->Ee Ed 139 #[Ez d,s] w' fun e w2=>∃v,e = Eh (Ev #[v,Ey Ew 0])/\az w2 v (zv d (zi x / zi y))/\zf w' w2:=fun d s w' h=>by
  have fz:fits (zv d (zi x / zi y)):=yA (by rw[xM d q0]; exact F.2.2.1) fx;have:=qQ d w' h (by have:=yY q0 F.2.2.1; unfold fits at fx; unfold aD; omega);rw[zE q0,zQ fz,zJ fz]at this;exact this
 have eW:∀ (d:Bool) (s:Ei) (w':Ef),aA w' s (zp (zi x%zi y))->Ee Ed 139 #[Ez d,s] w' fun e w2=>∃v,e = Eh (Ev #[v,Ey Ew 0])/\az w2 v (zv d (zi x%zi y))/\zf w' w2:=fun d s w' h=>by
  have fz:fits (zv d (zi x%zi y)):=yA (by rw[xM d m0]; exact F.2.2.2) fy;have:=qQ d w' h (by have:=yY m0 F.2.2.2; unfold fits at fy; unfold aD; omega);rw[zE m0,zQ fz,zJ fz]at this;exact this
 have fd:∀d,fits (zv d (zi x / zi y)):=fun d=>yA (by rw[xM d q0]; exact F.2.2.1) fx;have ey:∀d,fits (zv d (zi x%zi y)):=fun d=>yA (by rw[xM d m0]; exact F.2.2.2) fy;have dc:az w vb y:=hb;obtain⟨aa,ca,rfl,pa⟩:=ha.parts;obtain⟨ab,cb,rfl,pb⟩:=hb.parts
 have ov:∀w',zf w w'->Ee Ed 157 #[Ex aa (zp (zi x)).length ca,Ex ab (zp (zi y)).length cb] w' fun e w2=>∃q r,e = Eh (Ev #[q,r])/\aA w2 q (zp (zi x / zi y))/\aA w2 r (zp (zi x%zi y))/\zf w' w2:=fun w' h=>
  UE w' (pa.ae h) (pb.ae h) (zD x) D6 (by unfold fits at fx; unfold aD; omega) (by unfold fits at fy; unfold aD; omega)
 have m1:0<(zp (zi y)).length:=List.length_pos_iff.2 (fun e=>by have:=(zY (zD y)).1 e; omega);obtain⟨n,hn⟩:∃n,(zp (zi x)).length=n:=⟨_,rfl⟩;obtain⟨m,hm⟩:∃m,(zp (zi y)).length=m:=⟨_,rfl⟩;rw[hn]at bo ov|-;rw[hm]at bo ov dc m1|-;obtain⟨gx,ec⟩:∃b,decide (x<0)=b:=⟨_,rfl⟩;obtain⟨gy,cZ⟩:∃b,decide (y<0)=b:=⟨_,rfl⟩;rw[cZ]at dc;rw[ec,cZ]at bo ed|-;have HG:=E7 (E8 ec cZ);have HY:=E7 hy;have dt:=E7 (E8 fq f9);have HZ:=E7 (E8 fd ey);have gt:=E7 fy;obtain⟨ln,dl⟩:∃l,(zp (zi x%zi y)).length=l:=⟨_,rfl⟩
 have lz:(ln=0↔zi x%zi y=0):=by
  rw[<- dl,List.length_eq_zero_iff]; exact zY m0
 have d9:=E7 (E8 dl (E8 lz m0));clear ha hb hn hm ec cZ fx fy fq f9 F q0 m0 fd ey hy dl lz gr;have hs:¬gx=gy:=by rw[ed]; exact id
 have gF:(gx==gy)=false:=by simp[hs]
 have D:=E7 (vL HG.out.1 HG.out.2 hs HY.out);clear ed hs
 go_enter Tryz.func169,Tryz.ntmps169
 go_wp2_with fail
 refine(bo _ zh).mono ?_;rintro e w1 ⟨rfl,st⟩;have Bn:=bA w st;have J:ai w1 w.heap.size 26 #[Ez gx,Ex aa n ca]:=ai.aw st;have M:ai w1 (w.heap.size+1) 26 #[Ez gy,Ex ab m cb]:=ai.aw st;have or:ai w1 (w.heap.size+1+1) 26 #[Ez false,Ex none 0 0]:=ai.aw st;have I:ai w1 (w.heap.size+1+1+1) 26 #[Ez false,Ex none 0 0]:=ai.aw st;clear st;have B:=Bn;clear Bn;obtain⟨bg,ah,fa,la⟩:=J.s1;obtain⟨N,Y,fb,lb⟩:=M.s1;obtain⟨Z,bf,fr,lr⟩:=or.s1;obtain⟨be,bh,ft,lt⟩:=I.s1;clear bo;go_wp2_with fail
 refine(ov _ B).mono ?_;rintro e w2 ⟨sq,sr,rfl,hq,hr,st⟩;have Bn:=bA w st;have na:=J.aM st;have nb:=M.aM st;have nr:=or.aM st;have nt:=I.aM st;clear B J M or I bg ah fa la N Y fb lb Z bf fr lr be bh ft lt;clear st;have B:=Bn;clear Bn;have J:=na;clear na;obtain⟨bg,ah,fa,la⟩:=J.s1;have M:=nb;clear nb;obtain⟨N,Y,fb,lb⟩:=M.s1;have or:=nr;clear nr;obtain⟨Z,bf,fr,lr⟩:=or.s1;have I:=nt;clear nt;obtain⟨be,bh,ft,lt⟩:=I.s1;clear ov;obtain⟨ar,gJ,fe⟩:=hr.ak;rw[d9.out.1]at fe;subst fe;have HQ:=E7 hq;have HR:=E7 hr;clear hq hr;go_wp2_with fail
 refine(eS true _ _ HQ.out).mono ?_;rintro e w3 ⟨vq,rfl,dk,em⟩;have st:zf _ w3:=em;have Bn:=bA w st;have na:=J.aM st;have nb:=M.aM st;have nr:=or.aM st;have nt:=I.aM st;clear B J M or I bg ah fa la N Y fb lb Z bf fr lr be bh ft lt;clear st;have B:=Bn;clear Bn;have J:=na;clear na;obtain⟨bg,ah,fa,la⟩:=J.s1;have M:=nb;clear nb;obtain⟨N,Y,fb,lb⟩:=M.s1;have or:=nr;clear nr;obtain⟨Z,bf,fr,lr⟩:=or.s1;have I:=nt;clear nt;obtain⟨be,bh,ft,lt⟩:=I.s1;clear eS;have gA:=E7 I.lt;have er:=E7 (HR.out.ae em);obtain⟨bq,aq,ci,cq,rfl⟩:=dk.ak;have NQ:=E7 dk;clear dk HQ HR;go_wp2_with fail
 refine(eW gx _ _ (er.out.ae zh)).mono ?_;rintro e w4 ⟨vr,rfl,dy,f8⟩;have st:zf _ w4:=f8;have Bn:=bA w st;have na:=J.aM st;have nb:=M.aM st;have nr:=or.aM st;have nt:=I.aM st;have oq:ai w4 w3.heap.size 26 #[Ez bq,Ex aq ci cq]:=ai.aw st;clear B J M or I bg ah fa la N Y fb lb Z bf fr lr be bh ft lt;clear st;have B:=Bn;clear Bn;have J:=na;clear na;obtain⟨bg,ah,fa,la⟩:=J.s1;have M:=nb;clear nb;obtain⟨N,Y,fb,lb⟩:=M.s1;have or:=nr;clear nr;obtain⟨Z,bf,fr,lr⟩:=or.s1;have I:=nt;clear nt;obtain⟨be,bh,ft,lt⟩:=I.s1;obtain⟨bt,bi,fq,lq⟩:=oq.s1;clear eW;obtain⟨br,cn,cx,bl,rfl⟩:=dy.ak;have NR:=E7 dy;have ek:=E7 ((NQ.out.ae zh).ae f8);clear dy NQ er;have fl:=E7 (E8 (show w.heap.size+1+1+1<w3.heap.size from gA.out) oq.lt)
 rcases Nat.eq_zero_or_pos ln with h0 | h0
 .
  have E:=E7 (D.out.1 (d9.out.2.1.1 h0));subst h0;go_wp2_with fail
  all_goals go_region
  all_goals go_wp2
  all_goals refine Eo (by simp[results,Tryz.results169,go_sem,bg,ah,fa,la,N,Y,fb,lb,Z,bf,fr,lr,be,bh,ft,lt,bt,bi,fq,lq]; rfl) rfl ?_
  all_goals refine⟨_,_,rfl,?_,?_,zh⟩
  all_goals (try (rw[(E.out.1)]; exact az.cE (az.aP ((ek.out.aN or).aN ((I.aK D6).aK D6)) _)))
  all_goals (try (rw[(E.out.2)]; exact az.cE (az.aP ((NR.out.aN or).aN ((I.aK D6).aK D6)) _)))
 .
  have E:=E7 (D.out.2 (by have:=d9.out.2.1; have:=d9.out.2.2; omega));go_wp2_with fail
  have NB:=E7 (dc.ae B);have gK:w3.heap.size<w4.heap.size:=fl.out.2;have gE:w.heap.size+1+1+1<w3.heap.size:=fl.out.1;have n1:¬w4.heap.size=w3.heap.size:=D6
  have n2:¬w.heap.size=w3.heap.size:=D6
  have n3:¬w.heap.size+1=w3.heap.size:=D6
  have n4:¬w3.heap.size=w4.heap.size:=D6
  have n5:¬w3.heap.size=w.heap.size:=D6
  have n6:¬w3.heap.size=w.heap.size+1:=D6
  have gL:jc (zv true (zi x / zi y) + -1)=0:=zQ (by rw[<- E.out.1]; exact dt.out.1);have gn:Hid (xt (zv true (zi x / zi y) + -1)=xg x y):=by show xt _=_; rw[<- E.out.1]; exact zJ dt.out.1
  have gd:Hid (xt (zv gx (zi x%zi y)+y)=xv x y):=by show xt _=_; rw[<- E.out.2]; exact zJ dt.out.2
  go_region_with (first
   | (go_at_call 104; refine(Xa (-1) _ D6 D6).mono ?_; rintro e H ⟨vo,rfl,dP,ce⟩; go_must (have gz:=E7 ((ek.out.ae zh).ae ce); have g8:=E7 ((NR.out.ae zh).ae ce); have g9:=E7 ((NB.out.ae zh).ae ce); obtain⟨gD,gM,gI,gH,rfl⟩:=dP.ak; have NO:=E7 dP; clear dP; have st:zf _ H:=ce; have Bn:=bA w st; have na:ai H w.heap.size 26 #[Ez gx,Ex aa n ca]:=ai.aw st; have nb:ai H (w.heap.size+1) 26 #[Ez gy,Ex ab m cb]:=ai.aw st; have nr:ai H (w.heap.size+1+1) 26 #[Ez false,Ex none 0 0]:=ai.aw st; have nt:ai H (w.heap.size+1+1+1) 26 #[Ez false,Ex none 0 0]:=ai.aw st; have nq:ai H w3.heap.size 26 #[Ez bq,Ex aq ci cq]:=ai.aw st; have ns:ai H w4.heap.size 26 #[Ez br,Ex cn cx bl]:=ai.aw st; clear B J M or I oq bg ah fa la N Y fb lb Z bf fr lr be bh ft lt bt bi fq lq; clear st; have B:=Bn; clear Bn; have J:=na; clear na; have bg:Es H ⟨w.heap.size,0,none⟩=some (Ez gx):=J.c 0 rfl; have ah:Es H ⟨w.heap.size,1,none⟩=some (Ex aa n ca):=J.c 1 rfl; have fa:=J.fr; have la:=J.lt; have M:=nb; clear nb; have N:Es H ⟨w.heap.size+1,0,none⟩=some (Ez gy):=M.c 0 rfl; have Y:Es H ⟨w.heap.size+1,1,none⟩=some (Ex ab m cb):=M.c 1 rfl; have fb:=M.fr; have lb:=M.lt; have or:=nr; clear nr; have Z:Es H ⟨w.heap.size+1+1,0,none⟩=some (Ez false):=or.c 0 rfl; have bf:Es H ⟨w.heap.size+1+1,1,none⟩=some (Ex none 0 0):=or.c 1 rfl; have fr:=or.fr; have lr:=or.lt; have I:=nt; clear nt; have be:Es H ⟨w.heap.size+1+1+1,0,none⟩=some (Ez false):=I.c 0 rfl; have bh:Es H ⟨w.heap.size+1+1+1,1,none⟩=some (Ex none 0 0):=I.c 1 rfl; have ft:=I.fr; have lt:=I.lt; have oq:=nq; clear nq; have bt:Es H ⟨w3.heap.size,0,none⟩=some (Ez bq):=oq.c 0 rfl; have bi:Es H ⟨w3.heap.size,1,none⟩=some (Ex aq ci cq):=oq.c 1 rfl; have fq:=oq.fr; have lq:=oq.lt; have os:=ns; clear ns; have cy:Es H ⟨w4.heap.size,0,none⟩=some (Ez br):=os.c 0 rfl; have cN:Es H ⟨w4.heap.size,1,none⟩=some (Ex cn cx bl):=os.c 1 rfl; have fs:=os.fr; have ls:=os.lt))
   | (go_at_call 192; refine(Hb _ gz.out NO.out (HZ.out.1 _) (xP (by unfold zi; omega))).mono ?_; rintro e H ⟨vs,rfl,dx,ce⟩; go_must (have gi:=E7 ((g8.out.ae zh).ae ce); have gB:=E7 ((g9.out.ae zh).ae ce); obtain⟨bs,gp,gC,gk,rfl⟩:=dx.ak; have NS:=E7 dx; clear dx; have st:zf _ H:=ce; have Bn:=bA w st; have na:ai H w.heap.size 26 #[Ez gx,Ex aa n ca]:=ai.aw st; have nb:ai H (w.heap.size+1) 26 #[Ez gy,Ex ab m cb]:=ai.aw st; have nr:ai H (w.heap.size+1+1) 26 #[Ez false,Ex none 0 0]:=ai.aw st; have nt:ai H (w.heap.size+1+1+1) 26 #[Ez false,Ex none 0 0]:=ai.aw st; have nq:ai H w3.heap.size 26 #[Ez bq,Ex aq ci cq]:=ai.aw st; have ns:ai H w4.heap.size 26 #[Ez br,Ex cn cx bl]:=ai.aw st; clear B J M or I oq os bg ah fa la N Y fb lb Z bf fr lr be bh ft lt bt bi fq lq cy cN fs ls; clear st; have B:=Bn; clear Bn; have J:=na; clear na; have bg:Es H ⟨w.heap.size,0,none⟩=some (Ez gx):=J.c 0 rfl; have ah:Es H ⟨w.heap.size,1,none⟩=some (Ex aa n ca):=J.c 1 rfl; have fa:=J.fr; have la:=J.lt; have M:=nb; clear nb; have N:Es H ⟨w.heap.size+1,0,none⟩=some (Ez gy):=M.c 0 rfl; have Y:Es H ⟨w.heap.size+1,1,none⟩=some (Ex ab m cb):=M.c 1 rfl; have fb:=M.fr; have lb:=M.lt; have or:=nr; clear nr; have Z:Es H ⟨w.heap.size+1+1,0,none⟩=some (Ez false):=or.c 0 rfl; have bf:Es H ⟨w.heap.size+1+1,1,none⟩=some (Ex none 0 0):=or.c 1 rfl; have fr:=or.fr; have lr:=or.lt; have I:=nt; clear nt; have be:Es H ⟨w.heap.size+1+1+1,0,none⟩=some (Ez false):=I.c 0 rfl; have bh:Es H ⟨w.heap.size+1+1+1,1,none⟩=some (Ex none 0 0):=I.c 1 rfl; have ft:=I.fr; have lt:=I.lt; have oq:=nq; clear nq; have bt:Es H ⟨w3.heap.size,0,none⟩=some (Ez bq):=oq.c 0 rfl; have bi:Es H ⟨w3.heap.size,1,none⟩=some (Ex aq ci cq):=oq.c 1 rfl; have fq:=oq.fr; have lq:=oq.lt; have os:=ns; clear ns; have cy:Es H ⟨w4.heap.size,0,none⟩=some (Ez br):=os.c 0 rfl; have cN:Es H ⟨w4.heap.size,1,none⟩=some (Ex cn cx bl):=os.c 1 rfl; have fs:=os.fr; have ls:=os.lt)))
  all_goals
   go_wp2_with fail
   refine(Hb _ (gi.out.aN oq) (gB.out.aN oq) (HZ.out.2 _) gt.out).mono ?_;rintro e w8 ⟨gG,rfl,cg,f7⟩;have eM:=E7 ((NS.out.aN oq).ae f7);rw[gn.out]at eM;rw[gd.out]at cg;obtain⟨b9,a9,n9,c9,rfl⟩:=cg.ak;have gj:=E7 cg;clear cg;have st:zf _ w8:=f7;have Bn:=bA w st;have na:=J.aM st;have nb:=M.aM st;have nr:=or.aM st;have nt:=I.aM st;replace oq:ai w8 w3.heap.size 26 #[Ez bs,Ex gp gC gk]:=ai.aw st;replace os:ai w8 w4.heap.size 26 #[Ez br,Ex cn cx bl]:=ai.aw st;clear B J M or I bg ah fa la N Y fb lb Z bf fr lr be bh ft lt bt bi fq lq cy cN fs ls;clear st;have B:=Bn;clear Bn;have J:=na;clear na;obtain⟨bg,ah,fa,la⟩:=J.s1;have M:=nb;clear nb;obtain⟨N,Y,fb,lb⟩:=M.s1;have or:=nr;clear nr;obtain⟨Z,bf,fr,lr⟩:=or.s1;have I:=nt;clear nt;obtain⟨be,bh,ft,lt⟩:=I.s1;obtain⟨bt,bi,fq,lq⟩:=oq.s1;obtain⟨cy,cN,fs,ls⟩:=os.s1;go_wp2_with fail
   go_region
   go_wp2
   refine Eo (by simp[results,Tryz.results169,go_sem,bg,ah,fa,la,N,Y,fb,lb,Z,bf,fr,lr,be,bh,ft,lt,bt,bi,fq,lq,cy,cN,fs,ls]; rfl) rfl ?_;refine⟨_,_,rfl,?_,?_,zh⟩
   . exact az.cE (((eM.out.aN os).aN ((or.aK D6).aK D6)).aN ((((I.aK D6).aK D6).aK D6).aK D6))
   . exact az.cE (((gj.out.aN os).aN ((or.aK D6).aK D6)).aN ((((I.aK D6).aK D6).aK D6).aK D6))
theorem KA (w:Ef) (N:az w va x) (I:az w vb y) (M:fits x) (J:fits y) (H:y≠0) :
  Ee Ed 169 #[va,vb] w fun e E=>∃q r,e = Eh (Ev #[q,r,Ey Ew 0])/\az E q (xg x y)/\az E r (xv x y)/\zf w E:=by
 by_cases h:decide (x<0)=decide (y<0)
 . exact XI w N I M J H (by simp[h])
 . exact XJ w N I M J H (by simp[h])
def xB (gx:Bool) (la:List Int) (gy:Bool) (lb:List Int):Prop:=zU gx la/\zU gy lb/\gy=false/\lb≠ []/\yn (zv gx (zj la)) (zv gy (zj lb))=1
instance (gx:Bool) (la:List Int) (gy:Bool) (lb:List Int):Decidable (xB gx la gy lb):=inferInstanceAs (Decidable (_/\_/\_/\_/\_))
theorem KH (gx gy:Bool) {sa sb:Ei} {la lb:List Int} (w:Ef) (ha:aA w sa la) (hb:aA w sb lb) :
  Ee Ed 86 #[Ej #[Ez gx,sa,Ez gy,sb]] w fun e w'=>e = Eh (Ey Ew (yT (xB gx la gy lb)))/\zf w w':=by
 have Y:∀w',zf w w'->Ee Ed 124 #[Ej #[Ez gx,sa]] w' fun e w2=>e = Eh (Ey Ew (yT (zU gx la)))/\zf w' w2:=fun w' h=>qT gx w' (ha.ae h);have Z:∀w',zf w w'->Ee Ed 124 #[Ej #[Ez gy,sb]] w' fun e w2=>e = Eh (Ey Ew (yT (zU gy lb)))/\zf w' w2:=fun w' h=>qT gy w' (hb.ae h)
 have gc:zU gx la->zU gy lb->∀w',zf w w'->Ee Ed 125 #[Ej #[Ez gx,sa],Ej #[Ez gy,sb]] w' fun e w2=>∃v,e = Eh (Ev #[v,Ey Ew 0])/\az w2 v (yn (zv gx (zj la)) (zv gy (zj lb)))/\fits (yn (zv gx (zj la)) (zv gy (zj lb)))/\zf w' w2:=fun va vb w' h=>
  BF w' (qt (ha.ae h) va) (qt (hb.ae h) vb) (qu ha.ok va) (qu hb.ok vb)
 obtain⟨aa,ca,rfl⟩:=ha.ak;obtain⟨ab,cb,rfl⟩:=hb.ak;obtain⟨n,hn⟩:∃n,la.length=n:=⟨_,rfl⟩;obtain⟨m,hm⟩:∃m,lb.length=m:=⟨_,rfl⟩;rw[hn]at Y gc|-;rw[hm]at Z gc|-;have ah:m=0↔lb = []:=by rw[<- hm]; exact List.length_eq_zero_iff
 clear ha hb hn hm
 by_cases h1:zU gx la
 .
  have E1:yT (zU gx la)=0:=E9 h1;rw[E1]at Y
  by_cases h2:zU gy lb
  .
   have E2:yT (zU gy lb)=0:=E9 h2;rw[E2]at Z;have be:=gc h1 h2;clear gc E1 E2
   cases gy with
   | true=>
    have H:Hid (yT (xB gx la true lb)=8):=E_ (fun h=>by have:=h.2.2.1; cases this);clear h1 h2 be ah
    go_enter Tryz.func86,Tryz.ntmps86
    go_wp2_with fail
    refine(Y _ zh).mono ?_;rintro e w1 ⟨rfl,a9⟩;have st:zf _ w1:=a9;have N:=bA w st;have of:ai w1 w.heap.size 28 #[Ez gx,Ex aa n ca,Ez true,Ex ab m cb]:=ai.aw st;clear st;have B:=N;clear N;obtain⟨E,M,I,J,ff,lf⟩:=of.s3;clear Y;go_wp2_with fail
    refine(Z _ B).mono ?_;rintro e w2 ⟨rfl,b9⟩;have st:zf _ w2:=b9;have N:=bA w st;have nf:=of.aM st;clear B of E M I J ff lf;clear st;have B:=N;clear N;have of:=nf;clear nf;obtain⟨E,M,I,J,ff,lf⟩:=of.s3;clear Z
    go_wp2
    go_returns
    exact⟨yE H.out.symm,zh⟩
   | false=>
    rcases Nat.eq_zero_or_pos m with h0 | h0
    .
     have H:Hid (yT (xB gx la false lb)=8):=E_ (fun h=>h.2.2.2.1 (ah.1 h0));subst h0;clear h1 h2 be ah
     go_enter Tryz.func86,Tryz.ntmps86
     go_wp2_with fail
     refine(Y _ zh).mono ?_;rintro e w1 ⟨rfl,a9⟩;have st:zf _ w1:=a9;have N:=bA w st;have of:ai w1 w.heap.size 28 #[Ez gx,Ex aa n ca,Ez false,Ex ab 0 cb]:=ai.aw st;clear st;have B:=N;clear N;obtain⟨E,M,I,J,ff,lf⟩:=of.s3;clear Y;go_wp2_with fail
     refine(Z _ B).mono ?_;rintro e w2 ⟨rfl,b9⟩;have st:zf _ w2:=b9;have N:=bA w st;have nf:=of.aM st;clear B of E M I J ff lf;clear st;have B:=N;clear N;have of:=nf;clear nf;obtain⟨E,M,I,J,ff,lf⟩:=of.s3;clear Z
     go_wp2
     go_returns
     exact⟨yE H.out.symm,zh⟩
    .
     have bt:lb≠ []:=fun e=>by have:=ah.2 e; omega
     have HV:Hid (yT (xB gx la false lb)=if yn (zv gx (zj la)) (zv false (zj lb))=1 then 0 else 8):=by
      show yT (xB gx la false lb)=_
      by_cases hg:yn (zv gx (zj la)) (zv false (zj lb))=1
      . rw[E9 hg]; exact E9 ⟨h1,h2,rfl,bt,hg⟩
      . rw[E_ hg]; exact E_ (fun h=>hg h.2.2.2.2)
     obtain⟨G,hG⟩:∃G,yn (zv gx (zj la)) (zv false (zj lb))=G:=⟨_,rfl⟩;rw[hG]at be HV;clear h1 h2 ah hG bt
     go_enter Tryz.func86,Tryz.ntmps86
     go_wp2_with fail
     refine(Y _ zh).mono ?_;rintro e w1 ⟨rfl,a9⟩;have st:zf _ w1:=a9;have N:=bA w st;have of:ai w1 w.heap.size 28 #[Ez gx,Ex aa n ca,Ez false,Ex ab m cb]:=ai.aw st;clear st;have B:=N;clear N;obtain⟨E,M,I,J,ff,lf⟩:=of.s3;clear Y;go_wp2_with fail
     refine(Z _ B).mono ?_;rintro e w2 ⟨rfl,b9⟩;have st:zf _ w2:=b9;have N:=bA w st;have nf:=of.aM st;clear B of E M I J ff lf;clear st;have B:=N;clear N;have of:=nf;clear nf;obtain⟨E,M,I,J,ff,lf⟩:=of.s3;clear Z;go_wp2_with fail
     refine(be _ B).mono ?_;rintro e w3 ⟨vg,rfl,bh,bl,st⟩;have N:=bA w st;have nf:=of.aM st;clear B of E M I J ff lf;clear st;have B:=N;clear N;have of:=nf;clear nf;obtain⟨E,M,I,J,ff,lf⟩:=of.s3;clear be;obtain⟨bg,ag,ng,cg,rfl⟩:=bh.ak;have NG:=E7 bh;clear bh;go_wp2_with fail
     have cy:w.heap.size<w3.heap.size:=of.lt
     go_region_with (first
      | (go_at_call 104; refine(Xa 1 _ D6 D6).mono ?_; rintro e wv ⟨vo,rfl,bi,bf⟩; go_must (have ci:=E7 ((NG.out.ae zh).ae bf); obtain⟨cx,cn,cZ,cN,rfl⟩:=bi.ak; have NO:=E7 bi; clear bi; have st:zf _ wv:=bf; have N:=bA w st; have nf:ai wv w.heap.size 28 #[Ez gx,Ex aa n ca,Ez false,Ex ab m cb]:=ai.aw st; have ng:ai wv w3.heap.size 26 #[Ez bg,Ex ag ng cg]:=ai.aw st; clear B of E M I J ff lf; clear st; have B:=N; clear N; have of:=nf; clear nf; have E:Es wv ⟨w.heap.size,0,none⟩=some (Ez gx):=of.c 0 rfl; have M:Es wv ⟨w.heap.size,1,none⟩=some (Ex aa n ca):=of.c 1 rfl; have I:Es wv ⟨w.heap.size,2,none⟩=some (Ez false):=of.c 2 rfl; have J:Es wv ⟨w.heap.size,3,none⟩=some (Ex ab m cb):=of.c 3 rfl; have ff:=of.fr; have lf:=of.lt; have og:=ng; clear ng; have br:Es wv ⟨w3.heap.size,0,none⟩=some (Ez bg):=og.c 0 rfl; have ce:Es wv ⟨w3.heap.size,1,none⟩=some (Ex ag ng cg):=og.c 1 rfl; have fg:=og.fr; have lg:=og.lt))
      | (go_at_call 44; refine(Qr _ ci.out NO.out bl (xP (by unfold zi; omega))).mono ?_; rintro e wv ⟨rfl,bf⟩; go_must (have st:zf _ wv:=bf; have N:=bA w st; have nf:ai wv w.heap.size 28 #[Ez gx,Ex aa n ca,Ez false,Ex ab m cb]:=ai.aw st; have ng:ai wv w3.heap.size 26 #[Ez bg,Ex ag ng cg]:=ai.aw st; clear B of og E M I J ff lf br ce fg lg; clear st; have B:=N; clear N; have of:=nf; clear nf; have E:Es wv ⟨w.heap.size,0,none⟩=some (Ez gx):=of.c 0 rfl; have M:Es wv ⟨w.heap.size,1,none⟩=some (Ex aa n ca):=of.c 1 rfl; have I:Es wv ⟨w.heap.size,2,none⟩=some (Ez false):=of.c 2 rfl; have J:Es wv ⟨w.heap.size,3,none⟩=some (Ex ab m cb):=of.c 3 rfl; have ff:=of.fr; have lf:=of.lt; have og:=ng; clear ng; have br:Es wv ⟨w3.heap.size,0,none⟩=some (Ez bg):=og.c 0 rfl; have ce:Es wv ⟨w3.heap.size,1,none⟩=some (Ex ag ng cg):=og.c 1 rfl; have fg:=og.fr; have lg:=og.lt)))
     all_goals
      go_wp2
      all_goals go_returns
      .
       first
        | (
          have h:(!decide (G=1))=true:=by assumption
          have hn:¬G=1:=by simpa using h
          exact⟨yE (HV.out.trans (E_ hn)).symm,zh⟩)
      .
       first
        | (
          have h:(!decide (G=1))=false:=by assumption
          have hn:G=1:=by simpa using h
          exact⟨yE (HV.out.trans (E9 hn)).symm,zh⟩)
  .
   have E2:yT (zU gy lb)=8:=E_ h2;rw[E2]at Z;have H:Hid (yT (xB gx la gy lb)=8):=E_ (fun h=>h2 h.2.1);clear h1 h2 gc ah E1 E2
   go_enter Tryz.func86,Tryz.ntmps86
   go_wp2_with fail
   refine(Y _ zh).mono ?_;rintro e w1 ⟨rfl,a9⟩;have st:zf _ w1:=a9;have N:=bA w st;have of:ai w1 w.heap.size 28 #[Ez gx,Ex aa n ca,Ez gy,Ex ab m cb]:=ai.aw st;clear st;have B:=N;clear N;obtain⟨E,M,I,J,ff,lf⟩:=of.s3;clear Y;go_wp2_with fail
   refine(Z _ B).mono ?_;rintro e w2 ⟨rfl,st⟩;have N:=bA w st;have nf:=of.aM st;clear B of E M I J ff lf;clear st;have B:=N;clear N;have of:=nf;clear nf;obtain⟨E,M,I,J,ff,lf⟩:=of.s3;clear Z
   go_wp2
   go_returns
   exact⟨yE H.out.symm,zh⟩
 .
  have E1:yT (zU gx la)=8:=E_ h1;rw[E1]at Y;have H:Hid (yT (xB gx la gy lb)=8):=E_ (fun h=>h1 h.1);clear h1 gc ah E1 Z
  go_enter Tryz.func86,Tryz.ntmps86
  go_wp2_with fail
  refine(Y _ zh).mono ?_;rintro e w1 ⟨rfl,st⟩;have N:=bA w st;have of:ai w1 w.heap.size 28 #[Ez gx,Ex aa n ca,Ez gy,Ex ab m cb]:=ai.aw st;clear st;have B:=N;clear N;obtain⟨E,M,I,J,ff,lf⟩:=of.s3;clear Y
  go_wp2
  go_returns
  exact⟨yE H.out.symm,zh⟩
end
section
open Go.RowKit
variable {x y:Int} {va vb:Ei}
theorem C8 (w:Ef) (ha:az w va x) (hb:az w vb y) (fx:fits x) (fy:fits y) :
  Ee Ed 152 #[va,vb] w fun e E=>∃v,e = Eh (Ev #[v,Ey Ew (jc (x-y))])/\az E v (xt (x-y))/\zf w E:=by
 have ck:∀ (E:Ef) (q:Nat) (aa ab:Option Addr) (ca cb:Nat),ai E q 26 #[Ez (decide (x<0)),Ex aa (zp (zi x)).length ca,Ez (decide (y<0)),Ex ab (zp (zi y)).length cb]->aA E (Ex aa (zp (zi x)).length ca) (zp (zi x))->aA E (Ex ab (zp (zi y)).length cb) (zp (zi y))->
   Ee Ed 93 #[Ex (some ⟨q,0,none⟩) 2 2] E fun e w2=>e = Eh (Ey Ew 0)/\zf E w2:=fun E q aa ab ca cb hb h1 h2=>xA E hb h1 h2 fx fy
 obtain⟨ab,cb,rfl,pb⟩:=hb.parts;have en:zi (-y)=zi y:=by unfold zi; omega
 have ad:∀E,zf w E->Ee Ed 180 #[va,Ej #[Ez (!decide (y<0)),Ex ab (zp (zi y)).length cb]] E fun e w2=>∃v,e = Eh (Ev #[v,Ey Ew (jc (x-y))])/\az w2 v (xt (x-y))/\zf E w2:=fun E h=>by
  have:=Qp (y:= -y) (gy:= !decide (y<0)) E (ha.ae h) (by rw[en]; exact pb.ae h) (by
   rcases Int.lt_trichotomy y 0 with h | h | h
   . right; rw[E' h,Ea D6]; rfl
   . left; omega
   . right; rw[Ea (show ¬y<0 by omega),E' D6]; rfl) fx (by unfold fits; rw[en]; exact fy)
  rw[<- Int.sub_eq_add_neg]at this;exact this
 obtain⟨aa,ca,rfl,pa⟩:=ha.parts;have H:=fun(E:Ef) (q:Nat)=>ck E q aa ab ca cb;obtain⟨n,hn⟩:∃n,(zp (zi x)).length=n:=⟨_,rfl⟩;obtain⟨m,hm⟩:∃m,(zp (zi y)).length=m:=⟨_,rfl⟩;rw[hn]at pa ad|-;rw[hm]at pb ad|-;simp only[hn,hm]at H;obtain⟨gx,Z⟩:∃b,decide (x<0)=b:=⟨_,rfl⟩;obtain⟨gy,N⟩:∃b,decide (y<0)=b:=⟨_,rfl⟩;rw[Z,N]at ad|-;simp only[Z,N]at H;clear ha hb hn hm Z N fx fy ck en
 go_enter Tryz.func152,Tryz.ntmps152
 go_wp2_with fail
 refine(H _ _ Qa (pa.ae zh) (pb.ae zh)).mono ?_;rintro e w1 ⟨rfl,st⟩;have Bn:=bA w st;have oa:ai w1 w.heap.size 26 #[Ez gx,Ex aa n ca]:=ai.aw st;have ob:ai w1 (w.heap.size+1) 26 #[Ez gy,Ex ab m cb]:=ai.aw st;have or:ai w1 (w.heap.size+1+1) 26 #[Ez false,Ex none 0 0]:=ai.aw st;clear st;have B:=Bn;clear Bn;obtain⟨I,Y,fa,la⟩:=oa.s1;obtain⟨ah,b9,fb,lb⟩:=ob.s1;obtain⟨J,a9,fr,lr⟩:=or.s1;clear H;go_wp2_with fail
 refine(ad _ zh).mono ?_;rintro e w2 ⟨v2,rfl,M,st⟩;have Bn:=bA w st;have na:=oa.aM st;have nr:=or.aM st;clear B oa ob or I Y fa la ah b9 fb lb J a9 fr lr;clear st;have B:=Bn;clear Bn;have oa:=na;clear na;obtain⟨I,Y,fa,la⟩:=oa.s1;have or:=nr;clear nr;obtain⟨J,a9,fr,lr⟩:=or.s1;clear ad;obtain⟨bb,ao,k,c,rfl⟩:=M.ak;have HV:=E7 M;clear M
 go_wp2
 refine Eo (by simp[results,Tryz.results152,go_sem,I,Y,fa,la,J,a9,fr,lr]; rfl) rfl ?_;exact⟨_,rfl,HV.out.aN or,zh⟩
theorem Xj (w:Ef) (ha:az w va x) (hb:az w vb y) (fx:fits x) (fy:fits y) (hy:y≠0) (bl:(decide (x<0)=decide (y<0))) (hZ:(zi x%zi y=0)\/(0<zi x%zi y)) :
  Ee Ed 132 #[va,vb] w fun e E=>∃q r,e = Eh (Ev #[q,r,Ey Ew 0])/\az E q (xg x y)/\az E r (xv x y)/\zf w E:=by
 have ck:∀ (E:Ef) (q:Nat) (aa ab:Option Addr) (ca cb:Nat),ai E q 26 #[Ez (decide (x<0)),Ex aa (zp (zi x)).length ca,Ez (decide (y<0)),Ex ab (zp (zi y)).length cb]->aA E (Ex aa (zp (zi x)).length ca) (zp (zi x))->aA E (Ex ab (zp (zi y)).length cb) (zp (zi y))->
   Ee Ed 93 #[Ex (some ⟨q,0,none⟩) 2 2] E fun e w2=>e = Eh (Ey Ew 0)/\zf E w2:=fun E q aa ab ca cb hb I H=>xA E hb I H fx fy
 have F:=ke (x:=x) hy;have fq:fits (xg x y):=yA F.1 fx;have bi:fits (xv x y):=yA F.2.1 fy;have cn:0<zi y:=by unfold zi; omega
 have q0:0<=zi x / zi y:=Int.ediv_nonneg (zD x) D6;have m0:=Int.emod_nonneg (zi x) (show zi y≠0 by omega);have m1:=Int.emod_lt_of_pos (zi x) cn;have lq:(zp (zi x / zi y)).length<=4096:=Nat.le_trans (yY q0 F.2.2.1) fx;have ce:(zp (zi x%zi y)).length<=4096:=Nat.le_trans (yY m0 F.2.2.2) fy;obtain⟨aa,ca,rfl,pa⟩:=ha.parts;obtain⟨ab,cb,rfl,pb⟩:=hb.parts;have br:=fun(E:Ef) (q:Nat)=>ck E q aa ab ca cb
 have dv:∀E,zf w E->Ee Ed 135 #[Ex aa (zp (zi x)).length ca,Ex ab (zp (zi y)).length cb] E fun e w2=>∃q r,e = Eh (Ev #[q,r])/\aA w2 q (zp (zi x / zi y))/\aA w2 r (zp (zi x%zi y))/\zf E w2:=fun E h=>
  ZT E (pa.ae h) (pb.ae h) (zD x) D6 (by unfold fits at fx; omega) (by unfold fits at fy; omega)
 have y0:0<(zp (zi y)).length:=List.length_pos_iff.2 (fun e=>by have:=(zY (zD y)).1 e; omega);have VY:=zE (zD y);have Y1:(zp (zi y)).length<=4096:=fy;unfold fits at fx fy;obtain⟨n,hn⟩:∃n,(zp (zi x)).length=n:=⟨_,rfl⟩;obtain⟨m,hm⟩:∃m,(zp (zi y)).length=m:=⟨_,rfl⟩;rw[hn]at pa dv|-;rw[hm]at pb dv y0 Y1|-;simp only[hn,hm]at br;obtain⟨gx,bg⟩:∃b,decide (x<0)=b:=⟨_,rfl⟩;obtain⟨gy,bf⟩:∃b,decide (y<0)=b:=⟨_,rfl⟩;have HS:Hid (decide (x<0)=gx/\decide (y<0)=gy):=⟨bg,bf⟩;rw[bg,bf]at bl|-;simp only[bg,bf]at br;have VQ:=zE q0;have VR:=zE m0;have bh:(zp (zi x%zi y)).length=0↔zi x%zi y=0:=List.length_eq_zero_iff.trans (zY m0);have DS:=Yo bg (bl▸bf) hy
 have dk:∀E v l,aA E v l->zj l=zi x / zi y->l.length<=aD->Ee Ed 94 #[Ez false,v] E fun e w2=>∃v',e = Eh (Ev #[v',Ey Ew 0])/\az w2 v' (xg x y)/\zf E w2:=fun E v l h I H=>by
  have:=xX false E h H;rw[I,show zv false (zi x / zi y)=xg x y from by exact DS.1.symm,zQ fq,zJ fq]at this;exact this
 have dc:∀E v l,aA E v l->zj l=zi x%zi y->l.length<=aD->Ee Ed 94 #[Ez gx,v] E fun e w2=>∃v',e = Eh (Ev #[v',Ey Ew 0])/\az w2 v' (xv x y)/\zf E w2:=fun E v l h I H=>by
  have:=xX gx E h H;rw[I,show zv gx (zi x%zi y)=xv x y from by exact DS.2.symm,zQ bi,zJ bi]at this;exact this
 have HF:=E7 (E8 VQ (E8 VR (E8 lq (E8 ce VY))));have HM:=E7 (E8 m1 (E8 hm m0));obtain⟨k,hk⟩:∃k,(zp (zi x%zi y)).length=k:=⟨_,rfl⟩;rw[hk]at bh
 rcases hZ with hZ | hZ
 focus
  have cy:k=0:=bh.2 hZ;have HK:=E7 hk;clear ha hb hn hm bg bf fx fy ck DS F cn q0 m0 m1 lq ce VY VQ VR hy bh hk hZ fq bi;subst bl;subst cy
 rotate_left
 focus
  have cy:0<k:=D6
  have HK:=E7 hk;clear ha hb hn hm bg bf fx fy ck DS F cn q0 m0 m1 lq ce VY VQ VR hy bh hk hZ fq bi;subst bl
 all_goals
  go_enter Tryz.func132,Tryz.ntmps132
  go_wp2_with fail
  refine(br _ _ Qa (pa.ae zh) (pb.ae zh)).mono ?_;rintro e w1 ⟨rfl,st⟩;have Bn:=bA w st;have oa:ai w1 w.heap.size 26 #[Ez gx,Ex aa n ca]:=ai.aw st;have ob:ai w1 (w.heap.size+1) 26 #[Ez gx,Ex ab m cb]:=ai.aw st;have or:ai w1 (w.heap.size+1+1) 26 #[Ez false,Ex none 0 0]:=ai.aw st;have J:ai w1 (w.heap.size+1+1+1) 26 #[Ez false,Ex none 0 0]:=ai.aw st;clear st;have B:=Bn;clear Bn;obtain⟨be,b9,fa,la⟩:=oa.s1;obtain⟨a9,ah,fb,lb⟩:=ob.s1;obtain⟨M,Y,fr,lr⟩:=or.s1;obtain⟨N,Z,ft,lt⟩:=J.s1;clear br;go_wp2_with fail
  refine(dv _ B).mono ?_;rintro e w2 ⟨sq,sr,rfl,hq,hr,st⟩;have Bn:=bA w st;have na:=oa.aM st;have nb:=ob.aM st;have nr:=or.aM st;have nt:=J.aM st;clear B oa ob or J be b9 fa la a9 ah fb lb M Y fr lr N Z ft lt;clear st;have B:=Bn;clear Bn;have oa:=na;clear na;obtain⟨be,b9,fa,la⟩:=oa.s1;have ob:=nb;clear nb;obtain⟨a9,ah,fb,lb⟩:=ob.s1;have or:=nr;clear nr;obtain⟨M,Y,fr,lr⟩:=or.s1;have J:=nt;clear nt;obtain⟨N,Z,ft,lt⟩:=J.s1;clear dv;obtain⟨aq,cq,rfl⟩:=hq.ak;obtain⟨ar,cr,rfl⟩:=hr.ak;rw[HK.out]at hr|-;obtain⟨nq,bt⟩:∃k,(zp (zi x / zi y)).length=k:=⟨_,rfl⟩;rw[bt]at hq|-;have dx:=E7 bt;clear bt;go_wp2_with fail
  refine(dk _ _ _ hq HF.out.1 (by have:=HF.out.2.2.1; unfold aD; omega)).mono ?_;rintro e w3 ⟨v7,rfl,cg,cx⟩;have st:zf _ w3:=cx;have Bn:=bA w st;have na:=oa.aM st;have nb:=ob.aM st;have nr:=or.aM st;have nt:=J.aM st;clear B oa ob or J be b9 fa la a9 ah fb lb M Y fr lr N Z ft lt;clear st;have B:=Bn;clear Bn;have oa:=na;clear na;obtain⟨be,b9,fa,la⟩:=oa.s1;have ob:=nb;clear nb;obtain⟨a9,ah,fb,lb⟩:=ob.s1;have or:=nr;clear nr;obtain⟨M,Y,fr,lr⟩:=or.s1;have J:=nt;clear nt;obtain⟨N,Z,ft,lt⟩:=J.s1;clear dk;have dt:=hr.ae cx;clear hr hq;obtain⟨b7,a7,n7,c7,rfl⟩:=cg.ak;have N7:=E7 cg;clear cg;have cZ:=or;go_wp2_with fail
  refine(dc _ _ _ (aA.aN dt or) HF.out.2.1 (by have:=HF.out.2.2.2.1; unfold aD; omega)).mono ?_;rintro e w4 ⟨v8,rfl,ci,d9⟩;have st:zf _ w4:=d9;have Bn:=bA w st;have na:=oa.aM st;have nb:=ob.aM st;replace or:ai w4 (w.heap.size+1+1) 26 #[Ez b7,Ex a7 n7 c7]:=ai.aw st;have nt:=J.aM st;clear B oa ob J be b9 fa la a9 ah fb lb M Y fr lr N Z ft lt;clear st;have B:=Bn;clear Bn;have oa:=na;clear na;obtain⟨be,b9,fa,la⟩:=oa.s1;have ob:=nb;clear nb;obtain⟨a9,ah,fb,lb⟩:=ob.s1;obtain⟨M,Y,fr,lr⟩:=or.s1;have J:=nt;clear nt;obtain⟨N,Z,ft,lt⟩:=J.s1;clear dc;have N9:=E7 ((N7.out.aN cZ).ae d9);clear cZ;obtain⟨b8,a8,n8,c8,rfl⟩:=ci.ak;have N8:=E7 ci;clear ci;go_wp2_with fail
  clear be b9 fa la a9 ah fb lb
  refine aj.aJ (fun D v W=>ai W (w.heap.size+1+1) 26 #[Ez b7,Ex a7 n7 c7]/\ai W (w.heap.size+1+1+1) 26 #[Ez b8,Ex a8 n8 c8]/\Below w.heap.size w W/\az W (Ej #[Ez b7,Ex a7 n7 c7]) (xg x y)/\az W (Ej #[Ez b8,Ex a8 n8 c8]) (xv x y))
   (aj.inl [3,4]) (aj.ge []) aj.aQ (fun _=>aj.Any) (fun _ _=>False) (aj.pl []) (aj.pl []) D7 D7 D7 (aj.cC _) (fun v=> ?_) (fun _ _ _ _ _ h=>h) (fun _ _ _ _ _ _ _ _ _ _ _ _ _=>aj.none_) (fun _ _ _ _ h=>h.elim) (fun cN Q' dl hQ=> ?_)
  . exact⟨(((or.aK D6).aK D6).drew:ai (World.drew _) _ _ _),J.both.drew,zh,(N9.out.aN J).cE,(N8.out.aN J).cE⟩
  clear N9 N8 or J B;apply aj.RP rfl rfl rfl 72 rfl rfl
  .
   intro D v' W' hc hj hf K hK;have c0:W'.cell? ⟨w.heap.size+1+1,0,none⟩=some (Ez b7):=hj.1.c 0 rfl;have c1:W'.cell? ⟨w.heap.size+1+1,1,none⟩=some (Ex a7 n7 c7):=hj.1.c 1 rfl;go_step;exact hK.out
  . rfl
  apply aj.RP rfl rfl rfl 73 rfl rfl
  .
   intro D v' W' hc hj hf K hK;have c0:W'.cell? ⟨w.heap.size+1+1+1,0,none⟩=some (Ez b8):=hj.2.1.c 0 rfl;have c1:W'.cell? ⟨w.heap.size+1+1+1,1,none⟩=some (Ex a8 n8 c8):=hj.2.1.c 1 rfl;go_step;exact hK.out
  . rfl
  refine aj.aG 74 ?_;refine aj.dF (fun D v' W' hc hj hf K hK=> ?_) (fun _ _=>aj.aB (b:=⟨_,[]⟩) rfl ?_)
  .
   obtain⟨I,H,h3,h4,h5⟩:=hj;have c0:W'.cell? ⟨w.heap.size+1+1,0,none⟩=some (Ez b7):=I.c 0 rfl;have c1:W'.cell? ⟨w.heap.size+1+1,1,none⟩=some (Ex a7 n7 c7):=I.c 1 rfl;have ff:=I.fr;go_step;exact hK.out undef _ aj.any ⟨I.both,(H.aK D6).aK D6,(Below.setCell (p:=⟨w.heap.size+1+1,1,none⟩) (Below.setCell (p:=⟨w.heap.size+1+1,0,none⟩) h3 (show w.heap.size<=w.heap.size+1+1 by omega) _) (show w.heap.size<=w.heap.size+1+1 by omega) _),h4.aN I,h5.aN I⟩ aj.none_ trivial
  refine aj.dF (fun D v' W' hc hj hf K hK=> ?_) (fun _ _=>aj.aB (b:=⟨_,[]⟩) rfl ?_)
  .
   obtain⟨I,H,h3,h4,h5⟩:=hj;have c0:W'.cell? ⟨w.heap.size+1+1+1,0,none⟩=some (Ez b8):=H.c 0 rfl;have c1:W'.cell? ⟨w.heap.size+1+1+1,1,none⟩=some (Ex a8 n8 c8):=H.c 1 rfl;have ff:=H.fr;go_step;exact hK.out undef _ aj.any ⟨(I.aK D6).aK D6,H.both,(Below.setCell (p:=⟨w.heap.size+1+1+1,1,none⟩) (Below.setCell (p:=⟨w.heap.size+1+1+1,0,none⟩) h3 (show w.heap.size<=w.heap.size+1+1+1 by omega) _) (show w.heap.size<=w.heap.size+1+1+1 by omega) _),h4.aN H,h5.aN H⟩ aj.none_ trivial
  refine aj.aG 6 ?_;refine aj.aE (fun Dn v' W' hd hj hf=> ?_);clear hd hf;refine hQ _ _ ?_;clear hQ dl Q' cN;obtain⟨I,H,h3,h4,h5⟩:=hj;have M:W'.cell? ⟨w.heap.size+1+1,0,none⟩=some (Ez b7):=I.c 0 rfl;have Y:W'.cell? ⟨w.heap.size+1+1,1,none⟩=some (Ex a7 n7 c7):=I.c 1 rfl;have fr:=I.fr;have lr:=I.lt;have N:W'.cell? ⟨w.heap.size+1+1+1,0,none⟩=some (Ez b8):=H.c 0 rfl;have Z:W'.cell? ⟨w.heap.size+1+1+1,1,none⟩=some (Ex a8 n8 c8):=H.c 1 rfl;have ft:=H.fr;have lt:=H.lt
  go_wp2
  refine Eo (by simp[results,Tryz.results132,go_sem,M,Y,fr,lr,N,Z,ft,lt]; rfl) rfl ?_;exact⟨_,_,rfl,h4,h5,h3⟩
theorem JC (w:Ef) (Y:az w va x) (J:az w vb y) (N:fits x) (M:fits y) (I:y≠0) (H:(decide (x<0)=decide (y<0))) (hZ:zi x%zi y=0) :
  Ee Ed 132 #[va,vb] w fun e E=>∃q r,e = Eh (Ev #[q,r,Ey Ew 0])/\az E q (xg x y)/\az E r (xv x y)/\zf w E:=
 Xj w Y J N M I H (.inl hZ)
theorem JD (w:Ef) (Y:az w va x) (J:az w vb y) (N:fits x) (M:fits y) (I:y≠0) (H:(decide (x<0)=decide (y<0))) (hZ:0<zi x%zi y) :
  Ee Ed 132 #[va,vb] w fun e E=>∃q r,e = Eh (Ev #[q,r,Ey Ew 0])/\az E q (xg x y)/\az E r (xv x y)/\zf w E:=
 Xj w Y J N M I H (.inr hZ)
theorem JE (w:Ef) (ha:az w va x) (hb:az w vb y) (fx:fits x) (fy:fits y) (hy:y≠0) (cn:¬(decide (x<0)=decide (y<0))) (hZ:0<zi x%zi y) :
  Ee Ed 132 #[va,vb] w fun e E=>∃q r,e = Eh (Ev #[q,r,Ey Ew 0])/\az E q (xg x y)/\az E r (xv x y)/\zf w E:=by
 have ck:∀ (E:Ef) (q:Nat) (aa ab:Option Addr) (ca cb:Nat),ai E q 26 #[Ez (decide (x<0)),Ex aa (zp (zi x)).length ca,Ez (decide (y<0)),Ex ab (zp (zi y)).length cb]->aA E (Ex aa (zp (zi x)).length ca) (zp (zi x))->aA E (Ex ab (zp (zi y)).length cb) (zp (zi y))->
   Ee Ed 93 #[Ex (some ⟨q,0,none⟩) 2 2] E fun e w2=>e = Eh (Ey Ew 0)/\zf E w2:=fun E q aa ab ca cb hb h1 h2=>xA E hb h1 h2 fx fy
 have F:=ke (x:=x) hy;have fq:fits (xg x y):=yA F.1 fx;have ci:fits (xv x y):=yA F.2.1 fy;have dy:0<zi y:=by unfold zi; omega
 have q0:0<=zi x / zi y:=Int.ediv_nonneg (zD x) D6;have m0:=Int.emod_nonneg (zi x) (show zi y≠0 by omega);have m1:=Int.emod_lt_of_pos (zi x) dy;have lq:(zp (zi x / zi y)).length<=4096:=Nat.le_trans (yY q0 F.2.2.1) fx;have d9:(zp (zi x%zi y)).length<=4096:=Nat.le_trans (yY m0 F.2.2.2) fy;obtain⟨aa,ca,rfl,pa⟩:=ha.parts;obtain⟨ab,cb,rfl,pb⟩:=hb.parts;have bi:=fun(E:Ef) (q:Nat)=>ck E q aa ab ca cb
 have dv:∀E,zf w E->Ee Ed 135 #[Ex aa (zp (zi x)).length ca,Ex ab (zp (zi y)).length cb] E fun e w2=>∃q r,e = Eh (Ev #[q,r])/\aA w2 q (zp (zi x / zi y))/\aA w2 r (zp (zi x%zi y))/\zf E w2:=fun E h=>
  ZT E (pa.ae h) (pb.ae h) (zD x) D6 (by unfold fits at fx; omega) (by unfold fits at fy; omega)
 have y0:0<(zp (zi y)).length:=List.length_pos_iff.2 (fun e=>by have:=(zY (zD y)).1 e; omega);have VY:=zE (zD y);have Y1:(zp (zi y)).length<=4096:=fy;unfold fits at fx fy;obtain⟨n,hn⟩:∃n,(zp (zi x)).length=n:=⟨_,rfl⟩;obtain⟨m,hm⟩:∃m,(zp (zi y)).length=m:=⟨_,rfl⟩;rw[hn]at pa dv|-;rw[hm]at pb dv y0 Y1|-;simp only[hn,hm]at bi;obtain⟨gx,bf⟩:∃b,decide (x<0)=b:=⟨_,rfl⟩;obtain⟨gy,be⟩:∃b,decide (y<0)=b:=⟨_,rfl⟩;have HS:Hid (decide (x<0)=gx/\decide (y<0)=gy):=⟨bf,be⟩;rw[bf,be]at cn|-;simp only[bf,be]at bi;have VQ:=zE q0;have VR:=zE m0;have ec:(zp (zi x%zi y)).length=0↔zi x%zi y=0:=List.length_eq_zero_iff.trans (zY m0);have DS:=(vL bf be cn hy).2 hZ;have dt:gx = !gy:=by cases gx<;>cases gy<;>simp_all
 have eM:∀E v l,aA E v l->zj l=zi x / zi y+1->l.length<=aD->Ee Ed 94 #[Ez true,v] E fun e w2=>∃v',e = Eh (Ev #[v',Ey Ew 0])/\az w2 v' (xg x y)/\zf E w2:=fun E v l h h1 h2=>by
  have:=xX true E h h2;rw[h1,show zv true (zi x / zi y+1)=xg x y from by rw[DS.1]; unfold zv; simp only[if_true]; omega,zQ fq,zJ fq]at this;exact this
 have em:∀E v l,aA E v l->zj l=zi y-zi x%zi y->l.length<=aD->Ee Ed 94 #[Ez gy,v] E fun e w2=>∃v',e = Eh (Ev #[v',Ey Ew 0])/\az w2 v' (xv x y)/\zf E w2:=fun E v l h h1 h2=>by
  have:=xX gy E h h2;rw[h1,show zv gy (zi y-zi x%zi y)=xv x y from by rw[DS.2]; have Y:=z4 y; subst dt; unfold zv; cases gy<;>simp at be<;>simp<;>omega,zQ ci,zJ ci]at this;exact this
 have HF:=E7 (E8 VQ (E8 VR (E8 lq (E8 d9 VY))));have HM:=E7 (E8 m1 (E8 hm m0));obtain⟨k,hk⟩:∃k,(zp (zi x%zi y)).length=k:=⟨_,rfl⟩;rw[hk]at ec;have fe:0<k:=D6
 have HK:=E7 hk;clear ha hb hn hm bf be fx fy ck DS F dy q0 m0 m1 lq d9 VY VQ VR hy ec hk hZ fq ci;subst dt;clear cn
 go_enter Tryz.func132,Tryz.ntmps132
 go_wp2_with fail
 refine(bi _ _ Qa (pa.ae zh) (pb.ae zh)).mono ?_;rintro e w1 ⟨rfl,st⟩;have Bn:=bA w st;have oa:ai w1 w.heap.size 26 #[Ez (!gy),Ex aa n ca]:=ai.aw st;have ob:ai w1 (w.heap.size+1) 26 #[Ez gy,Ex ab m cb]:=ai.aw st;have or:ai w1 (w.heap.size+1+1) 26 #[Ez false,Ex none 0 0]:=ai.aw st;have H:ai w1 (w.heap.size+1+1+1) 26 #[Ez false,Ex none 0 0]:=ai.aw st;clear st;have B:=Bn;clear Bn;obtain⟨b9,ah,fa,la⟩:=oa.s1;obtain⟨Z,a9,fb,lb⟩:=ob.s1;obtain⟨I,M,fr,lr⟩:=or.s1;obtain⟨J,N,ft,lt⟩:=H.s1;clear bi;go_wp2_with fail
 refine(dv _ B).mono ?_;rintro e w2 ⟨sq,sr,rfl,hq,hr,st⟩;have Bn:=bA w st;have na:=oa.aM st;have nb:=ob.aM st;have nr:=or.aM st;have nt:=H.aM st;clear B oa ob or H b9 ah fa la Z a9 fb lb I M fr lr J N ft lt;clear st;have B:=Bn;clear Bn;have oa:=na;clear na;obtain⟨b9,ah,fa,la⟩:=oa.s1;have ob:=nb;clear nb;obtain⟨Z,a9,fb,lb⟩:=ob.s1;have or:=nr;clear nr;obtain⟨I,M,fr,lr⟩:=or.s1;have H:=nt;clear nt;obtain⟨J,N,ft,lt⟩:=H.s1;clear dv;obtain⟨aq,cq,rfl⟩:=hq.ak;obtain⟨ar,cr,rfl⟩:=hr.ak;rw[HK.out]at hr|-;obtain⟨nq,br⟩:∃k,(zp (zi x / zi y)).length=k:=⟨_,rfl⟩;rw[br]at hq|-;have fd:=E7 br;clear br;have ey:=E7 hr;clear hr;have eW:=E7 (pb.ae B);go_wp2_with fail
 refine(GM _ (hq.ae ((Fz _ _).alloc (Ep _) _)) (aA.one (x:=1) D6 D6) (by have:=HF.out.2.2.1; unfold aD; omega) (by unfold aD; simp)).mono ?_;rintro e w3 ⟨v5,l5,rfl,bg,cy,dl,cx⟩;have st:zf _ w3:=cx;have Bn:=bA w st;have na:=oa.aM st;have nb:=ob.aM st;have nr:=or.aM st;have nt:=H.aM st;clear B oa ob or H b9 ah fa la Z a9 fb lb I M fr lr J N ft lt;clear st;have B:=Bn;clear Bn;have oa:=na;clear na;obtain⟨b9,ah,fa,la⟩:=oa.s1;have ob:=nb;clear nb;obtain⟨Z,a9,fb,lb⟩:=ob.s1;have or:=nr;clear nr;obtain⟨I,M,fr,lr⟩:=or.s1;have H:=nt;clear nt;obtain⟨J,N,ft,lt⟩:=H.s1;have H5:Hid (zj l5=zi x / zi y+1/\l5.length<=aD):=⟨by rw[cy,HF.out.1]; simp[zj],by rw[dl]; have:=HF.out.2.2.1; simp; unfold aD; omega⟩;clear cy dl hq;obtain⟨a5,c5,rfl⟩:=bg.ak;obtain⟨n5,bl⟩:∃k,l5.length=k:=⟨_,rfl⟩;rw[bl]at bg|-;have fl:=E7 bl;clear bl;have f7:=E7 (pb.ae B);have f8:=E7 (ey.out.ae (((Fz _ _).alloc (Ep _) _).trans (cx.mono D9)));go_wp2_with fail
 refine(Jy _ f7.out f8.out (by have:=HM.out.2.1; unfold aD; omega) (yY HM.out.2.2 (by have:=HM.out.1; omega)) (by rw[HF.out.2.1,HF.out.2.2.2.2]; have:=HM.out.1; omega)).mono ?_;rintro e w4 ⟨v6,l6,rfl,bh,dx,cN,dP⟩;have st:zf _ w4:=dP;have Bn:=bA w st;have na:=oa.aM st;have nb:=ob.aM st;have nr:=or.aM st;have nt:=H.aM st;clear B oa ob or H b9 ah fa la Z a9 fb lb I M fr lr J N ft lt;clear st;have B:=Bn;clear Bn;have oa:=na;clear na;obtain⟨b9,ah,fa,la⟩:=oa.s1;have ob:=nb;clear nb;obtain⟨Z,a9,fb,lb⟩:=ob.s1;have or:=nr;clear nr;obtain⟨I,M,fr,lr⟩:=or.s1;have H:=nt;clear nt;obtain⟨J,N,ft,lt⟩:=H.s1;have H6:Hid (zj l6=zi y-zi x%zi y/\l6.length<=aD):=⟨by rw[dx,HF.out.2.1,HF.out.2.2.2.2],by rw[cN,HM.out.2.1]; unfold aD; omega⟩;clear dx cN eW ey;obtain⟨a6,c6,rfl⟩:=bh.ak;obtain⟨n6,bt⟩:∃k,l6.length=k:=⟨_,rfl⟩;rw[bt]at bh|-;have f9:=E7 bt;clear bt;have ek:=bg.ae dP;clear bg;go_wp2_with fail
 refine(eM _ _ _ ek H5.out.1 H5.out.2).mono ?_;rintro e w5 ⟨v7,rfl,ce,ed⟩;have st:zf _ w5:=ed;have Bn:=bA w st;have na:=oa.aM st;have nb:=ob.aM st;have nr:=or.aM st;have nt:=H.aM st;clear B oa ob or H b9 ah fa la Z a9 fb lb I M fr lr J N ft lt;clear st;have B:=Bn;clear Bn;have oa:=na;clear na;obtain⟨b9,ah,fa,la⟩:=oa.s1;have ob:=nb;clear nb;obtain⟨Z,a9,fb,lb⟩:=ob.s1;have or:=nr;clear nr;obtain⟨I,M,fr,lr⟩:=or.s1;have H:=nt;clear nt;obtain⟨J,N,ft,lt⟩:=H.s1;clear eM;have er:=bh.ae ed;clear bh;obtain⟨b7,a7,n7,c7,rfl⟩:=ce.ak;have N7:=E7 ce;clear ce;have dc:=or;go_wp2_with fail
 refine(em _ _ _ (aA.aN er or) H6.out.1 H6.out.2).mono ?_;rintro e w6 ⟨v8,rfl,cg,dk⟩;have st:zf _ w6:=dk;have Bn:=bA w st;have na:=oa.aM st;have nb:=ob.aM st;replace or:ai w6 (w.heap.size+1+1) 26 #[Ez b7,Ex a7 n7 c7]:=ai.aw st;have nt:=H.aM st;clear B oa ob H b9 ah fa la Z a9 fb lb I M fr lr J N ft lt;clear st;have B:=Bn;clear Bn;have oa:=na;clear na;obtain⟨b9,ah,fa,la⟩:=oa.s1;have ob:=nb;clear nb;obtain⟨Z,a9,fb,lb⟩:=ob.s1;obtain⟨I,M,fr,lr⟩:=or.s1;have H:=nt;clear nt;obtain⟨J,N,ft,lt⟩:=H.s1;clear em;have N9:=E7 ((N7.out.aN dc).ae dk);clear dc;obtain⟨b8,a8,n8,c8,rfl⟩:=cg.ak;have N8:=E7 cg;clear cg;go_wp2_with fail
 clear b9 ah fa la Z a9 fb lb
 refine aj.aJ (fun D v W=>ai W (w.heap.size+1+1) 26 #[Ez b7,Ex a7 n7 c7]/\ai W (w.heap.size+1+1+1) 26 #[Ez b8,Ex a8 n8 c8]/\Below w.heap.size w W/\az W (Ej #[Ez b7,Ex a7 n7 c7]) (xg x y)/\az W (Ej #[Ez b8,Ex a8 n8 c8]) (xv x y))
  (aj.inl [3,4]) (aj.ge []) aj.aQ (fun _=>aj.Any) (fun _ _=>False) (aj.pl []) (aj.pl []) D7 D7 D7 (aj.cC _) (fun v=> ?_) (fun _ _ _ _ _ h=>h) (fun _ _ _ _ _ _ _ _ _ _ _ _ _=>aj.none_) (fun _ _ _ _ h=>h.elim) (fun cZ Q' eS hQ=> ?_)
 . exact⟨(((or.aK D6).aK D6).drew:ai (World.drew _) _ _ _),H.both.drew,zh,(N9.out.aN H).cE,(N8.out.aN H).cE⟩
 clear N9 N8 or H B;apply aj.RP rfl rfl rfl 72 rfl rfl
 .
  intro D v' W' hc hj hf K hK;have c0:W'.cell? ⟨w.heap.size+1+1,0,none⟩=some (Ez b7):=hj.1.c 0 rfl;have c1:W'.cell? ⟨w.heap.size+1+1,1,none⟩=some (Ex a7 n7 c7):=hj.1.c 1 rfl;go_step;exact hK.out
 . rfl
 apply aj.RP rfl rfl rfl 73 rfl rfl
 .
  intro D v' W' hc hj hf K hK;have c0:W'.cell? ⟨w.heap.size+1+1+1,0,none⟩=some (Ez b8):=hj.2.1.c 0 rfl;have c1:W'.cell? ⟨w.heap.size+1+1+1,1,none⟩=some (Ex a8 n8 c8):=hj.2.1.c 1 rfl;go_step;exact hK.out
 . rfl
 refine aj.aG 74 ?_;refine aj.dF (fun D v' W' hc hj hf K hK=> ?_) (fun _ _=>aj.aB (b:=⟨_,[]⟩) rfl ?_)
 .
  obtain⟨h1,h2,h3,h4,h5⟩:=hj;have c0:W'.cell? ⟨w.heap.size+1+1,0,none⟩=some (Ez b7):=h1.c 0 rfl;have c1:W'.cell? ⟨w.heap.size+1+1,1,none⟩=some (Ex a7 n7 c7):=h1.c 1 rfl;have ff:=h1.fr;go_step;exact hK.out undef _ aj.any ⟨h1.both,(h2.aK D6).aK D6,(Below.setCell (p:=⟨w.heap.size+1+1,1,none⟩) (Below.setCell (p:=⟨w.heap.size+1+1,0,none⟩) h3 (show w.heap.size<=w.heap.size+1+1 by omega) _) (show w.heap.size<=w.heap.size+1+1 by omega) _),h4.aN h1,h5.aN h1⟩ aj.none_ trivial
 refine aj.dF (fun D v' W' hc hj hf K hK=> ?_) (fun _ _=>aj.aB (b:=⟨_,[]⟩) rfl ?_)
 .
  obtain⟨h1,h2,h3,h4,h5⟩:=hj;have c0:W'.cell? ⟨w.heap.size+1+1+1,0,none⟩=some (Ez b8):=h2.c 0 rfl;have c1:W'.cell? ⟨w.heap.size+1+1+1,1,none⟩=some (Ex a8 n8 c8):=h2.c 1 rfl;have ff:=h2.fr;go_step;exact hK.out undef _ aj.any ⟨(h1.aK D6).aK D6,h2.both,(Below.setCell (p:=⟨w.heap.size+1+1+1,1,none⟩) (Below.setCell (p:=⟨w.heap.size+1+1+1,0,none⟩) h3 (show w.heap.size<=w.heap.size+1+1+1 by omega) _) (show w.heap.size<=w.heap.size+1+1+1 by omega) _),h4.aN h2,h5.aN h2⟩ aj.none_ trivial
 refine aj.aG 6 ?_;refine aj.aE (fun Dn v' W' hd hj hf=> ?_);clear hd hf;refine hQ _ _ ?_;clear hQ eS Q' cZ;obtain⟨h1,h2,h3,h4,h5⟩:=hj;have I:W'.cell? ⟨w.heap.size+1+1,0,none⟩=some (Ez b7):=h1.c 0 rfl;have M:W'.cell? ⟨w.heap.size+1+1,1,none⟩=some (Ex a7 n7 c7):=h1.c 1 rfl;have fr:=h1.fr;have lr:=h1.lt;have J:W'.cell? ⟨w.heap.size+1+1+1,0,none⟩=some (Ez b8):=h2.c 0 rfl;have N:W'.cell? ⟨w.heap.size+1+1+1,1,none⟩=some (Ex a8 n8 c8):=h2.c 1 rfl;have ft:=h2.fr;have lt:=h2.lt
 go_wp2
 refine Eo (by simp[results,Tryz.results132,go_sem,I,M,fr,lr,J,N,ft,lt]; rfl) rfl ?_;exact⟨_,_,rfl,h4,h5,h3⟩
theorem JF (w:Ef) (ha:az w va x) (hb:az w vb y) (fx:fits x) (fy:fits y) (hy:y≠0) (cg:¬(decide (x<0)=decide (y<0))) (hZ:zi x%zi y=0) :
  Ee Ed 132 #[va,vb] w fun e E=>∃q r,e = Eh (Ev #[q,r,Ey Ew 0])/\az E q (xg x y)/\az E r (xv x y)/\zf w E:=by
 have ck:∀ (E:Ef) (q:Nat) (aa ab:Option Addr) (ca cb:Nat),ai E q 26 #[Ez (decide (x<0)),Ex aa (zp (zi x)).length ca,Ez (decide (y<0)),Ex ab (zp (zi y)).length cb]->aA E (Ex aa (zp (zi x)).length ca) (zp (zi x))->aA E (Ex ab (zp (zi y)).length cb) (zp (zi y))->
   Ee Ed 93 #[Ex (some ⟨q,0,none⟩) 2 2] E fun e w2=>e = Eh (Ey Ew 0)/\zf E w2:=fun E q aa ab ca cb hb I H=>xA E hb I H fx fy
 have F:=ke (x:=x) hy;have fq:fits (xg x y):=yA F.1 fx;have ce:fits (xv x y):=yA F.2.1 fy;have cZ:0<zi y:=by unfold zi; omega
 have q0:0<=zi x / zi y:=Int.ediv_nonneg (zD x) D6;have m0:=Int.emod_nonneg (zi x) (show zi y≠0 by omega);have m1:=Int.emod_lt_of_pos (zi x) cZ;have lq:(zp (zi x / zi y)).length<=4096:=Nat.le_trans (yY q0 F.2.2.1) fx;have cx:(zp (zi x%zi y)).length<=4096:=Nat.le_trans (yY m0 F.2.2.2) fy;obtain⟨aa,ca,rfl,pa⟩:=ha.parts;obtain⟨ab,cb,rfl,pb⟩:=hb.parts;have bh:=fun(E:Ef) (q:Nat)=>ck E q aa ab ca cb
 have dv:∀E,zf w E->Ee Ed 135 #[Ex aa (zp (zi x)).length ca,Ex ab (zp (zi y)).length cb] E fun e w2=>∃q r,e = Eh (Ev #[q,r])/\aA w2 q (zp (zi x / zi y))/\aA w2 r (zp (zi x%zi y))/\zf E w2:=fun E h=>
  ZT E (pa.ae h) (pb.ae h) (zD x) D6 (by unfold fits at fx; omega) (by unfold fits at fy; omega)
 have y0:0<(zp (zi y)).length:=List.length_pos_iff.2 (fun e=>by have:=(zY (zD y)).1 e; omega);have VY:=zE (zD y);have Y1:(zp (zi y)).length<=4096:=fy;unfold fits at fx fy;obtain⟨n,hn⟩:∃n,(zp (zi x)).length=n:=⟨_,rfl⟩;obtain⟨m,hm⟩:∃m,(zp (zi y)).length=m:=⟨_,rfl⟩;rw[hn]at pa dv|-;rw[hm]at pb dv y0 Y1|-;simp only[hn,hm]at bh;obtain⟨gx,bg⟩:∃b,decide (x<0)=b:=⟨_,rfl⟩;obtain⟨gy,bf⟩:∃b,decide (y<0)=b:=⟨_,rfl⟩;have HS:Hid (decide (x<0)=gx/\decide (y<0)=gy):=⟨bg,bf⟩;rw[bg,bf]at cg|-;simp only[bg,bf]at bh;have VQ:=zE q0;have VR:=zE m0;have bt:(zp (zi x%zi y)).length=0↔zi x%zi y=0:=List.length_eq_zero_iff.trans (zY m0);have DS:=(vL bg bf cg hy).1 hZ;have cN:gx = !gy:=by cases gx<;>cases gy<;>simp_all
 have dk:∀E v l,aA E v l->zj l=zi x / zi y->l.length<=aD->Ee Ed 94 #[Ez true,v] E fun e w2=>∃v',e = Eh (Ev #[v',Ey Ew 0])/\az w2 v' (xg x y)/\zf E w2:=fun E v l h I H=>by
  have:=xX true E h H;rw[I,show zv true (zi x / zi y)=xg x y from by exact DS.1.symm,zQ fq,zJ fq]at this;exact this
 have dc:∀E v l,aA E v l->zj l=zi x%zi y->l.length<=aD->Ee Ed 94 #[Ez gy,v] E fun e w2=>∃v',e = Eh (Ev #[v',Ey Ew 0])/\az w2 v' (xv x y)/\zf E w2:=fun E v l h I H=>by
  have:=xX gy E h H;rw[I,show zv gy (zi x%zi y)=xv x y from by rw[DS.2,hZ]; subst cN; cases gy<;>rfl,zQ ce,zJ ce]at this;exact this
 have HF:=E7 (E8 VQ (E8 VR (E8 lq (E8 cx VY))));have HM:=E7 (E8 m1 (E8 hm m0));obtain⟨k,hk⟩:∃k,(zp (zi x%zi y)).length=k:=⟨_,rfl⟩;rw[hk]at bt;have dt:k=0:=bt.2 hZ;have HK:=E7 hk;clear ha hb hn hm bg bf fx fy ck DS F cZ q0 m0 m1 lq cx VY VQ VR hy bt hk hZ fq ce;subst cN;subst dt;clear cg
 go_enter Tryz.func132,Tryz.ntmps132
 go_wp2_with fail
 refine(bh _ _ Qa (pa.ae zh) (pb.ae zh)).mono ?_;rintro e w1 ⟨rfl,st⟩;have Bn:=bA w st;have oa:ai w1 w.heap.size 26 #[Ez (!gy),Ex aa n ca]:=ai.aw st;have ob:ai w1 (w.heap.size+1) 26 #[Ez gy,Ex ab m cb]:=ai.aw st;have or:ai w1 (w.heap.size+1+1) 26 #[Ez false,Ex none 0 0]:=ai.aw st;have J:ai w1 (w.heap.size+1+1+1) 26 #[Ez false,Ex none 0 0]:=ai.aw st;clear st;have B:=Bn;clear Bn;obtain⟨be,b9,fa,la⟩:=oa.s1;obtain⟨a9,ah,fb,lb⟩:=ob.s1;obtain⟨M,Y,fr,lr⟩:=or.s1;obtain⟨N,Z,ft,lt⟩:=J.s1;clear bh;go_wp2_with fail
 refine(dv _ B).mono ?_;rintro e w2 ⟨sq,sr,rfl,hq,hr,st⟩;have Bn:=bA w st;have na:=oa.aM st;have nb:=ob.aM st;have nr:=or.aM st;have nt:=J.aM st;clear B oa ob or J be b9 fa la a9 ah fb lb M Y fr lr N Z ft lt;clear st;have B:=Bn;clear Bn;have oa:=na;clear na;obtain⟨be,b9,fa,la⟩:=oa.s1;have ob:=nb;clear nb;obtain⟨a9,ah,fb,lb⟩:=ob.s1;have or:=nr;clear nr;obtain⟨M,Y,fr,lr⟩:=or.s1;have J:=nt;clear nt;obtain⟨N,Z,ft,lt⟩:=J.s1;clear dv;obtain⟨aq,cq,rfl⟩:=hq.ak;obtain⟨ar,cr,rfl⟩:=hr.ak;rw[HK.out]at hr|-;obtain⟨nq,bi⟩:∃k,(zp (zi x / zi y)).length=k:=⟨_,rfl⟩;rw[bi]at hq|-;have dy:=E7 bi;clear bi;go_wp2_with fail
 refine(dk _ _ _ hq HF.out.1 (by have:=HF.out.2.2.1; unfold aD; omega)).mono ?_;rintro e w3 ⟨v7,rfl,bl,ci⟩;have st:zf _ w3:=ci;have Bn:=bA w st;have na:=oa.aM st;have nb:=ob.aM st;have nr:=or.aM st;have nt:=J.aM st;clear B oa ob or J be b9 fa la a9 ah fb lb M Y fr lr N Z ft lt;clear st;have B:=Bn;clear Bn;have oa:=na;clear na;obtain⟨be,b9,fa,la⟩:=oa.s1;have ob:=nb;clear nb;obtain⟨a9,ah,fb,lb⟩:=ob.s1;have or:=nr;clear nr;obtain⟨M,Y,fr,lr⟩:=or.s1;have J:=nt;clear nt;obtain⟨N,Z,ft,lt⟩:=J.s1;clear dk;have dx:=hr.ae ci;clear hr hq;obtain⟨b7,a7,n7,c7,rfl⟩:=bl.ak;have N7:=E7 bl;clear bl;have cy:=or;go_wp2_with fail
 refine(dc _ _ _ (aA.aN dx or) HF.out.2.1 (by have:=HF.out.2.2.2.1; unfold aD; omega)).mono ?_;rintro e w4 ⟨v8,rfl,br,d9⟩;have st:zf _ w4:=d9;have Bn:=bA w st;have na:=oa.aM st;have nb:=ob.aM st;replace or:ai w4 (w.heap.size+1+1) 26 #[Ez b7,Ex a7 n7 c7]:=ai.aw st;have nt:=J.aM st;clear B oa ob J be b9 fa la a9 ah fb lb M Y fr lr N Z ft lt;clear st;have B:=Bn;clear Bn;have oa:=na;clear na;obtain⟨be,b9,fa,la⟩:=oa.s1;have ob:=nb;clear nb;obtain⟨a9,ah,fb,lb⟩:=ob.s1;obtain⟨M,Y,fr,lr⟩:=or.s1;have J:=nt;clear nt;obtain⟨N,Z,ft,lt⟩:=J.s1;clear dc;have N9:=E7 ((N7.out.aN cy).ae d9);clear cy;obtain⟨b8,a8,n8,c8,rfl⟩:=br.ak;have N8:=E7 br;clear br;go_wp2_with fail
 clear be b9 fa la a9 ah fb lb
 refine aj.aJ (fun D v W=>ai W (w.heap.size+1+1) 26 #[Ez b7,Ex a7 n7 c7]/\ai W (w.heap.size+1+1+1) 26 #[Ez b8,Ex a8 n8 c8]/\Below w.heap.size w W/\az W (Ej #[Ez b7,Ex a7 n7 c7]) (xg x y)/\az W (Ej #[Ez b8,Ex a8 n8 c8]) (xv x y))
  (aj.inl [3,4]) (aj.ge []) aj.aQ (fun _=>aj.Any) (fun _ _=>False) (aj.pl []) (aj.pl []) D7 D7 D7 (aj.cC _) (fun v=> ?_) (fun _ _ _ _ _ h=>h) (fun _ _ _ _ _ _ _ _ _ _ _ _ _=>aj.none_) (fun _ _ _ _ h=>h.elim) (fun cn Q' dl hQ=> ?_)
 . exact⟨(((or.aK D6).aK D6).drew:ai (World.drew _) _ _ _),J.both.drew,zh,(N9.out.aN J).cE,(N8.out.aN J).cE⟩
 clear N9 N8 or J B;apply aj.RP rfl rfl rfl 72 rfl rfl
 .
  intro D v' W' hc hj hf K hK;have c0:W'.cell? ⟨w.heap.size+1+1,0,none⟩=some (Ez b7):=hj.1.c 0 rfl;have c1:W'.cell? ⟨w.heap.size+1+1,1,none⟩=some (Ex a7 n7 c7):=hj.1.c 1 rfl;go_step;exact hK.out
 . rfl
 apply aj.RP rfl rfl rfl 73 rfl rfl
 .
  intro D v' W' hc hj hf K hK;have c0:W'.cell? ⟨w.heap.size+1+1+1,0,none⟩=some (Ez b8):=hj.2.1.c 0 rfl;have c1:W'.cell? ⟨w.heap.size+1+1+1,1,none⟩=some (Ex a8 n8 c8):=hj.2.1.c 1 rfl;go_step;exact hK.out
 . rfl
 refine aj.aG 74 ?_;refine aj.dF (fun D v' W' hc hj hf K hK=> ?_) (fun _ _=>aj.aB (b:=⟨_,[]⟩) rfl ?_)
 .
  obtain⟨I,H,h3,h4,h5⟩:=hj;have c0:W'.cell? ⟨w.heap.size+1+1,0,none⟩=some (Ez b7):=I.c 0 rfl;have c1:W'.cell? ⟨w.heap.size+1+1,1,none⟩=some (Ex a7 n7 c7):=I.c 1 rfl;have ff:=I.fr;go_step;exact hK.out undef _ aj.any ⟨I.both,(H.aK D6).aK D6,(Below.setCell (p:=⟨w.heap.size+1+1,1,none⟩) (Below.setCell (p:=⟨w.heap.size+1+1,0,none⟩) h3 (show w.heap.size<=w.heap.size+1+1 by omega) _) (show w.heap.size<=w.heap.size+1+1 by omega) _),h4.aN I,h5.aN I⟩ aj.none_ trivial
 refine aj.dF (fun D v' W' hc hj hf K hK=> ?_) (fun _ _=>aj.aB (b:=⟨_,[]⟩) rfl ?_)
 .
  obtain⟨I,H,h3,h4,h5⟩:=hj;have c0:W'.cell? ⟨w.heap.size+1+1+1,0,none⟩=some (Ez b8):=H.c 0 rfl;have c1:W'.cell? ⟨w.heap.size+1+1+1,1,none⟩=some (Ex a8 n8 c8):=H.c 1 rfl;have ff:=H.fr;go_step;exact hK.out undef _ aj.any ⟨(I.aK D6).aK D6,H.both,(Below.setCell (p:=⟨w.heap.size+1+1+1,1,none⟩) (Below.setCell (p:=⟨w.heap.size+1+1+1,0,none⟩) h3 (show w.heap.size<=w.heap.size+1+1+1 by omega) _) (show w.heap.size<=w.heap.size+1+1+1 by omega) _),h4.aN H,h5.aN H⟩ aj.none_ trivial
 refine aj.aG 6 ?_;refine aj.aE (fun Dn v' W' hd hj hf=> ?_);clear hd hf;refine hQ _ _ ?_;clear hQ dl Q' cn;obtain⟨I,H,h3,h4,h5⟩:=hj;have M:W'.cell? ⟨w.heap.size+1+1,0,none⟩=some (Ez b7):=I.c 0 rfl;have Y:W'.cell? ⟨w.heap.size+1+1,1,none⟩=some (Ex a7 n7 c7):=I.c 1 rfl;have fr:=I.fr;have lr:=I.lt;have N:W'.cell? ⟨w.heap.size+1+1+1,0,none⟩=some (Ez b8):=H.c 0 rfl;have Z:W'.cell? ⟨w.heap.size+1+1+1,1,none⟩=some (Ex a8 n8 c8):=H.c 1 rfl;have ft:=H.fr;have lt:=H.lt
 go_wp2
 refine Eo (by simp[results,Tryz.results132,go_sem,M,Y,fr,lr,N,Z,ft,lt]; rfl) rfl ?_;exact⟨_,_,rfl,h4,h5,h3⟩
theorem KI (w:Ef) (M:az w va x) (H:az w vb y) (J:fits x) (I:fits y) (E:y≠0) :
  Ee Ed 132 #[va,vb] w fun e N=>∃q r,e = Eh (Ev #[q,r,Ey Ew 0])/\az N q (xg x y)/\az N r (xv x y)/\zf w N:=by
 have Y:=Int.emod_nonneg (zi x) (show zi y≠0 by unfold zi; omega)
 by_cases hs:decide (x<0)=decide (y<0)
 .
  rcases Int.lt_or_le 0 (zi x%zi y)with h | h
  . exact JD w M H J I E hs h
  . exact JC w M H J I E hs D6
 .
  rcases Int.lt_or_le 0 (zi x%zi y)with h | h
  . exact JE w M H J I E hs h
  . exact JF w M H J I E hs D6
end
end Go.Proofs.YtffmbepfbienaaaGreat
