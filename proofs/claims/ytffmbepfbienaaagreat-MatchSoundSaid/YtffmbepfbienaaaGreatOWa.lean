import Derived.Test.YtffmbepfbienaaaGreatOBits
import Derived.Deep.OwnRows
import Derived.Deep.CutBlock
set_option linter.unusedVariables false
set_option linter.unusedSimpArgs false
set_option maxHeartbeats 6400000
set_option maxRecDepth 1000000
open Go.Value renaming slice->Ex,int->Ey
open Go.IntKind renaming i64->Ew,u32->Eu,u64->Eg
open Go.Ending renaming returned->Eh
open Go.Proofs.Tryz renaming prog->Ed
open Go renaming Calls->Ee,World->Ef,Value->Ei
open Nat renaming le_refl->Ep,lt_or_ge->Er
open Go.RowKit.Below renaming refl->Fz
namespace Go.Proofs.YtffmbepfbienaaaGreat
section
open Go.RowKit
variable {x:Int} {A B l:List Int} {k:Nat} {a b:Ei}
def aD:Nat:=100000000
theorem qJ {y:Int} (w:Ef) (ha:aA w a (zp x)) (hb:aA w b (zp y)) (hx:0<=x) (hy:0<=y) (nx:(zp x).length<=aD) (ny:(zp y).length<=aD) :
  Ee Ed 85 #[a,b] w fun e w'=>e = Eh (Ey Ew (zM x y))/\zf w w':=by
 obtain⟨aa,ca,rfl⟩:=ha.ak;obtain⟨ab,cb,rfl⟩:=hb.ak;obtain⟨oa,-,la,fa⟩:=ha.cells;obtain⟨ob,-,lb,fb⟩:=hb.cells;clear ha hb;unfold aD at nx ny;obtain⟨A,M⟩:∃A,zp x=A:=⟨_,rfl⟩;obtain⟨B,T⟩:∃B,zp y=B:=⟨_,rfl⟩;have vA:zj A=x:=by rw[<- M,zE hx]
 have vB:zj B=y:=by rw[<- T,zE hy]
 have ah:A.length<B.length->x<y:=fun h=>ye hx hy (by rw[M,T]; exact h);have Y:B.length<A.length->y<x:=fun h=>ye hy hx (by rw[M,T]; exact h);rw[M]at fa oa la nx;rw[T]at fb ob lb ny;rw[M,T];obtain⟨n,X⟩:∃n,A.length=n:=⟨_,rfl⟩;obtain⟨m,J⟩:∃m,B.length=m:=⟨_,rfl⟩;have H:Hid ((n<m->x<y)/\(m<n->y<x)/\zj A=x/\zj B=y/\A.length=n/\B.length=m):=⟨by rw[<- X,<- J]; exact ah,by rw[<- X,<- J]; exact Y,vA,vB,X,J⟩;rw[X]at fa la nx;rw[J]at fb lb ny;rw[X,J];clear ah Y vA vB X J M T hx hy
 rcases Nat.lt_trichotomy n m with h | h | h
 .
  go_enter Tryz.func85,Tryz.ntmps85
  go_wp2
  go_returns
  have:=H.out.1 h;exact⟨yE (by unfold zM; rw[E_ D6,E9 this]),Fz _ _⟩
 .
  subst h
  go_enter Tryz.func85,Tryz.ntmps85
  go_wp2
  go_loopw [5] (fun i wr=>∃k:Nat,k<=n/\i = Ey Ew ((k:Int)-1)/\zj (A.drop k)=zj (B.drop k)/\Below w.heap.size w wr) (fun i _=>(intOf i+1).toNat)
  case atStart=>exact⟨n,Ep _,by go_num,by rw[List.drop_of_length_le (by have:=H.out.2.2.2.2.1; omega),List.drop_of_length_le (by have:=H.out.2.2.2.2.2; omega)],Fz _ _⟩
  case round=>
   obtain⟨k,hk,rfl,hd,I⟩:=hrel
   rcases Nat.eq_zero_or_pos k with rfl | hp
   .
    go_wp2
    go_returns
    have h1:=H.out.2.2.1;have h2:=H.out.2.2.2.1;simp only[List.drop_zero]at hd;exact⟨yE (by unfold zM; rw[E9 D6]),I⟩
   .
    obtain⟨j,rfl⟩:∃j,k=j+1:=⟨k-1,by omega⟩;obtain⟨ba,b9,rfl,be,a9⟩:=fa D6;obtain⟨bb,bg,rfl,bf,Z⟩:=fb D6;have g1:=(I.cell (p:=⟨ba,b9+j,none⟩) be).trans (a9 j (by rw[H.out.2.2.2.2.1]; omega));have g2:=(I.cell (p:=⟨bb,bg+j,none⟩) bf).trans (Z j (by rw[H.out.2.2.2.2.2]; omega));obtain⟨u,hu⟩:∃u,A.getD j 0=u:=⟨_,rfl⟩;obtain⟨v,hv⟩:∃v,B.getD j 0=v:=⟨_,rfl⟩;rw[hu]at g1;rw[hv]at g2;have N:Hid (A.getD j 0=u/\B.getD j 0=v):=⟨hu,hv⟩;clear a9 Z fa fb hu hv
    have E:Hid (zj (A.drop j)=u+4294967296*zj (A.drop (j+1))/\zj (B.drop j)=v+4294967296*zj (B.drop (j+1))):=by
     rw[<- N.out.1,<- N.out.2]; exact⟨yG A j,yG B j⟩
    have D:Hid (u<v->x<y):=fun h=>by
     have:=XC oa ob (i:=j) (by have:=H.out.2.2.2.2.1; omega) (by have:=H.out.2.2.2.2.2; omega) hd (by rw[N.out.1,N.out.2]; exact h);have h1:=H.out.2.2.1;have h2:=H.out.2.2.2.1;omega
    have D':Hid (v<u->y<x):=fun h=>by
     have:=XC ob oa (i:=j) (by have:=H.out.2.2.2.2.2; omega) (by have:=H.out.2.2.2.2.1; omega) hd.symm (by rw[N.out.1,N.out.2]; exact h);have h1:=H.out.2.2.1;have h2:=H.out.2.2.2.1;omega
    go_wp2
    go_quiet (fail)
    go_wp2
    .
     have hl:u<v:=by assumption
     go_returns
     have:=D.out hl;exact⟨yE (by unfold zM; rw[E_ D6,E9 this]),yS I _⟩
    .
     go_quiet (fail)
     go_wp2
     .
      have hl:v<u:=by assumption
      go_returns
      have:=D'.out hl;exact⟨yE (by unfold zM; rw[E_ D6,E_ D6]),yS (yS I _) _⟩
     .
      go_roundw
      case rel=>exact⟨j,by omega,by go_num,by have:=E.out; omega,by first | exact yS I _ | exact yS (yS I _) _⟩
      case measure=>simp[intOf]
 .
  go_enter Tryz.func85,Tryz.ntmps85
  go_wp2
  go_returns
  have:=H.out.2.1 h;exact⟨yE (by unfold zM; rw[E_ D6,E_ D6]),Fz _ _⟩
theorem ZA:(Tryz.prog.info? 172).map (fun i=>(i.zero,i.size,i.bytes))=some (some (Ey Eu 0),1,4):=by kernel_rfl
theorem jY (E:k<l.length) (h:l.getD k 0=0):zS (l.take (k+1))=zS (l.take k):=by
 rw[List.take_succ_eq_append_getElem E];have:l[k]=0:=by simpa[List.getD,E]using h
 rw[this,ZM]
theorem jZ (E:k<l.length) (h:l.getD k 0≠0):zS (l.take (k+1))=l.take (k+1):=by
 rw[List.take_succ_eq_append_getElem E];refine kN (List.append_ne_nil_of_right_ne_nil _ (List.cons_ne_nil _ _)) ?_;rw[List.getLast_append_of_ne_nil _ (List.cons_ne_nil _ _)];simpa[List.getD,E]using h
theorem Yg (w:Ef) (ha:aA w a l) (nl:l.length<=aD) :
  Ee Ed 170 #[a] w fun e w'=>∃v,e = Eh v/\aA w' v (zS l)/\zf w w':=by
 obtain⟨i0,hi,a9,Y,X⟩:=info_parts ZA;obtain⟨aa,ca,rfl⟩:=ha.ak;obtain⟨ol,-,la,fa⟩:=ha.cells;have HL:Hid (aA w (Ex aa l.length ca) l):=ha;clear ha;unfold aD at nl;obtain⟨n,hn⟩:∃n,l.length=n:=⟨_,rfl⟩;have H:Hid (l.length=n):=hn;rw[hn]at fa la nl;rw[hn];clear hn
 go_enter Tryz.func170,Tryz.ntmps170
 go_wp2
 go_loopw [3] (fun i wr=>∃k:Nat,k<=n/\i = Ey Ew k/\zS (l.take k)=zS l/\Below w.heap.size w wr) (fun i _=>(intOf i).toNat)
 case atStart=>exact⟨n,Ep _,rfl,by rw[List.take_of_length_le (by have:=H.out; omega)],Fz _ _⟩
 case round=>
  obtain⟨k,hk,rfl,hd,E⟩:=hrel;have T:Hid (zS (l.take k)=zS l):=hd;clear hd
  have fin:zS l=l.take k->aA (wr.alloc (.cells #[] 172)) (Ex aa k ca) (zS l)/\(zS l).length=k:=fun e=>by
   have h1:=H.out;rw[e];have:=HL.out;rw[H.out]at this;exact⟨(this.ae (E.alloc E.size _)).take D6,by rw[List.length_take]; omega⟩
  have K2:=E.size
  rcases Nat.eq_zero_or_pos k with rfl | hp
  .
   obtain⟨Z,hl⟩:=fin (by rw[<- T.out]; rfl);have L0:=E7 Z;have L1:=E7 hl;clear fin Z hl
   go_wp2_with (at_builtin; refine ym rfl (.tmp 18) (.tmp 21) 24 rfl w.heap.size 172 i0 Tryz.underlying24 hi a9 Y X _ 0 [] rfl (World.ownsRow_made wr #[] 0 K2 (Nat.zero_le _) rfl) _ (zS l) rfl L0.out (by have:=L1.out; omega) E6 ?_)
   intro v' w1 I hg M;have N:=aA.own I (by simpa using vj ol)
   go_wp2
   go_returns
   exact⟨_,rfl,by simpa using N,(E.alloc K2 _).grown hg E6 M⟩
  .
   obtain⟨j,rfl⟩:∃j,k=j+1:=⟨k-1,by omega⟩;obtain⟨ba,ah,rfl,b9,J⟩:=fa D6;have g1:=(E.cell (p:=⟨ba,ah+j,none⟩) b9).trans (J j (by rw[H.out]; omega));obtain⟨u,hu⟩:∃u,l.getD j 0=u:=⟨_,rfl⟩;rw[hu]at g1;have HU:Hid (l.getD j 0=u):=hu;have hj:j<l.length:=by have:=H.out; omega
   rcases Int.decEq u 0 with be | rfl
   .
    obtain⟨Z,hl⟩:=fin (by rw[<- T.out]; exact jZ hj (by rw[HU.out]; exact be));have L0:=E7 Z;have L1:=E7 hl;clear fin Z hl J fa hu hj
    go_wp2_with (at_builtin; refine ym rfl (.tmp 18) (.tmp 21) 24 rfl w.heap.size 172 i0 Tryz.underlying24 hi a9 Y X _ 0 [] rfl (World.ownsRow_made wr #[] 0 K2 (Nat.zero_le _) rfl) _ (zS l) rfl L0.out (by have:=L1.out; omega) E6 ?_)
    intro v' w1 I hg M;have N:=aA.own I (by simpa using vj ol)
    go_wp2
    go_returns
    exact⟨_,rfl,by simpa using N,(E.alloc K2 _).grown hg E6 M⟩
   .
    have T2:Hid (zS (l.take j)=zS l):=by rw[<- T.out]; exact(jY hj HU.out).symm
    clear fin J fa hu hj
    go_wp2
    go_roundw
    case rel=>exact⟨j,by omega,by go_num,T2.out,E⟩
    case measure=>simp[intOf]
theorem Bw (w:Ef) (ha:aA w a A) (hb:aA w b B) (nA:A.length<=aD) (nB:B.length<=aD) :
  Ee Ed 196 #[a,b] w fun e w'=>∃v l,e = Eh v/\aA w' v l/\zj l=zj A+zj B/\l.length=max A.length B.length+1/\zf w w':=by
 obtain⟨i0,hi,b9,ah,a9⟩:=info_parts ZA;obtain⟨aa,ca,rfl⟩:=ha.ak;obtain⟨ab,cb,rfl⟩:=hb.ak;obtain⟨oa,-,la,fa⟩:=ha.cells;obtain⟨ob,-,lb,fb⟩:=hb.cells;clear ha hb;unfold aD at nA nB;obtain⟨n,hn⟩:∃n,A.length=n:=⟨_,rfl⟩;obtain⟨m,hm⟩:∃m,B.length=m:=⟨_,rfl⟩;have H:Hid (A.length=n/\B.length=m):=⟨hn,hm⟩;rw[hn]at fa la nA;rw[hm]at fb lb nB;rw[hn,hm];clear hn hm
 go_enter Tryz.func196,Tryz.ntmps196
 go_wp2
 go_loopw [5,6,7] (fun o c i wr=>∃ (k:Nat) (xs:List Int) (N:Int),k<=max n m/\i = Ey Ew k/\c = Ey Eg N/\0<=N/\N<=1/\xs.length=k/\yv xs/\zj xs+bp k*N=zj (A.take k)+zj (B.take k)/\
   wr.ownsRow w.heap.size 172 1 o k (zK xs)/\Below w.heap.size w wr) (fun _ _ i _=>(max n m-(intOf i).toNat))
 case atStart=>exact⟨0,[],0,Nat.zero_le _,rfl,rfl,by omega,by omega,rfl,z6,by simp[zj],World.ownsRow_nil _ _ _ _,Fz _ _⟩
 case round=>
  obtain⟨k,xs,N,hk,rfl,rfl,c0,c1,hl,bh,hv,X,J⟩:=hrel;have Z:=J.size;have M:Hid (xs.length=k/\yv xs/\zj xs+bp k*N=zj (A.take k)+zj (B.take k)):=⟨hl,bh,hv⟩;clear hl bh hv;obtain⟨u,hu⟩:∃u,A.getD k 0=u:=⟨_,rfl⟩;obtain⟨v,hv⟩:∃v,B.getD k 0=v:=⟨_,rfl⟩;have u0:=zI oa k;have v0:=zI ob k;rw[hu]at u0;rw[hv]at v0;have HU:Hid (A.getD k 0=u/\B.getD k 0=v):=⟨hu,hv⟩;have zu:n<=k->u=0:=fun h=>by rw[<- hu]; have:=H.out.1; simp[List.getD,List.getElem?_eq_none (show A.length<=k by omega)]
  have zv:m<=k->v=0:=fun h=>by rw[<- hv]; have:=H.out.2; simp[List.getD,List.getElem?_eq_none (show B.length<=k by omega)]
  rcases Er k n with h1 | h1
  .
   obtain⟨ba,bi,rfl,bl,be⟩:=fa D6;have g1:=(J.cell (p:=⟨ba,bi+k,none⟩) bl).trans (be k (by rw[H.out.1]; omega));rw[hu]at g1
   rcases Er k m with h2 | h2
   .
    obtain⟨bb,bg,rfl,bf,Y⟩:=fb D6;have g2:=(J.cell (p:=⟨bb,bg+k,none⟩) bf).trans (Y k (by rw[H.out.2]; omega));rw[hv]at g2;clear be Y fa fb hu hv zu zv
    go_wp2_with (at_builtin; refine ym rfl (.tmp 42) (.tmp 45) 24 rfl w.heap.size 172 i0 Tryz.underlying24 hi b9 ah a9 _ k xs rfl (X.alloc _) _ [_] rfl (aA.one D6 D6) (by simp; omega) E6 ?_)
    intro v' w1 I hg T
    go_wp2
    go_roundw
    case rel=>
     have S:=qr (s:=N+u+v) M.out.1 M.out.2.2 (by rw[HU.out.1,HU.out.2]; omega);exact⟨k+1,xs ++ [(N+u+v)%4294967296],(N+u+v) / 4294967296,by omega,by go_num,by go_num,by omega,by omega,by rw[List.length_append,M.out.1]; rfl,zX M.out.2.1 D6 D6,S,I,(J.alloc Z _).grown hg E6 T⟩
    case measure=>simp[intOf]; omega
   .
    obtain rfl:=zv h2;clear be fa fb hu hv zu zv
    go_wp2_with (at_builtin; refine ym rfl (.tmp 42) (.tmp 45) 24 rfl w.heap.size 172 i0 Tryz.underlying24 hi b9 ah a9 _ k xs rfl (X.alloc _) _ [_] rfl (aA.one D6 D6) (by simp; omega) E6 ?_)
    intro v' w1 I hg T
    go_wp2
    go_roundw
    case rel=>
     have S:=qr (s:=N+u) M.out.1 M.out.2.2 (by rw[HU.out.1,HU.out.2]; omega);exact⟨k+1,xs ++ [(N+u)%4294967296],(N+u) / 4294967296,by omega,by go_num,by go_num,by omega,by omega,by rw[List.length_append,M.out.1]; rfl,zX M.out.2.1 D6 D6,S,I,(J.alloc Z _).grown hg E6 T⟩
    case measure=>simp[intOf]; omega
  .
   obtain rfl:=zu h1
   rcases Er k m with h2 | h2
   .
    obtain⟨bb,bg,rfl,bf,Y⟩:=fb D6;have g2:=(J.cell (p:=⟨bb,bg+k,none⟩) bf).trans (Y k (by rw[H.out.2]; omega));rw[hv]at g2;clear Y fa fb hu hv zu zv
    go_wp2_with (at_builtin; refine ym rfl (.tmp 42) (.tmp 45) 24 rfl w.heap.size 172 i0 Tryz.underlying24 hi b9 ah a9 _ k xs rfl (X.alloc _) _ [_] rfl (aA.one D6 D6) (by simp; omega) E6 ?_)
    intro v' w1 I hg T
    go_wp2
    go_roundw
    case rel=>
     have S:=qr (s:=N+v) M.out.1 M.out.2.2 (by rw[HU.out.1,HU.out.2]; omega);exact⟨k+1,xs ++ [(N+v)%4294967296],(N+v) / 4294967296,by omega,by go_num,by go_num,by omega,by omega,by rw[List.length_append,M.out.1]; rfl,zX M.out.2.1 D6 D6,S,I,(J.alloc Z _).grown hg E6 T⟩
    case measure=>simp[intOf]; omega
   .
    clear fa fb hu hv zu zv;have E:=H.out
    go_wp2_with (at_builtin; refine ym rfl (.tmp 49) (.tmp 52) 24 rfl w.heap.size 172 i0 Tryz.underlying24 hi b9 ah a9 _ k xs rfl (X.alloc _) _ [_] rfl (aA.one D6 D6) (by simp; omega) E6 ?_)
    intro v' w1 I hg T
    go_wp2
    go_returns
    refine⟨_,xs ++ [N],rfl,aA.own I (zX M.out.2.1 D6 D6),?_,?_,(J.alloc Z _).grown hg E6 T⟩
    .
     have:=M.out.2.2;rw[List.take_of_length_le D6,List.take_of_length_le D6]at this;rw[yV,M.out.1];exact this
    .
     rw[List.length_append,M.out.1]
     show k+1=_
     omega
theorem wrap_u64 (h0:0<=x) (E:x<18446744073709551616):IntKind.u64.wrap x=x:=by
 rw[IntKind.wrap_u64]; omega
theorem Y8 {xs:List Int} {c s P:Int} (E:xs.length=k) (h:zj xs+bp k*c=zj (A.take k)*P) (H:s=c+A.getD k 0*P) :
  zj (xs ++ [s%4294967296])+bp (k+1)*(s / 4294967296)=zj (A.take (k+1))*P:=by
 rw[yV,E,yp,Int.add_mul,Int.mul_assoc];have e:=vz k s;have I:bp k*s=bp k*c+bp k*(A.getD k 0*P):=by rw[H,Int.mul_add]
 omega
theorem GL {s:Nat} (w:Ef) (ha:aA w a A) (nA:A.length<=aD) (hs:s<=31) :
  Ee Ed 182 #[a,Ey Eg s] w fun e w'=>∃v l,e = Eh v/\aA w' v l/\zj l=zj A*(2^s:Nat)/\l.length=A.length+1/\w'.ownsRow w.heap.size 172 1 v (A.length+1) (zK l)/\zf w w':=by
 obtain⟨i0,hi,ah,Y,X⟩:=info_parts ZA;obtain⟨aa,ca,rfl⟩:=ha.ak;obtain⟨oa,-,la,fa⟩:=ha.cells;clear ha;unfold aD at nA;obtain⟨n,hn⟩:∃n,A.length=n:=⟨_,rfl⟩;have H:Hid (A.length=n):=hn;rw[hn]at fa la nA;rw[hn];clear hn;obtain⟨P,hP⟩:∃P,((2^s:Nat):Int)=P:=⟨_,rfl⟩;have P0:1<=P:=by have:=Nat.one_le_two_pow (n:=s); omega
 have P1:P<=2147483648:=by have:=Nat.pow_le_pow_right (show 0<2 by omega) hs; simp at this; omega
 have HP:Hid (((2^s:Nat):Int)=P):=hP;clear hP
 go_enter Tryz.func182,Tryz.ntmps182
 go_wp2
 go_loopw [5,6,7] (fun o c i wr=>∃ (k:Nat) (xs:List Int) (I:Int),k<=n/\i = Ey Ew k/\c = Ey Eg I/\0<=I/\I<P/\xs.length=k/\yv xs/\zj xs+bp k*I=zj (A.take k)*P/\
   wr.ownsRow w.heap.size 172 1 o k (zK xs)/\Below w.heap.size w wr) (fun _ _ i _=>(n-(intOf i).toNat))
 case atStart=>exact⟨0,[],0,Nat.zero_le _,rfl,rfl,by omega,by omega,rfl,z6,by simp[zj],World.ownsRow_nil _ _ _ _,Fz _ _⟩
 case round=>
  obtain⟨k,xs,I,hk,rfl,rfl,c0,c1,hl,b9,hv,M,J⟩:=hrel;have Z:=J.size;have N:Hid (xs.length=k/\yv xs/\zj xs+bp k*I=zj (A.take k)*P):=⟨hl,b9,hv⟩;clear hl b9 hv
  rcases Er k n with h1 | h1
  .
   obtain⟨u,hu⟩:∃u,A.getD k 0=u:=⟨_,rfl⟩;have u0:=zI oa k;rw[hu]at u0;have HU:Hid (A.getD k 0=u):=hu;obtain⟨ba,be,rfl,bf,a9⟩:=fa D6;have g1:=(J.cell (p:=⟨ba,be+k,none⟩) bf).trans (a9 k (by rw[H.out]; omega));rw[hu]at g1;obtain⟨t,ht⟩:∃t,u*P=t:=⟨_,rfl⟩
   have t0:0<=t/\t<=4294967295*P:=by
    rw[<- ht];exact⟨Int.mul_nonneg u0.1 D6,Int.mul_le_mul_of_nonneg_right D6 D6⟩
   have hw:IntKind.u64.wrap (u*2^s)=t:=by
    have e:u*2^s=t:=by rw[<- ht,<- HP.out]; simp
    rw[e,wrap_u64 D6 D6]
   have HT:Hid (u*P=t):=ht;clear a9 fa hu ht
   go_wp2_with (at_builtin; refine ym rfl (.tmp 23) (.tmp 26) 24 rfl w.heap.size 172 i0 Tryz.underlying24 hi ah Y X _ k xs rfl (M.alloc _) _ [_] rfl (aA.one D6 D6) (by simp; omega) E6 ?_)
   intro v' w1 E hg T
   go_wp2
   go_roundw
   case rel=>
    have S:=Y8 (s:=I+t) N.out.1 N.out.2.2 (by rw[HU.out,HT.out]);exact⟨k+1,xs ++ [(I+t)%4294967296],(I+t) / 4294967296,by omega,by go_num,by go_num,by omega,by omega,by rw[List.length_append,N.out.1]; rfl,zX N.out.2.1 D6 D6,S,E,(J.alloc Z _).grown hg E6 T⟩
   case measure=>simp[intOf]; omega
  .
   clear fa
   go_wp2_with (at_builtin; refine ym rfl (.tmp 30) (.tmp 33) 24 rfl w.heap.size 172 i0 Tryz.underlying24 hi ah Y X _ k xs rfl (M.alloc _) _ [_] rfl (aA.one D6 D6) (by simp; omega) E6 ?_)
   intro v' w1 E hg T
   go_wp2
   go_returns
   have bg:k=n:=D6
   subst bg;have hB:Below w.heap.size w w1:=(J.alloc Z _).grown hg E6 T;refine⟨_,xs ++ [I],rfl,aA.own E (zX N.out.2.1 D6 D6),?_,?_,E,hB⟩
   .
    have:=N.out.2.2;rw[List.take_of_length_le (by have:=H.out; omega)]at this;rw[yV,N.out.1,HP.out];exact this
   . rw[List.length_append,N.out.1]; rfl
theorem Ut (w:Ef) (ha:aA w a A) (hb:aA w b B) (nA:A.length<=aD) (nB:B.length<=A.length) (be:zj B<=zj A) :
  Ee Ed 197 #[a,b] w fun e w'=>∃v,e = Eh v/\aA w' v (zp (zj A-zj B))/\zf w w':=by
 obtain⟨i0,hi,a9,Y,X⟩:=info_parts ZA;obtain⟨aa,ca,rfl⟩:=ha.ak;obtain⟨ab,cb,rfl⟩:=hb.ak;obtain⟨oa,-,la,fa⟩:=ha.cells;obtain⟨ob,-,lb,fb⟩:=hb.cells;clear ha hb;unfold aD at nA;obtain⟨n,hn⟩:∃n,A.length=n:=⟨_,rfl⟩;obtain⟨m,hm⟩:∃m,B.length=m:=⟨_,rfl⟩;have H:Hid (A.length=n/\B.length=m/\zj B<=zj A):=⟨hn,hm,be⟩;rw[hm,hn]at nB;rw[hn]at fa la nA;rw[hm]at fb lb;rw[hn,hm];clear hn hm be
 go_enter Tryz.func197,Tryz.ntmps197
 go_wp2
 go_loopw [5,6,7,8] (fun o c i t wr=>∃ (k:Nat) (xs:List Int) (I:Int),k<=n/\i = Ey Ew k/\c = Ey Ew I/\0<=I/\I<=1/\xs.length=k/\yv xs/\zj xs=zj (A.take k)-zj (B.take k)+bp k*I/\
   wr.ownsRow w.heap.size 172 1 o k (zK xs)/\Below w.heap.size w wr) (fun _ _ i _ _=>(n-(intOf i).toNat))
 case atStart=>exact⟨0,[],0,Nat.zero_le _,rfl,rfl,by omega,by omega,rfl,z6,by simp[zj],World.ownsRow_nil _ _ _ _,Fz _ _⟩
 case round=>
  obtain⟨k,xs,I,hk,rfl,rfl,c0,c1,hl,bf,hv,M,N⟩:=hrel;have Z:=N.size;have J:Hid (xs.length=k/\yv xs/\zj xs=zj (A.take k)-zj (B.take k)+bp k*I):=⟨hl,bf,hv⟩;clear hl bf hv;obtain⟨u,hu⟩:∃u,A.getD k 0=u:=⟨_,rfl⟩;obtain⟨v,hv⟩:∃v,B.getD k 0=v:=⟨_,rfl⟩;have u0:=zI oa k;have v0:=zI ob k;rw[hu]at u0;rw[hv]at v0;have HU:Hid (A.getD k 0=u/\B.getD k 0=v):=⟨hu,hv⟩;have zv:m<=k->v=0:=fun h=>by rw[<- hv]; have:=H.out.2.1; simp[List.getD,List.getElem?_eq_none (show B.length<=k by omega)]
  rcases Er k n with h1 | h1
  .
   obtain⟨ba,bh,rfl,bi,ah⟩:=fa D6;have g1:=(N.cell (p:=⟨ba,bh+k,none⟩) bi).trans (ah k (by rw[H.out.1]; omega));rw[hu]at g1
   rcases Er k m with h2 | h2
   .
    obtain⟨bb,cg,rfl,ce,b9⟩:=fb D6;have g2:=(N.cell (p:=⟨bb,cg+k,none⟩) ce).trans (b9 k (by rw[H.out.2.1]; omega));rw[hv]at g2;clear ah b9 fa fb hu hv zv
    rcases Int.lt_or_le (u-I-v) 0 with ht | ht
    .
     go_wp2_with (at_builtin; refine ym rfl (.tmp 37) (.tmp 40) 24 rfl w.heap.size 172 i0 Tryz.underlying24 hi a9 Y X _ k xs rfl (M.alloc _) _ [_] rfl (aA.one D6 D6) (by simp; omega) E6 ?_)
     intro v' w1 E hg T
     go_wp2
     go_roundw
     case rel=>
      have S:=q_ (t:=u-I-v) (x:=u-I-v+4294967296) (c':=1) J.out.1 J.out.2.2 (by rw[HU.out.1,HU.out.2]; omega) D6;have hx:(u-I-v+4294967296)%4294967296=u-I-v+4294967296:=D6
      exact⟨k+1,xs ++ [u-I-v+4294967296],1,by omega,by go_num,by go_num,by omega,by omega,by rw[List.length_append,J.out.1]; rfl,zX J.out.2.1 D6 D6,S,by first | exact E | (rw[hx]at E; exact E),(N.alloc Z _).grown hg E6 T⟩
     case measure=>simp[intOf]; omega
    .
     go_wp2_with (at_builtin; refine ym rfl (.tmp 37) (.tmp 40) 24 rfl w.heap.size 172 i0 Tryz.underlying24 hi a9 Y X _ k xs rfl (M.alloc _) _ [_] rfl (aA.one D6 D6) (by simp; omega) E6 ?_)
     intro v' w1 E hg T
     go_wp2
     go_roundw
     case rel=>
      have S:=q_ (t:=u-I-v) (x:=u-I-v) (c':=0) J.out.1 J.out.2.2 (by rw[HU.out.1,HU.out.2]; omega) D6;have hx:(u-I-v)%4294967296=u-I-v:=D6
      exact⟨k+1,xs ++ [u-I-v],0,by omega,by go_num,by go_num,by omega,by omega,by rw[List.length_append,J.out.1]; rfl,zX J.out.2.1 D6 D6,S,by first | exact E | (rw[hx]at E; exact E),(N.alloc Z _).grown hg E6 T⟩
     case measure=>simp[intOf]; omega
   .
    obtain rfl:=zv h2;clear ah fa fb hu hv zv
    rcases Int.lt_or_le (u-I) 0 with ht | ht
    .
     go_wp2_with (at_builtin; refine ym rfl (.tmp 37) (.tmp 40) 24 rfl w.heap.size 172 i0 Tryz.underlying24 hi a9 Y X _ k xs rfl (M.alloc _) _ [_] rfl (aA.one D6 D6) (by simp; omega) E6 ?_)
     intro v' w1 E hg T
     go_wp2
     go_roundw
     case rel=>
      have S:=q_ (t:=u-I) (x:=u-I+4294967296) (c':=1) J.out.1 J.out.2.2 (by rw[HU.out.1,HU.out.2]; omega) D6;have hx:(u-I+4294967296)%4294967296=u-I+4294967296:=D6
      exact⟨k+1,xs ++ [u-I+4294967296],1,by omega,by go_num,by go_num,by omega,by omega,by rw[List.length_append,J.out.1]; rfl,zX J.out.2.1 D6 D6,S,by first | exact E | (rw[hx]at E; exact E),(N.alloc Z _).grown hg E6 T⟩
     case measure=>simp[intOf]; omega
    .
     go_wp2_with (at_builtin; refine ym rfl (.tmp 37) (.tmp 40) 24 rfl w.heap.size 172 i0 Tryz.underlying24 hi a9 Y X _ k xs rfl (M.alloc _) _ [_] rfl (aA.one D6 D6) (by simp; omega) E6 ?_)
     intro v' w1 E hg T
     go_wp2
     go_roundw
     case rel=>
      have S:=q_ (t:=u-I) (x:=u-I) (c':=0) J.out.1 J.out.2.2 (by rw[HU.out.1,HU.out.2]; omega) D6;have hx:(u-I)%4294967296=u-I:=D6
      exact⟨k+1,xs ++ [u-I],0,by omega,by go_num,by go_num,by omega,by omega,by rw[List.length_append,J.out.1]; rfl,zX J.out.2.1 D6 D6,S,by first | exact E | (rw[hx]at E; exact E),(N.alloc Z _).grown hg E6 T⟩
     case measure=>simp[intOf]; omega
  .
   clear fa fb hu hv zv;have ci:k=n:=D6
   subst ci;have e1:=J.out.2.2;have e2:=yO J.out.2.1;have e4:=zG J.out.2.1;have e3:=xO k;rw[List.take_of_length_le (by have:=H.out; omega),List.take_of_length_le (by have:=H.out; omega)]at e1;rw[J.out.1]at e2
   have br:I=0:=by
    rcases(show I=0\/I=1 by omega)with h | h
    . exact h
    . subst h; have:=H.out.2.2; omega
   subst br;rw[Int.mul_zero,Int.add_zero]at e1;have L:=E7 (yj J.out.2.1);have L1:=aA.own M J.out.2.1;have E1:=E7 e1;have lx:=J.out.1;have bt:xs.length<=aD:=by unfold aD; omega
   clear e1 e2 e3 e4 lx
   go_wp2_with (go_at_call 170; refine(Yg _ L1 bt).mono ?_; rintro e w2 ⟨v2,rfl,bg,bl⟩)
   go_returns
   exact⟨_,rfl,by rw[<- E1.out,L.out]; exact bg,zA N (Ep _) bl⟩
end
section
open Go.RowKit
theorem yC (n:Nat):madeCells #[Value.int Eu 0] n=(zK (List.replicate n 0)).toArray:=by
 apply Array.ext'
 simp[madeCells,zK];apply List.ext_getElem
 . simp
 . intro i H E; simp[Nat.mod_one]
theorem Yh (j:Nat) (x:Int) (qs:List Int):(zK (List.replicate (j+1) 0++qs)).toArray.setIfInBounds j (Ey Eu x)=(zK (List.replicate j 0++x::qs)).toArray:=by
 have e:List.replicate (j+1) (0:Int)++qs=List.replicate j 0++0::qs:=by
  rw[show j+1=j+1 from rfl,List.replicate_succ']; simp
 rw[e];simp[zK,List.set_append]
theorem xK (n:Nat) (h:n<=1000000000) (w:Ef):(Instr.makeSlice 24 (Ey Ew (n:Int)) (Ey Ew (n:Int))).run Ed w = .ok (Ex (some ⟨w.heap.size,0,none⟩) n n) (w.alloc (.cells (madeCells #[Ey Eu 0] n) 172)):=
 run_make_row' (P:=Ed) 24 172 (Ey Eu 0) 4 Tryz.underlying24 ZA rfl Ew Ew n D6 D6 w
set_option maxHeartbeats 3200000 in
set_option maxRecDepth 1000000 in
theorem G7 {a:Ei} {A:List Int} {d:Int} (w:Ef) (ha:aA w a A) (nA:A.length<=aD) (d0:1<=d) (d1:d<4294967296) :
  Ee Ed 181 #[a,Ey Eu d] w fun e w'=>∃q r,e = Eh (.tuple #[q,r])/\aA w' q (zp (zj A / d))/\aA w' r (zp (zj A%d))/\zf w w':=by
 obtain⟨aa,ca,rfl⟩:=ha.ak;obtain⟨oa,-,la,fa⟩:=ha.cells;clear ha;unfold aD at nA;obtain⟨n,hn⟩:∃n,A.length=n:=⟨_,rfl⟩;have H:Hid (A.length=n):=hn;rw[hn]at fa la nA;rw[hn];clear hn;have bg:=xK n D6;have Z0:(w.alloc (.cells (madeCells #[Ey Eu 0] n) 172)).heap.size=w.heap.size+1:=World.size_alloc _ _;have B0:Below w.heap.size w (w.alloc (.cells (madeCells #[Ey Eu 0] n) 172)):=(Fz _ _).alloc (Ep _) _
 have K0:ai (w.alloc (.cells (madeCells #[Ey Eu 0] n) 172)) w.heap.size 172 (zK (List.replicate n 0 ++ [])).toArray:=by
  have:=ai.new w 172 (madeCells #[Ey Eu 0] n);rw[yC,<- List.append_nil (List.replicate n (0:Int))]at this;rw[yC];simpa using this
 go_enter Tryz.func181,Tryz.ntmps181
 go_wp2
 go_loopw [7,8] (fun r i wr=>∃ (k:Nat) (qs:List Int) (J:Int),k<=n/\i = Ey Ew ((k:Int)-1)/\r = Ey Eg J/\0<=J/\J<d/\yv qs/\qs.length+k=n/\zj (A.drop k)=d*zj qs+J/\
   ai wr w.heap.size 172 (zK (List.replicate k 0++qs)).toArray/\Below w.heap.size w wr) (fun _ i _=>(intOf i+1).toNat)
 case atStart=>exact⟨n,[],0,Ep _,by go_num,rfl,by omega,by omega,z6,by simp,by rw[List.drop_of_length_le (by have:=H.out; omega)]; simp[zj],K0,B0⟩
 case round=>
  obtain⟨k,qs,J,hk,rfl,rfl,r0,r1,a9,hl,hv,I,M⟩:=hrel;have Z:=M.size;have HV:Hid (qs.length+k=n/\yv qs/\zj (A.drop k)=d*zj qs+J):=⟨hl,a9,hv⟩;clear hl a9 hv bg Z0 B0 K0
  rcases Nat.eq_zero_or_pos k with rfl | hp
  .
   clear fa;have E:=HV.out;rw[Nat.add_zero]at E;obtain⟨E1,E2,E3⟩:=E;rw[List.drop_zero]at E3;simp only[List.replicate_zero,List.nil_append]at I
   have Lq:aA wr (Ex (some ⟨w.heap.size,0,none⟩) n n) qs:=by
    have:=aA.a_ I E2;rw[E1]at this;exact this
   have Q:=jM E3 r0 r1;have F:=E7 (E8 Q E2);have lq:qs.length<=aD:=by unfold aD; omega
   clear E1 E3 Q I
   go_wp2_with (first
    | (go_at_call 170; refine(Yg _ Lq lq).mono ?_; clear Lq; rintro e w2 ⟨v2,rfl,T,be⟩)
    | (go_at_call 170; refine(Yg _ (aA.one (x:=J) D6 D6) (by unfold aD; simp)).mono ?_; rintro e w3 ⟨v3,rfl,X,bf⟩))
   go_returns
   have Z2:zf w2 w3:=((Fz w2.heap.size w2).alloc (Ep _) _).trans (bf.mono E6);refine⟨_,_,rfl,?_,?_,zA (zA M (Ep _) be) (Ep _) Z2⟩
   .
    rw[F.out.1.1];rw[<- yj F.out.2]at T;exact T.ae Z2
   .
    rw[F.out.1.2];have:=yj (zZ.2 ⟨⟨r0,by omega⟩,z6⟩:yv [J]);rw[<- this]at X;simpa[zj]using X
  .
   obtain⟨j,rfl⟩:∃j,k=j+1:=⟨k-1,by omega⟩;obtain⟨ba,ah,rfl,b9,Y⟩:=fa D6;have g1:=(M.cell (p:=⟨ba,ah+j,none⟩) b9).trans (Y j (by rw[H.out]; omega));obtain⟨u,hu⟩:∃u,A.getD j 0=u:=⟨_,rfl⟩;have u0:=zI oa j;rw[hu]at g1 u0;have HU:Hid (A.getD j 0=u):=hu;clear fa Y hu
   have g2:wr.cell? ⟨w.heap.size,0+j,none⟩=some (Ey Eu 0):=by
    refine I.c _ ?_;rw[Nat.zero_add];simp[zK,List.getElem?_append,List.getElem?_replicate]
   have g3:wr.frozen? ⟨w.heap.size,0+j,none⟩=false:=I.fr _;rw[Nat.zero_add]at g2 g3;have N:=E7 I;clear I
   go_wp2
   go_roundw
   case rel=>
    have hb:=N.out;have q0:0<=(J*4294967296+u) / d:=Int.ediv_nonneg D6 D6;have q1:(J*4294967296+u) / d<4294967296:=Int.ediv_lt_of_lt_mul D6 D6;have m0:=Int.emod_nonneg (J*4294967296+u) (show d≠0 by omega);have m1:=Int.emod_lt_of_pos (J*4294967296+u) (show 0<d by omega);have S:=Yc (x:=u) HV.out.2.2;rw[Int.emod_eq_of_lt q0 q1];have E:=HV.out.1;refine⟨j,(J*4294967296+u) / d::qs,(J*4294967296+u)%d,by omega,rfl,rfl,m0,m1,zZ.2 ⟨⟨q0,q1⟩,HV.out.2.1⟩,by rw[List.length_cons]; omega,?_,hb.aW (Yh j _ qs),M.setCell (p:=⟨w.heap.size,j,none⟩) (Ep _) _⟩;rw[yG,HU.out,S];simp only[zj]
   case measure=>simp[intOf]
end
section
open Go.RowKit
variable {A D:Int} {U l:List Int} {post pre:List Ei} {b g j k m o:Nat} {a d:Ei} {w wr:Ef}
def xG (pre:List Ei) (U:List Int) (post:List Ei):Array Ei:=(pre++(zK U++post)).toArray
theorem xm {t:Nat} (E:pre.length=j) (ht:t<U.length):(xG pre U post)[j+t]? = some (Ey Eu (U.getD t 0)):=by
 subst E;simp only[xG,List.getElem?_toArray];rw[List.getElem?_append_right D6,Nat.add_sub_cancel_left,List.getElem?_append_left (by rw[yF]; exact ht)];exact xS U t ht
theorem qF {xs:List Int} (E:pre.length=j) (I:xs.length=k) (H:k<U.length) (x:Int) :
  (xG pre (xs++U.drop k) post).setIfInBounds (j+k) (Ey Eu x)=xG pre ((xs ++ [x])++U.drop (k+1)) post:=by
 subst E I;rw[List.drop_eq_getElem_cons H];simp only[xG,zK,List.map_append,List.map_cons,List.append_assoc,List.setIfInBounds_toArray,List.cons_append,List.map_nil,List.nil_append]
 congr 1
 rw[List.set_append_right _ _ D6,Nat.add_sub_cancel_left,List.set_append_right _ _ D9,List.length_map,Nat.sub_self,List.set_cons_zero]
theorem xT (h:w.grownBy wr (some g)) (i:Nat) (u:Ei):w.grownBy (wr.setCell ⟨g,i,none⟩ u) (some g):=
 ⟨h.os,h.tape,h.output,by simpa[World.setCell]using h.size,fun k H E=>by
  rw[Below.heap_setCell _ _ _ _ (fun e=>E (by rw[e]))]
  exact h.block k H E⟩
theorem kO (w:Ef) (a b:Nat):∃n,(w.drewN a).drewN b=w.drewN n:=⟨a+b,by rw[World.drewN_drewN]⟩
theorem Qb {r:Option Nat} (h:w.grownBy wr r) (n:Nat):w.grownBy (wr.drewN n) r:=⟨h.os,h.tape,h.output,h.size,h.block⟩
theorem Cells.grown (h:Cells w b o l) (hg:w.grownBy wr (some g)) (H:b<w.heap.size) (E:b≠g):Cells wr b o l:=
 fun t ht=>(World.cell?_of_block (a:=⟨b,o+t,none⟩) (hg.block b H (fun e=>E (by injection e)))).trans (h t ht)
theorem G8 {capu capv:Nat} {V:List Int} (w:Ef) (hB:ai w g 172 (xG pre U post)) (hj:pre.length=j) (hU:U.length=m+3) (bt:yv U)
  (hV:Cells w b o V) (lV:V.length=m+2) (bg:yv V) (hb:b<w.heap.size) (dx:b≠g) (hn:m<=aD) (ci:2147483648<=V.getD (m+1) 0) (cZ:zj U<zj V*4294967296) :
  Ee Ed 183 #[Ex (some ⟨g,j,none⟩) (m+3) capu,Ex (some ⟨b,o,none⟩) (m+2) capv] w fun e w'=>
   ∃X,e = Eh (Ey Eu (zj U / zj V))/\X.length=m+3/\yv X/\zj X=zj U%zj V/\ai w' g 172 (xG pre X post)/\w.grownBy w' (some g):=by
 unfold aD at hn;have hg:g<w.heap.size:=hB.lt;obtain⟨un,bi⟩:∃x,U.getD (m+2) 0=x:=⟨_,rfl⟩;obtain⟨J,be⟩:∃x,U.getD (m+1) 0=x:=⟨_,rfl⟩;obtain⟨bl,bf⟩:∃x,U.getD m 0=x:=⟨_,rfl⟩;obtain⟨T,ce⟩:∃x,V.getD (m+1) 0=x:=⟨_,rfl⟩;obtain⟨v2,br⟩:∃x,V.getD m 0=x:=⟨_,rfl⟩;have bu:=zI bt (m+2);have dk:=zI bt (m+1);have dl:=zI bt m;have dt:=zI bg (m+1);have cg:=zI bg m;have cu:w.cell? ⟨g,j+(m+2),none⟩=some (Ey Eu un):=by rw[<- bi]; exact hB.c _ (xm hj D6)
 have em:w.cell? ⟨g,j+(m+1),none⟩=some (Ey Eu J):=by rw[<- be]; exact hB.c _ (xm hj D6)
 have dP:w.cell? ⟨g,j+m,none⟩=some (Ey Eu bl):=by rw[<- bf]; exact hB.c _ (xm hj D6)
 have ek:w.cell? ⟨b,o+(m+1),none⟩=some (Ey Eu T):=by rw[<- ce]; exact hV _ D6
 have ec:w.cell? ⟨b,o+m,none⟩=some (Ey Eu v2):=by rw[<- br]; exact hV _ D6
 have DM:=Yd bt bg hU lV D6 cZ;rw[bi,be,bf,ce,br]at DM;obtain⟨Q,hQ⟩:∃Q,zj U / zj V=Q:=⟨_,rfl⟩
 have hR:zj U%zj V=zj U-Q*zj V:=by
  have:=Int.mul_ediv_add_emod (zj U) (zj V);rw[hQ,Int.mul_comm]at this;omega
 rw[hQ]at DM;rw[hQ,hR];obtain⟨Q0,Q1,Q2,Q3,Q4,Q5,Q6⟩:=DM;have HQ:Hid (Q*T<=un*4294967296+J/\Q*(T*4294967296+v2)<=(un*4294967296+J)*4294967296+bl/\Q*zj V<=zj U/\zj U-Q*zj V<zj V/\0<zj V):=⟨Q2,Q3,Q4,Q5,Q6⟩;clear Q2 Q3 Q4 Q5 Q6 hR hQ;rw[bi]at bu;rw[be]at dk;rw[bf]at dl;rw[ce]at dt ci;rw[br]at cg;have H:Hid (U.getD (m+2) 0=un/\U.getD (m+1) 0=J/\U.getD m 0=bl/\V.getD (m+1) 0=T/\V.getD m 0=v2/\U.length=m+3/\V.length=m+2/\pre.length=j/\zj U<zj V*4294967296):=⟨bi,be,bf,ce,br,hU,lV,hj,cZ⟩;have HB:=E7 hB;have HV:=E7 hV;clear bi be bf ce br hU lV hj cZ hB hV
 go_enter Tryz.func183,Tryz.ntmps183
 go_wp2_with fail
 go_quiet (fail)
 go_wp2_with fail
 go_quiet (fail)
 go_upto_block 0 with fail
 have T0:Hid ((un*4294967296+J) / T*T+(un*4294967296+J)%T=un*4294967296+J):=by
  have:=Int.mul_ediv_add_emod (un*4294967296+J) T;rw[Int.mul_comm]at this;exact this
 have T1:0<=(un*4294967296+J) / T:=Int.ediv_nonneg D6 D6;have T2:(un*4294967296+J) / T<8589934592:=Int.ediv_lt_of_lt_mul D6 D6;have T3:=Int.emod_nonneg (un*4294967296+J) (show T≠0 by omega);have T4:=Int.emod_lt_of_pos (un*4294967296+J) (show 0<T by omega);obtain⟨q0,cn⟩:∃q,(un*4294967296+J) / T=q:=⟨_,rfl⟩;obtain⟨r0,cy⟩:∃r,(un*4294967296+J)%T=r:=⟨_,rfl⟩;rw[cn]at T0 T1 T2;rw[cy]at T0 T3 T4;simp only[cn,cy];clear cn cy
 go_cut [7,8] (fun q r wx=>∃qv:Int,q = Ey Eg qv/\Q<=qv/\0<=qv/\qv<4294967296/\∃n,wx=w.drewN n)
 case first=>
  go_wp2_with fail
  go_loopw [7,8] (fun q r wr=>∃qv rv:Int,q = Ey Eg qv/\r = Ey Eg rv/\Q<=qv/\0<=qv/\qv<8589934592/\0<=rv/\Hid (qv*T+rv=un*4294967296+J)/\∃n,wr=w.drewN n) (fun q _ _=>(intOf q).toNat)
  case atStart=>exact⟨q0,r0,rfl,rfl,X_ T0.out T4 HQ.out.1 D6,T1,T2,T3,T0,(by first | exact⟨_,rfl⟩ | exact kO _ _ _)⟩
  case round=>
   obtain⟨qv,rv,rfl,rfl,a1,a2,a3,a4,a5,nn,rfl⟩:=hrel;clear T0 T1 T2 T3 T4
   have body:Q<qv->Hid ((qv-1)*T+(rv+T)=un*4294967296+J)/\rv+T<=un*4294967296+J:=fun h=>by
    have e:=a5.out;have e1:(qv-1)*T+(rv+T)=un*4294967296+J:=by rw[Int.sub_mul]; omega
    have e2:=Int.mul_nonneg (show 0<=qv-1 by omega) (show 0<=T by omega);exact⟨e1,by omega⟩
   obtain⟨p,hp⟩:∃p,qv*v2=p:=⟨_,rfl⟩;have ah:rv*4294967296+bl<p->Q<qv:=fun h=>Jq a5.out HQ.out.2.1 D6 (by rw[hp]; exact h);have p0:0<=p:=by rw[<- hp]; exact Int.mul_nonneg a2 cg.1
   have p1:qv<4294967296->p<=18446744065119617025:=fun h=>by
    rw[<- hp];have:=Int.mul_le_mul (show qv<=4294967295 by omega) (show v2<=4294967295 by omega) cg.1 D6;omega
   rcases Int.lt_or_le qv 4294967296 with h1 | h1
   .
    have p2:=p1 h1;have hw:IntKind.u64.wrap (qv*v2)=p:=by rw[hp,wrap_u64 D6 D6]
    rcases Int.lt_or_le rv 4294967296 with h2 | h2
    .
     rcases Int.lt_or_le (rv*4294967296+bl) p with h3 | h3
     .
      obtain⟨b1,b2⟩:=body (ah h3);have b3:=ah h3;clear body ah p1 hp;have c1:decide (4294967296<=qv)=false:=Ea D6;go_wp2_with fail
      go_quiet (fail)
      go_wp2_with fail
      all_goals first
       | (exfalso; omega)
       | (
         go_roundw
         case rel=>exact⟨qv-1,rv+T,rfl,rfl,by omega,by omega,by omega,by omega,b1,(by first | exact⟨_,rfl⟩ | exact kO _ _ _)⟩
         case measure=>simp[intOf]; omega)
       | exact⟨⟨by omega,by omega,by omega,by omega,_,rfl⟩,by simp[intOf]; omega⟩
       | (
         go_meet
         exact⟨qv-1,rfl,by omega,by omega,by omega,(by first | exact⟨_,rfl⟩ | exact kO _ _ _)⟩)
     .
      have c1:decide (4294967296<=qv)=false:=Ea D6;clear body ah p1 hp;go_wp2_with fail
      go_quiet (fail)
      go_wp2_with fail
      go_meet
      exact⟨qv,rfl,by omega,by omega,by omega,(by first | exact⟨_,rfl⟩ | exact kO _ _ _)⟩
    .
     have c1:decide (4294967296<=qv)=false:=Ea D6;have c2:decide (rv<4294967296)=false:=Ea D6;clear body ah p1 hp;go_wp2_with fail
     go_quiet (fail)
     go_wp2_with fail
     go_meet
     exact⟨qv,rfl,by omega,by omega,by omega,(by first | exact⟨_,rfl⟩ | exact kO _ _ _)⟩
   .
    obtain⟨b1,b2⟩:=body D6;clear body ah p1 hp
    rcases Int.lt_or_le (rv+T) 4294967296 with h3 | h3
    .
     go_wp2_with fail
     go_quiet (fail)
     go_wp2
     first
      | exact⟨⟨by omega,by omega,by omega,by omega,_,rfl⟩,by simp[intOf]; omega⟩
      | (
        go_roundw
        case rel=>exact⟨qv-1,rv+T,rfl,rfl,by omega,by omega,by omega,by omega,b1,(by first | exact⟨_,rfl⟩ | exact kO _ _ _)⟩
        case measure=>simp[intOf]; omega)
    .
     rcases Int.lt_or_le (qv-1) 4294967296 with h4 | h4
     .
      go_wp2_with fail
      go_quiet (fail)
      go_wp2
      go_meet
      exact⟨qv-1,rfl,by omega,by omega,by omega,(by first | exact⟨_,rfl⟩ | exact kO _ _ _)⟩
     .
      go_wp2_with fail
      go_quiet (fail)
      go_wp2
      first
       | exact⟨⟨by omega,by omega,by omega,by omega,_,rfl⟩,by simp[intOf]; omega⟩
       | (
         go_roundw
         case rel=>exact⟨qv-1,rv+T,rfl,rfl,by omega,by omega,by omega,by omega,b1,(by first | exact⟨_,rfl⟩ | exact kO _ _ _)⟩
         case measure=>simp[intOf]; omega)
 case rest=>
  obtain⟨qv,rfl,a1,a2,a3,nn,rfl⟩:=hcut;have Z:Hid (pre.length=j/\U.length=m+3/\V.length=m+2):=⟨H.out.2.2.2.2.2.2.2.1,H.out.2.2.2.2.2.1,H.out.2.2.2.2.2.2.1⟩;have HH:=E7 H.out.2.2.2.2.2.2.2.2;have G0:w.grownBy (w.drewN nn) (some g):=Qb (World.grownBy.refl w _) nn;have B0:ai (w.drewN nn) g 172 (xG pre ([]++U.drop 0) post):=HB.out.drewN nn;clear T0 T1 T2 T3 T4 H bu dk dl dt cg cu em dP ek ec ci
  go_wp2
  go_loopw [9,10,11,12] (fun bo c i t wr=>∃ (k:Nat) (xs:List Int) (M I:Int),k<=m+3/\i = Ey Ew k/\bo = Ey Ew M/\c = Ey Eg I/\0<=M/\M<=1/\0<=I/\I<4294967296/\(k=m+3->I=0)/\xs.length=k/\yv xs/\
    zj xs=zj (U.take k)-qv*zj (V.take k)+bp k*(I+M)/\ai wr g 172 (xG pre (xs++U.drop k) post)/\w.grownBy wr (some g)) (fun _ _ i _ _=>m+3-(intOf i).toNat)
  case atStart=>exact⟨0,[],0,0,Nat.zero_le _,rfl,rfl,rfl,by omega,by omega,by omega,by omega,by omega,rfl,z6,by simp[zj],B0,G0⟩
  case round=>
   obtain⟨k,xs,M,I,hk,rfl,rfl,rfl,b0,b1,c0,c1,c2,hl,Y,hv,E,a9⟩:=hrel;have HR:Hid (xs.length=k/\yv xs/\zj xs=zj (U.take k)-qv*zj (V.take k)+bp k*(I+M)):=⟨hl,Y,hv⟩;have HG:=E7 a9;have HK:=E7 E;clear B0 G0
   rcases Er k (m+3)with h1 | h1
   .
    obtain⟨u,hu⟩:∃x,U.getD k 0=x:=⟨_,rfl⟩;obtain⟨v,N⟩:∃x,V.getD k 0=x:=⟨_,rfl⟩;have u0:=zI bt k;have v0:=zI bg k;rw[hu]at u0;rw[N]at v0
    have gU:(xs++U.drop k).getD k 0=u:=by
     rw[<- hu];simp only[List.getD];rw[List.getElem?_append_right D6,hl,Nat.sub_self,List.getElem?_drop,Nat.add_zero]
    have g1:wr.cell? ⟨g,j+k,none⟩=some (Ey Eu u):=by
     rw[<- gU];exact E.c _ (xm Z.out.1 (by rw[List.length_append,List.length_drop,hl]; have:=Z.out.2.1; omega))
    have g2:wr.frozen? ⟨g,j+k,none⟩=false:=E.fr _
    rcases Er k (m+2)with h2 | h2
    .
     have g3:=(HV.out.grown a9 hb dx) k (by have:=Z.out.2.2; omega);rw[N]at g3;obtain⟨p,hp⟩:∃p,qv*v=p:=⟨_,rfl⟩;have p0:0<=p:=by rw[<- hp]; exact Int.mul_nonneg a2 v0.1
     have p1:p<=18446744065119617025:=by
      rw[<- hp];have:=Int.mul_le_mul (show qv<=4294967295 by omega) (show v<=4294967295 by omega) v0.1 D6;omega
     have hw:IntKind.u64.wrap (qv*v)=p:=by rw[hp,wrap_u64 D6 D6]
     obtain⟨lo,bh⟩:∃l,(I+p)%4294967296=l:=⟨_,rfl⟩;have l0:0<=lo/\lo<4294967296:=D6
     have dc:bits BinOp.and IntKind.u64 (I+p) 4294967295=lo:=by rw[and_low32 _ D6 D6,bh]
     have HX:Hid (U.getD k 0=u/\V.getD k 0=v):=⟨hu,N⟩;have dy:=E7 hp;have HL:=E7 bh;clear hu N gU hp hl Y hv E a9 bh
     rcases Int.lt_or_le (u-lo-M) 0 with ht | ht
     .
      go_wp2
      go_roundw
      case rel=>
       have R:=HR.out;have S:=jC (q:=qv) (V:=V) (s:=I+p) (t:=u-lo-M) (x:=u-lo-M+4294967296) (b':=1) R.1 R.2.2 (by rw[HX.out.2,dy.out]) (by rw[HX.out.1,HL.out]) D6;refine⟨k+1,xs ++ [u-lo-M+4294967296],1,(I+p) / 4294967296,by omega,by go_num,rfl,by go_num,by omega,by omega,by omega,by omega,by omega,by rw[List.length_append,R.1]; rfl,zX R.2.1 D6 D6,S,?_,xT HG.out _ _⟩;refine HK.out.aW ?_
       try rw[show (u-lo-M+4294967296)%4294967296=u-lo-M+4294967296 by omega]
       exact qF Z.out.1 R.1 (by have:=Z.out.2.1; omega) _
      case measure=>simp[intOf]; omega
     .
      go_wp2
      go_roundw
      case rel=>
       have R:=HR.out;have S:=jC (q:=qv) (V:=V) (s:=I+p) (t:=u-lo-M) (x:=u-lo-M) (b':=0) R.1 R.2.2 (by rw[HX.out.2,dy.out]) (by rw[HX.out.1,HL.out]) D6;refine⟨k+1,xs ++ [u-lo-M],0,(I+p) / 4294967296,by omega,by go_num,rfl,by go_num,by omega,by omega,by omega,by omega,by omega,by rw[List.length_append,R.1]; rfl,zX R.2.1 D6 D6,S,?_,xT HG.out _ _⟩;refine HK.out.aW ?_
       try rw[show (u-lo-M)%4294967296=u-lo-M by omega]
       exact qF Z.out.1 R.1 (by have:=Z.out.2.1; omega) _
      case measure=>simp[intOf]; omega
    .
     have ed:k=m+2:=D6
     have d9:v=0:=by rw[<- N]; have:=Z.out.2.2; simp[List.getD,List.getElem?_eq_none (show V.length<=k by omega)]
     subst d9;obtain⟨lo,bh⟩:∃l,I%4294967296=l:=⟨_,rfl⟩;have er:lo=I:=D6
     have dc:bits BinOp.and IntKind.u64 I 4294967295=I:=by rw[and_low32 _ D6 D6]; omega
     have HX:Hid (U.getD k 0=u/\V.getD k 0=0):=⟨hu,N⟩;have HL:Hid (I%4294967296=I):=E7 D6;clear hu N gU hl Y hv E a9 bh er ed
     rcases Int.lt_or_le (u-I-M) 0 with ht | ht
     .
      go_wp2
      go_roundw
      case rel=>
       have R:=HR.out;have S:=jC (q:=qv) (V:=V) (s:=I) (t:=u-I-M) (x:=u-I-M+4294967296) (b':=1) R.1 R.2.2 (by rw[HX.out.2]; omega) (by rw[HX.out.1,HL.out]) D6;refine⟨k+1,xs ++ [u-I-M+4294967296],1,(I) / 4294967296,by omega,by go_num,rfl,by go_num,by omega,by omega,by omega,by omega,by omega,by rw[List.length_append,R.1]; rfl,zX R.2.1 D6 D6,S,?_,xT HG.out _ _⟩;refine HK.out.aW ?_
       try rw[show (u-I-M+4294967296)%4294967296=u-I-M+4294967296 by omega]
       exact qF Z.out.1 R.1 (by have:=Z.out.2.1; omega) _
      case measure=>simp[intOf]; omega
     .
      go_wp2
      go_roundw
      case rel=>
       have R:=HR.out;have S:=jC (q:=qv) (V:=V) (s:=I) (t:=u-I-M) (x:=u-I-M) (b':=0) R.1 R.2.2 (by rw[HX.out.2]; omega) (by rw[HX.out.1,HL.out]) D6;refine⟨k+1,xs ++ [u-I-M],0,(I) / 4294967296,by omega,by go_num,rfl,by go_num,by omega,by omega,by omega,by omega,by omega,by rw[List.length_append,R.1]; rfl,zX R.2.1 D6 D6,S,?_,xT HG.out _ _⟩;refine HK.out.aW ?_
       try rw[show (u-I-M)%4294967296=u-I-M by omega]
       exact qF Z.out.1 R.1 (by have:=Z.out.2.1; omega) _
      case measure=>simp[intOf]; omega
   .
    have cx:k=m+3:=D6
    subst cx;have c3:=c2 rfl;subst c3
    have F:Hid (zj xs=zj U-qv*zj V+bp (m+3)*M/\xs.length=m+3/\yv xs):=by
     rw[List.take_of_length_le (by have:=Z.out.2.1; omega),List.take_of_length_le (by have:=Z.out.2.2; omega),Int.zero_add]at hv;exact⟨hv,hl,Y⟩
    have b9:ai wr g 172 (xG pre xs post):=by
     rw[List.drop_of_length_le (by have:=Z.out.2.1; omega),List.append_nil]at E;exact E
    clear hl Y hv E HK HR c2 hk h1
    go_wp2
    go_loopw [7,9,10,13] (fun q bo c i wr=>∃ (qw M:Int) (X:List Int),q = Ey Eg qw/\bo = Ey Ew M/\0<=M/\M<=1/\Q<=qw/\qw<4294967296/\X.length=m+3/\yv X/\
      zj X=zj U-qw*zj V+bp (m+3)*M/\ai wr g 172 (xG pre X post)/\w.grownBy wr (some g)) (fun q _ _ _ _=>(intOf q).toNat)
    case atStart=>exact⟨qv,M,xs,rfl,rfl,b0,b1,a1,a3,F.out.2.1,F.out.2.2,F.out.1,b9,a9⟩
    case round=>
     obtain⟨qw,bw,X,rfl,rfl,d0,d1,d2,d3,e1,e2,e3,e4,e5⟩:=hrel;clear F b9 HG;have F:Hid (X.length=m+3/\yv X/\zj X=zj U-qw*zj V+bp (m+3)*bw):=⟨e1,e2,e3⟩;have L0:=zG e2;have L1:=yO e2;rw[e1]at L1
     rcases(show bw=0\/bw=1 by omega)with cN | cN
     .
      subst cN
      have hq:qw=Q:=by
       rcases Int.lt_or_le Q qw with h | h
       .
        have h1:=Int.mul_le_mul_of_nonneg_right (show Q+1<=qw by omega) (show 0<=zj V by have:=HQ.out.2.2.2.2; omega);rw[Int.add_mul,Int.one_mul]at h1;have:=HQ.out.2.2.2.1;rw[Int.mul_zero]at e3;omega
       . omega
      subst hq;have F2:Hid (zj X=zj U-qw*zj V):=by rw[Int.mul_zero,Int.add_zero]at e3; exact e3
      clear L0 L1 e3
      go_wp2
      go_returns
      exact⟨X,yE (by first | rfl | omega),e1,e2,F2.out,e4,e5⟩
     .
      subst cN
      have hq:Q<qw:=by
       rcases Int.lt_or_le Q qw with h | h
       . exact h
       .
        have h1:=Int.mul_le_mul_of_nonneg_right h (show 0<=zj V by have:=HQ.out.2.2.2.2; omega);have:=HQ.out.2.2.1;rw[Int.mul_one]at e3;omega
      have B1:ai wr g 172 (xG pre ([]++X.drop 0) post):=e4;clear L0 L1 e1 e2 e3
      go_wp2
      go_loopw [10,13] (fun c i wr=>∃ (k:Nat) (ys:List Int) (I:Int),k<=m+3/\i = Ey Ew k/\c = Ey Eg I/\0<=I/\I<=1/\ys.length=k/\yv ys/\
        zj ys+bp k*I=zj (X.take k)+zj (V.take k)/\ai wr g 172 (xG pre (ys++X.drop k) post)/\w.grownBy wr (some g)) (fun _ i _=>m+3-(intOf i).toNat)
      case atStart=>exact⟨0,[],0,Nat.zero_le _,rfl,rfl,by omega,by omega,rfl,z6,by simp[zj],B1,e5⟩
      case round=>
       obtain⟨k,ys,I,hk,rfl,rfl,c0,c1,hl,Y,hv,E,a9⟩:=hrel;have HR:Hid (ys.length=k/\yv ys/\zj ys+bp k*I=zj (X.take k)+zj (V.take k)):=⟨hl,Y,hv⟩;have HG:=E7 a9;have HK:=E7 E;clear B1 e4
       rcases Er k (m+3)with h1 | h1
       .
        obtain⟨u,hu⟩:∃x,X.getD k 0=x:=⟨_,rfl⟩;obtain⟨v,N⟩:∃x,V.getD k 0=x:=⟨_,rfl⟩;have u0:=zI F.out.2.1 k;have v0:=zI bg k;rw[hu]at u0;rw[N]at v0
        have gU:(ys++X.drop k).getD k 0=u:=by
         rw[<- hu];simp only[List.getD];rw[List.getElem?_append_right D6,hl,Nat.sub_self,List.getElem?_drop,Nat.add_zero]
        have g1:wr.cell? ⟨g,j+k,none⟩=some (Ey Eu u):=by
         rw[<- gU];exact E.c _ (xm Z.out.1 (by rw[List.length_append,List.length_drop,hl]; have:=F.out.1; omega))
        have g2:wr.frozen? ⟨g,j+k,none⟩=false:=E.fr _
        rcases Er k (m+2)with h2 | h2
        .
         have g3:=(HV.out.grown a9 hb dx) k (by have:=Z.out.2.2; omega);rw[N]at g3;have HX:Hid (X.getD k 0=u/\V.getD k 0=v):=⟨hu,N⟩;clear hu N gU hl Y hv E a9
         go_wp2
         go_roundw
         case rel=>
          have R:=HR.out;have S:=qr (s:=I+u+v) R.1 R.2.2 (by rw[HX.out.1,HX.out.2]; omega);refine⟨k+1,ys ++ [(I+u+v)%4294967296],(I+u+v) / 4294967296,by omega,by go_num,by go_num,by omega,by omega,by rw[List.length_append,R.1]; rfl,zX R.2.1 D6 D6,S,?_,xT HG.out _ _⟩;exact HK.out.aW (qF Z.out.1 R.1 (by have:=F.out.1; omega) _)
         case measure=>simp[intOf]; omega
        .
         have d9:v=0:=by rw[<- N]; have:=Z.out.2.2; simp[List.getD,List.getElem?_eq_none (show V.length<=k by omega)]
         subst d9;have HX:Hid (X.getD k 0=u/\V.getD k 0=0):=⟨hu,N⟩;clear hu N gU hl Y hv E a9
         go_wp2
         go_roundw
         case rel=>
          have R:=HR.out;have S:=qr (s:=I+u) R.1 R.2.2 (by rw[HX.out.1,HX.out.2]; omega);refine⟨k+1,ys ++ [(I+u)%4294967296],(I+u) / 4294967296,by omega,by go_num,by go_num,by omega,by omega,by rw[List.length_append,R.1]; rfl,zX R.2.1 D6 D6,S,?_,xT HG.out _ _⟩;exact HK.out.aW (qF Z.out.1 R.1 (by have:=F.out.1; omega) _)
         case measure=>simp[intOf]; omega
       .
        have cx:k=m+3:=D6
        subst cx
        have F3:Hid (zj ys+bp (m+3)*I=zj X+zj V/\ys.length=m+3/\yv ys):=by
         rw[List.take_of_length_le (by have:=F.out.1; omega),List.take_of_length_le (by have:=Z.out.2.2; omega)]at hv;exact⟨hv,hl,Y⟩
        have b9:ai wr g 172 (xG pre ys post):=by
         rw[List.drop_of_length_le (by have:=F.out.1; omega),List.append_nil]at E;exact E
        clear hl Y hv E HK HR hk h1
        go_wp2
        go_roundw
        case rel=>
         have e1:=F.out.2.2;have e2:=F3.out.1;refine⟨qw-1,1-I,ys,rfl,rfl,by omega,by omega,by omega,by omega,F3.out.2.1,F3.out.2.2,?_,b9,HG.out⟩;rw[Int.sub_mul,Int.mul_sub];omega
        case measure=>simp[intOf]; omega
theorem Uu (w:Ef) (J:aA w a (zp A)) (hd:aA w d (zp D)) (Y:0<=A) (D0:1<=D) (Z:(zp A).length<=aD) (nD:(zp D).length<=aD) (H:A<D) :
  Ee Ed 157 #[a,d] w fun e E=>∃q r,e = Eh (.tuple #[q,r])/\aA E q (zp (A / D))/\aA E r (zp (A%D))/\zf w E:=by
 have hc:zM A D = -1:=by unfold zM; rw[E_ D6,E9 H]
 have cc:Ee Ed 85 #[a,d] w fun e E=>e = Eh (Ey Ew (-1))/\zf w E:=by
  have:=qJ w J hd Y D6 Z nD;rw[hc]at this;exact this
 have tt:∀E,zf w E->Ee Ed 170 #[a] E fun e M=>∃v,e = Eh v/\aA M v (zp A)/\zf E M:=fun E h=>by
  have:=Yg E (J.ae h) Z;rw[xR]at this;exact this
 have q0:Hid (A / D=0/\A%D=A):=⟨Int.ediv_eq_zero_of_lt Y H,Int.emod_eq_of_lt Y H⟩;obtain⟨aa,ca,rfl⟩:=J.ak;obtain⟨ad,cd,rfl⟩:=hd.ak;clear J hd hc
 go_enter Tryz.func157,Tryz.ntmps157
 go_wp2_with (first
  | (go_at_call 85; refine cc.mono ?_; rintro e w1 ⟨rfl,I⟩; have T:=tt w1 I)
  | (go_at_call 170; refine T.mono ?_; rintro e M ⟨v2,rfl,N,X⟩))
 go_returns
 refine⟨_,_,rfl,?_,?_,zA I (Ep _) X⟩
 . rw[q0.out.1]; exact aA.nil _
 . rw[q0.out.2]; exact N
theorem VA (w:Ef) (M:aA w a (zp A)) (hd:aA w d (zp D)) (A0:0<=A) (D0:1<=D) (nA:(zp A).length<=aD) (nD:(zp D).length=1) (be:D<=A) :
  Ee Ed 157 #[a,d] w fun e E=>∃q r,e = Eh (.tuple #[q,r])/\aA E q (zp (A / D))/\aA E r (zp (A%D))/\zf w E:=by
 obtain⟨c,hc⟩:∃c,zM A D=c:=⟨_,rfl⟩
 have c0:0<=c:=by
  rw[<- hc]; unfold zM
  split
  . omega
  . rw[E_ D6]; omega
 have cc:Ee Ed 85 #[a,d] w fun e E=>e = Eh (Ey Ew c)/\zf w E:=by
  have:=qJ w M hd A0 D6 nA (by unfold aD; omega);rw[hc]at this;exact this
 have hD:zp D = [D]/\D<4294967296:=by
  match h:zp D,nD with
  | [x],_=>
   have X:=zE (show 0<=D by omega);have e2:=xr D;rw[h]at X e2;simp[zj]at X;subst X;exact⟨rfl,(zZ.1 e2).1.2⟩
 rw[hD.1]at hd
 have tt:∀E,zf w E->Ee Ed 181 #[a,Ey Eu D] E fun e J=>∃q r,e = Eh (.tuple #[q,r])/\aA J q (zp (A / D))/\aA J r (zp (A%D))/\zf E J:=fun E h=>by
  have:=G7 E (M.ae h) nA D0 hD.2;rw[zE A0]at this;exact this
 obtain⟨aa,ca,rfl⟩:=M.ak;obtain⟨ad,cd,rfl⟩:=hd.ak;obtain⟨od,-,ld,N⟩:=hd.cells;simp only[List.length_cons,List.length_nil,Nat.zero_add]at ld N cc|-;obtain⟨bd,ah,rfl,Y,I⟩:=N D6;have g0:=I 0 D9;simp only[Nat.add_zero,List.getD_cons_zero]at g0;clear M hd hc I N od
 go_enter Tryz.func157,Tryz.ntmps157
 go_wp2_with (first
  | (go_at_call 85; refine cc.mono ?_; rintro e w1 ⟨rfl,H⟩; have b9:=tt w1 H; have g1:=(H.cell (p:=⟨bd,ah,none⟩) Y).trans g0)
  | (go_at_call 181; refine b9.mono ?_; rintro e J ⟨q2,r2,rfl,a9,Z,T⟩))
 go_returns
 exact⟨_,_,rfl,a9,Z,zA H (Ep _) T⟩
theorem wrap_u32 {x:Int} (h0:0<=x) (E:x<4294967296):IntKind.u32.wrap x=x:=by
 rw[IntKind.wrap_u32]; omega
theorem Zj (hc:zS l=l) (h:l.length=k+1):l.getD k 0≠0:=by
 have E:l≠ []:=by rintro rfl; cases h
 have:=Jp hc E;rw[List.getLast_eq_getElem]at this;simpa[List.getD,h]using this
theorem vF {E:Nat} {e:TypeId} {v:Ei} {n:Nat} (h:w.ownsRow E e 1 v n (zK l)) (I:0<n) :
  ∃g cap post,v = Ex (some ⟨g,0,none⟩) n cap/\E<=g/\n<=cap/\ai w g e (xG [] l post):=by
 obtain⟨J,H⟩:=h
 rcases H with⟨_,H⟩ | ⟨g,cap,cur,rfl,hg,hh,hnc,hm,hs,ht⟩
 . omega
 .
  refine⟨g,cap,cur.toList.drop n,rfl,hg,hnc,?_⟩;unfold ai xG;rw[<- ht,Nat.mul_one,List.nil_append,List.take_append_drop];exact hh
theorem Cells.set {i:Nat} {u:Ei} (h:Cells w b o l) (E:b≠g):Cells (w.setCell ⟨g,i,none⟩ u) b o l:=
 fun t ht=>(World.cell?_of_block (a:=⟨b,o+t,none⟩) (Below.heap_setCell w ⟨g,i,none⟩ u b E)).trans (h t ht)
theorem Y9 (U:List Int) (j n:Nat) (post:List Ei):xG [] U post=xG (zK (U.take j)) ((U.drop j).take n) (zK (U.drop (j+n))++post):=by
 have e:U=U.take j++((U.drop j).take n++U.drop (j+n)):=by
  rw[<- List.drop_drop,List.take_append_drop,List.take_append_drop]
 conv=>lhs; rw[e]
 simp[xG,zK]
theorem Qc (T S R:List Int) (post:List Ei):xG (zK T) S (zK R++post)=xG [] (T++(S++R)) post:=by simp[xG,zK]
theorem Js (w:Ef) (ha:aA w a (zp A)) (hd:aA w d (zp D)) (A0:0<=A) (D0:1<=D) (nA:(zp A).length<=aD) (nD:(zp D).length=m+2) (gK:D<=A) :
  Ee Ed 157 #[a,d] w fun e T=>∃q r,e = Eh (.tuple #[q,r])/\aA T q (zp (A / D))/\aA T r (zp (A%D))/\zf w T:=by
 obtain⟨i0,hi,gA,gB,gn⟩:=info_parts ZA
 have dk:m+2<=(zp A).length:=by
  rcases Er (zp A).length (m+2)with h | h
  . have:=ye A0 (show 0<=D by omega) D6; omega
  . exact h
 obtain⟨K,hK⟩:∃K,(zp A).length+1=K+(m+2):=⟨(zp A).length+1-(m+2),by omega⟩;obtain⟨c,hc⟩:∃c,zM A D=c:=⟨_,rfl⟩
 have c0:0<=c:=by
  rw[<- hc]; unfold zM
  split
  . omega
  . rw[E_ D6]; omega
 have cc:Ee Ed 85 #[a,d] w fun e T=>e = Eh (Ey Ew c)/\zf w T:=by
  have:=qJ w ha hd A0 D6 nA D6;rw[hc]at this;exact this
 have vD:=zE (show 0<=D by omega);have vA:=zE A0;have oD:=xr D;have oA:=xr A;have tD:=Zj (xR D) nD;obtain⟨Dl,cn⟩:∃l,zp D=l:=⟨_,rfl⟩;obtain⟨Al,ed⟩:∃l,zp A=l:=⟨_,rfl⟩;rw[cn]at hd vD oD tD nD;rw[ed]at ha vA oA nA hK dk;obtain⟨t,ht⟩:∃t,Dl.getD (m+1) 0=t:=⟨_,rfl⟩;have t0:=zI oD (m+1);rw[ht]at t0 tD;have la:=hd;obtain⟨aa,ca,rfl⟩:=ha.ak;obtain⟨ad,cd,rfl⟩:=hd.ak;obtain⟨-,-,ld,fd⟩:=hd.cells;obtain⟨bd,f7,rfl,gD,g8⟩:=fd D6;have g0:=g8 (m+1) D6;rw[ht]at g0;have HA:=E7 ha;have HD:=E7 hd;obtain⟨nl,E⟩:∃n,Al.length=n:=⟨_,rfl⟩;have M:Hid (zj Dl=D/\zj Al=A/\yv Dl/\yv Al/\Dl.length=m+2/\Al.length=nl/\Dl.getD (m+1) 0=t):=⟨vD,vA,oD,oA,nD,E,ht⟩;rw[E]at nA dk hK cc HA|-;rw[nD]at ld cc HD|-;have gJ:=E7 cn;clear la ha hd fd g8 vD vA oD oA nD E ht cn ed hc;unfold aD at nA
 go_enter Tryz.func157,Tryz.ntmps157
 go_wp2_with (go_at_call 85; refine cc.mono ?_; rintro e w1 ⟨rfl,a9⟩; have g1:=(a9.cell (p:=⟨bd,f7+(m+1),none⟩) gD).trans g0)
 go_loopw [7] (fun s wr=>∃sv:Nat,s = Ey Eg sv/\t*2^sv<4294967296/\sv<=31/\wr=w1) (fun s _=>(32-intOf s).toNat)
 case atStart=>exact⟨0,rfl,by simpa using t0.2,by omega,rfl⟩
 case round=>
  obtain⟨sv,rfl,s0,s1,rfl⟩:=hrel;obtain⟨p,hp⟩:∃p,t*2^sv=p:=⟨_,rfl⟩;have p0:0<=p:=by rw[<- hp]; exact Int.mul_nonneg t0.1 (Int.le_of_lt (Int.pow_pos D6))
  have hw:IntKind.u32.wrap (t*2^sv)=p:=by rw[hp,wrap_u32 p0 D6]
  rcases Int.lt_or_le p 2147483648 with Z | Z
  .
   have s2:sv+1<=31:=by
    rcases Er sv 31 with h | h
    . omega
    .
     exfalso
     have e:sv=31:=D6
     subst e;have:=Int.mul_le_mul_of_nonneg_right (show 1<=t by omega) (show (0:Int)<=2^31 by decide);rw[hp]at this;simp at this;omega
   have s3:Hid (t*2^(sv+1)<4294967296):=by
    show t*2^(sv+1)<4294967296
    rw[Int.pow_succ,<- Int.mul_assoc,hp]; omega
   clear hp s0
   go_wp2
   go_roundw
   case rel=>exact⟨sv+1,by go_num,s3.out,by omega,by first | rfl | trivial⟩
   case measure=>simp[intOf]; omega
  .
   obtain⟨P,hP⟩:∃P,((2^sv:Nat):Int)=P:=⟨_,rfl⟩;have P0:1<=P:=by have:=Nat.one_le_two_pow (n:=sv); omega
   have P1:P<=2147483648:=by have:=Nat.pow_le_pow_right (show 0<2 by omega) s1; simp at this; omega
   have PQ:P*((2^(32-sv):Nat):Int)=4294967296:=by
    rw[<- hP,<- Int.natCast_mul,<- Nat.pow_add,show sv+(32-sv)=32 by omega]; decide
   have tP:t*P=p:=by rw[<- hp,<- hP]; simp
   have HN:=E7 (fun(L:List Int) (oL:yv L) (lL:L.length=m+3) (hL:zj L=zj Dl*P)=>X' M.out.2.2.1 M.out.2.2.2.2.1 oL lL hL P0 PQ (by rw[M.out.2.2.2.2.2.2,tP]; exact Z) (by rw[M.out.2.2.2.2.2.2,tP,<- hp]; exact s0));have HP:=E7 (E8 hP PQ)
   have eW:Ee Ed 182 #[Ex (some ⟨bd,f7,none⟩) (m+2) cd,Ey Eg sv] wr fun e T=>∃g cap post L,e = Eh (Ex (some ⟨g,0,none⟩) (m+3) cap)/\wr.heap.size<=g/\m+3<=cap/\yv L/\L.length=m+3/\zj L=zj Dl*P/\ai T g 172 (xG [] L post)/\zf wr T:=by
    refine(GL wr (HD.out.ae a9) (by have:=M.out.2.2.2.2.1; unfold aD; omega) s1).mono ?_;rintro e T ⟨v,L,rfl,Z,h2,h3,h4,h5⟩;rw[M.out.2.2.2.2.1]at h3 h4;obtain⟨g,cap,post,rfl,k1,k2,k3⟩:=vF h4 D6;exact⟨g,cap,post,L,rfl,k1,k2,Z.ok,h3,by rw[h2,hP],k3,h5⟩
   have fl:∀w2,zf wr w2->Ee Ed 182 #[Ex aa nl ca,Ey Eg sv] w2 fun e T=>∃g cap post L,e = Eh (Ex (some ⟨g,0,none⟩) (K+(m+2)) cap)/\w2.heap.size<=g/\K+(m+2)<=cap/\yv L/\L.length=K+(m+2)/\zj L=zj Al*P/\ai T g 172 (xG [] L post)/\zf w2 T:=fun w2 hs=>by
    refine(GL w2 ((HA.out.ae a9).ae hs) (by have:=M.out.2.2.2.2.2.1; unfold aD; omega) s1).mono ?_;rintro e T ⟨v,L,rfl,Z,h2,h3,h4,h5⟩;rw[M.out.2.2.2.2.2.1]at h3 h4;rw[hK]at h3 h4;obtain⟨g,cap,post,rfl,k1,k2,k3⟩:=vF h4 D6;exact⟨g,cap,post,L,rfl,k1,k2,Z.ok,h3,by rw[h2,hP],k3,h5⟩
   have gr:=xK K D6;clear hp hP PQ tP s0 g0 t0 tD
   go_wp2_with (first
    | (go_at_call 182; refine eW.mono ?_; clear eW; rintro e w2 ⟨gv,capv,gE,Lv,rfl,gM,gH,ov,lv,vv,bv,br⟩; have ft:=fl w2 br)
    | (go_at_call 182; refine ft.mono ?_; clear ft fl; rintro e X ⟨gu,capu,I,Lu,rfl,gG,gL,ou,lu,vu,bu,bt⟩))
   have NT:=HN.out Lv ov lv vv;obtain⟨J,bf⟩:∃l,Lv.take (m+2)=l:=⟨_,rfl⟩;rw[bf]at NT;have bl:yv J:=by rw[<- bf]; exact z8 ov _
   have lV:J.length=m+2:=by rw[<- bf,List.length_take]; omega
   have d9:Cells w2 gv 0 J:=fun t ht=>by
    rw[lV]at ht;rw[bv.cell,xm (j:=0) rfl D6,<- bf];simp[List.getD,List.getElem?_take,ht]
   have dy:gv<w2.heap.size:=bv.lt;have dl:Cells X gv 0 J:=d9.below bt dy;obtain⟨W3,bh⟩:∃W,X.alloc (.cells (madeCells #[Ey Eu 0] K) 172)=W:=⟨_,rfl⟩;have SW:zf X W3:=by rw[<- bh]; exact(Fz _ _).alloc (Ep _) _
   have K0:ai W3 X.heap.size 172 (zK (List.replicate K 0 ++ [])).toArray:=by
    have:=ai.new X 172 (madeCells #[Ey Eu 0] K);rw[bh,yC,<- List.append_nil (List.replicate K (0:Int))]at this;exact this
   have ec:ai W3 gu 172 (xG [] Lu I):=bu.ae SW;have dx:Cells W3 gv 0 J:=dl.below SW (Nat.lt_of_lt_of_le dy bt.size);have BW:Below w.heap.size w W3:=zA (zA (zA a9 (Ep _) br) (Ep _) bt) (Ep _) SW;have gq:X.heap.size<W3.heap.size:=K0.lt;have gF:gu<X.heap.size:=bu.lt;have z1:=a9.size;have z2:=br.size
   have start:zj (Lu.drop K)<zj J:=by
    refine Yf (la:=nl) (A:=A) (P:=P) ou lu hK (by rw[vu,M.out.2.1]) ?_ A0 P0 P1 (by rw[NT.1]; exact NT.2.2);have:=yO M.out.2.2.2.1;rw[M.out.2.1,M.out.2.2.2.2.2.1]at this;exact this
   have vV:zj J<bp (m+2):=by have:=yO bl; rwa[lV]at this
   have HS:=E7 (E8 NT (E8 vu (E8 bl (E8 lV vV))));have dP:=E7 lu;rw[bh];clear gr bf d9 dl bv bu NT lv lu vv vu HN ov bh SW bl lV vV
   go_loopw [11] (fun jv wr=>∃ (k:Nat) (H qs:List Int),k<=K/\jv = Ey Ew ((k:Int)-1)/\yv H/\H.length=K+(m+2)/\yv qs/\qs.length+k=K/\zj H+zj J*(bp k*zj qs)=zj Al*P/\zj (H.drop k)<zj J/\
     ai wr gu 172 (xG [] H I)/\ai wr X.heap.size 172 (zK (List.replicate k 0++qs)).toArray/\Cells wr gv 0 J/\Below w.heap.size w wr) (fun j _=>(intOf j+1).toNat)
   case atStart=>exact⟨K,Lu,[],Ep _,by go_num,ou,dP.out,z6,by simp,by simp[zj]; exact HS.out.2.1,start,ec,K0,dx,BW⟩
   case round=>
    obtain⟨k,H,qs,hk,cy,oU,lU,oq,lq,vq,dq,Y,bg,cx,ci⟩:=hrel;clear start ec K0 dx BW
    rcases Nat.eq_zero_or_pos k with rfl | hp
    .
     rename Ef=>w4;have f8:=cy.trans (show Value.int Ew (((0:Nat):Int)-1)=Value.int Ew (-1) from rfl);clear cy;subst f8;have bi:qs.length=K:=D6
     rw[kD,Int.one_mul]at vq;rw[List.drop_zero]at dq
     have cZ:aA w4 (Ex (some ⟨X.heap.size,0,none⟩) K K) qs:=by
      have:=aA.a_ bg oq;rw[List.replicate_zero,List.nil_append,bi]at this;exact this
     have e0:=zG oU;have DP:zj J=D*P:=by rw[HS.out.1.1,M.out.1]
     have hP:=HP.out;obtain⟨W,hW⟩:∃W,A%D=W:=⟨_,rfl⟩
     have QR:A / D=zj qs/\zj H=W*P:=by
      have Z:=jM (A:=A*P) (D:=D*P) (q:=zj qs) (r:=zj H) (by rw[<- DP]; rw[M.out.2.1]at vq; omega) e0 (by rw[<- DP]; exact dq);rw[Int.mul_ediv_mul_of_pos_left _ _ D6]at Z;have h2:=Int.mul_ediv_add_emod A D;have h3:A*P=(D*(A / D)+A%D)*P:=by rw[h2]
      rw[Int.add_mul,Int.mul_right_comm,hW,Z.1]at h3;rw[M.out.2.1,DP]at vq;exact⟨Z.1,by omega⟩
     have TA:=Ye (n:=m+2) oU D6 (by have:=HS.out.2.2.2.2; omega);obtain⟨R,hR⟩:∃R,H.take (m+2)=R:=⟨_,rfl⟩;have eM:yv R:=by rw[<- hR]; exact z8 oU _
     have lR:R.length=m+2:=by rw[<- hR,List.length_take]; omega
     have vR:zj R=W*P:=by rw[<- hR,TA.1,QR.2]
     have cR:∀t,t<m+2->w4.cell? ⟨gu,t,none⟩=some (Ey Eu (R.getD t 0)):=fun t ht=>by
      have h:=xm (post:=I) (j:=0) (pre:= []) (t:=t) (U:=H) rfl D6;rw[Nat.zero_add]at h;rw[Y.c t h,<- hR];simp[List.getD,List.getElem?_take,ht]
     have cN:gu<w4.heap.size:=Y.lt;have HE:=E7 (E8 QR.1 (E8 oq (E8 bi (E8 eM (E8 lR vR)))));have HW:=E7 hW;clear oU lU oq lq bi vq dq Y bg cx TA hR eM lR vR QR DP e0 HS dP
     go_wp2
     go_loopw [13,14,15] (fun o i x wr=>∃ (k:Nat),k<=m+2/\i = Ey Ew k/\wr.ownsRow w4.heap.size 172 1 o k (zK (Y4 k W))/\Below w4.heap.size w4 wr) (fun _ i _ _=>m+2-(intOf i).toNat)
     case atStart=>exact⟨0,Nat.zero_le _,rfl,World.ownsRow_nil _ _ _ _,Fz _ _⟩
     case round=>
      obtain⟨k,hk,rfl,be,E⟩:=hrel;have BL:=Vz (R:=R) (k:=k) HE.out.2.2.2.1 (P:=P) (Q:=((2^(32-sv):Nat):Int));have ey:(2:Int)^sv=P:=by rw[<- HP.out.1]; simp
      obtain⟨u,hu⟩:∃x,R.getD k 0=x:=⟨_,rfl⟩;obtain⟨v,hv⟩:∃x,R.getD (k+1) 0=x:=⟨_,rfl⟩;have u0:=zI HE.out.2.2.2.1 k;have v0:=zI HE.out.2.2.2.1 (k+1);rw[hu]at u0;rw[hv]at v0
      have S0:k<m+2->Hid ((u+v*4294967296) / 2^sv%4294967296=W / bp k%4294967296):=fun h=>by
       have:=BL (by have:=HE.out.2.2.2.2.1; omega) P0 HP.out.2;rw[HE.out.2.2.2.2.2,Int.mul_ediv_cancel _ D6,hu,hv]at this;rw[ey];exact this
      clear BL ey
      rcases Er k (m+2)with cg | cg
      .
       have S:=S0 cg;have g2:=(E.cell (p:=⟨gu,k,none⟩) cN).trans (cR k cg);rw[hu]at g2
       rcases Er (k+1) (m+2)with f9 | f9
       focus
        have g3:=(E.cell (p:=⟨gu,k+1,none⟩) cN).trans (cR (k+1) f9);rw[hv]at g3
       rotate_left
       focus
        have gC:v=0:=by rw[<- hv]; have:=HE.out.2.2.2.2.1; simp[List.getD,List.getElem?_eq_none (show R.length<=k+1 by omega)]
        subst gC;rw[Int.zero_mul,Int.add_zero]at S
       rotate_left
       all_goals
        clear cR hu hv S0
        go_wp2_with (at_builtin; refine ym rfl (.tmp 101) (.tmp 106) 24 rfl w4.heap.size 172 i0 Tryz.underlying24 hi gA gB gn _ k (Y4 k W) rfl (be.alloc _) _ [_] rfl (aA.one (Int.emod_nonneg _ D8) (Int.emod_lt_of_pos _ D8)) (by simp; omega) (by rw[World.size_alloc]; have:=E.size; omega) ?_)
        intro v' w5 b9 gd gz
        go_wp2
        go_roundw
        case rel=>
         rw[S.out]at b9;exact⟨k+1,by omega,by go_num,by rw[Uo]; exact b9,(E.alloc E.size _).grown gd (by rw[World.size_alloc]; have:=E.size; omega) gz⟩
        case measure=>simp[intOf]; omega
      .
       clear cR hu hv S0;have gi:k=m+2:=D6
       subst gi
       have vW:zj (Y4 (m+2) W)=W:=by
        refine Yb ?_ ?_
        . rw[<- HW.out]; exact Int.emod_nonneg _ D6
        .
         have Z:=Int.emod_lt_of_pos A (show 0<D by omega);rw[HW.out]at Z;have h2:=yO M.out.2.2.1;rw[M.out.1,M.out.2.2.2.2.1]at h2;omega
       have gt:=Ya (m+2) W;have em:=E7 (E8 vW (XB (m+2) W));have Lr:=aA.own be (XB (m+2) W);have Lq:=cZ.ae E;have lq:qs.length<=aD:=by have:=HE.out.2.2.1; unfold aD; omega
       have lr:(Y4 (m+2) W).length<=aD:=by unfold aD; omega
       clear vW gt cZ be
       go_wp2_with (first
        | (go_at_call 170; refine(Yg _ Lq lq).mono ?_; clear Lq; rintro e w6 ⟨v6,rfl,gp,dt⟩; have g9:=Lr.ae dt)
        | (go_at_call 170; refine(Yg _ g9 lr).mono ?_; clear g9; rintro e w7 ⟨v7,rfl,gj,eS⟩))
       go_returns
       have fe:=HE.out;refine⟨_,_,rfl,?_,?_,zA (zA (zA ci (Ep _) E) (Ep _) dt) (Ep _) eS⟩
       .
        rw[fe.1,yj fe.2.1];exact gp.ae eS
       .
        rw[HW.out];have:=yj em.out.2;rw[em.out.1]at this;rw[this];exact gj
    .
     obtain⟨j,rfl⟩:∃j,k=j+1:=⟨k-1,by omega⟩;subst cy;have gI:¬capu=j:=D6
     have HU:=E7 (E8 oU (E8 lU (E8 oq (E8 lq (E8 vq dq)))));clear oU lU oq lq vq dq
     have dc:Ee Ed 183 #[Ex (some ⟨gu,j,none⟩) (j+(m+2)+1-j) (capu-j),Ex (some ⟨gv,0,none⟩) (m+2) capv] wr fun e T=>∃ (x:Int) (Un:List Int),e = Eh (Ey Eu x)/\0<=x/\x<4294967296/\
       Hid (yv Un/\Un.length=K+(m+2)/\zj Un+zj J*(bp j*zj (x::qs))=zj Al*P/\zj (Un.drop j)<zj J)/\
       ai T gu 172 (xG [] Un I)/\wr.grownBy T (some gu):=by
      obtain⟨o1,o2,o3,o4,o5,o6⟩:=HU.out;have S:=Y6 (m:=m) o1 D6 HS.out.2.2.2.2 o6;have lT:(H.take j).length=j:=by rw[List.length_take]; omega
      have gk:=HS.out.1.2.1
      have C:=G8 (m:=m) (pre:=zK (H.take j)) (post:=zK (H.drop (j+(m+3)))++I) (U:=(H.drop j).take (m+3)) (V:=J) (g:=gu) (j:=j) (b:=gv) (o:=0) (capu:=capu-j) (capv:=capv) wr
       (by rw[<- Y9]; exact Y) (by rw[yF]; exact lT) (by rw[List.length_take,List.length_drop]; omega) (z8 (xJ o1 _) _) cx HS.out.2.2.2.1 HS.out.2.2.1 (Nat.lt_trans D6 Y.lt) D6 (by unfold aD; omega) gk S.1
      rw[show j+(m+2)+1-j=m+3 by omega];refine C.mono ?_;rintro e T ⟨U',rfl,k1,k2,k3,k4,k5⟩;rw[S.2.1]at k3|-;have p1:=xO (m+1);have er:0<zj J:=by rw[HS.out.1.1]; have:=HS.out.1.2.2; omega
      have e0:=Int.mul_ediv_add_emod (zj (H.drop j)) (zj J);have n0:=zG (xJ o1 j);have q0:0<=zj (H.drop j) / zj J:=Int.ediv_nonneg n0 D6;have q1:zj (H.drop j) / zj J<4294967296:=Int.ediv_lt_of_lt_mul er (by have:=S.1; rw[S.2.1,Int.mul_comm]at this; exact this);have m1:=Int.emod_lt_of_pos (zj (H.drop j)) er;have N:=Y7 (m:=m) (j:=j) (U:=H) (S:=U') (qs:=qs) (q:=zj (H.drop j) / zj J) (V:=zj J) k1 D6 S.2.2 o5 (by rw[k3,Int.mul_comm (zj (H.drop j) / zj J)]; omega) (by rw[k3]; exact m1);refine⟨_,H.take j++(U'++H.drop (j+(m+3))),rfl,q0,q1,⟨?_,?_,N.1,N.2⟩,?_,k5⟩
      . exact xj.2 ⟨z8 o1 _,xj.2 ⟨k2,xJ o1 _⟩⟩
      . rw[List.length_append,List.length_append,lT,k1,List.length_drop]; omega
      . rw[<- Qc]; exact k4
     go_wp2_with (go_at_call 183; refine dc.mono ?_; clear dc; rintro e wd ⟨x,Un,rfl,x0,x1,HN,ek,ce⟩; have ah:ai wd X.heap.size 172 (zK (List.replicate (j+1) 0++qs)).toArray:=(ce.block _ bg.lt (fun e=>by have:=Option.some.inj e; omega)).trans bg; have g2:wd.cell? ⟨X.heap.size,j,none⟩=some (Ey Eu 0):=ah.c _ (by simp[zK,List.getElem?_append,List.getElem?_replicate]); have g3:wd.frozen? ⟨X.heap.size,j,none⟩=false:=ah.fr _)
     go_roundw
     case rel=>
      obtain⟨o1,o2,o3,o4,o5,o6⟩:=HU.out;refine⟨j,Un,x::qs,by omega,rfl,HN.out.1,HN.out.2.1,zZ.2 ⟨⟨x0,x1⟩,o3⟩,by rw[List.length_cons]; omega,HN.out.2.2.1,HN.out.2.2.2,ek.aK D6,ah.aW (Yh j _ qs),(cx.grown ce (Nat.lt_trans D6 Y.lt) D6).set D6,?_⟩;exact(ci.grown ce ci.size (fun k hk=>by have:=Option.some.inj hk; omega)).setCell (p:=⟨X.heap.size,j,none⟩) (show w.heap.size<=X.heap.size by omega) _
     case measure=>simp[intOf]
end
end Go.Proofs.YtffmbepfbienaaaGreat
