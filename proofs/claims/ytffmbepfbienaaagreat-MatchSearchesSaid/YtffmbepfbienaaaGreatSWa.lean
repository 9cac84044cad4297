import Derived.Test.YtffmbepfbienaaaGreatSBits
import Derived.Deep.OwnRows
import Derived.Deep.CutBlock
set_option linter.unusedVariables false
set_option linter.unusedSimpArgs false
set_option maxHeartbeats 6400000
set_option maxRecDepth 1000000
open Go.Value renaming slice->Ex,int->Ey
open Go.IntKind renaming i64->Ew,u32->Eu,u64->Eg
open Go.Ending renaming returned->Eh
open Go.Proofs.Tryz renaming prog->Ec
open Go renaming Calls->Ed,World->Ee,Value->Ef
open Nat renaming le_refl->Eo,lt_or_ge->Ep
open Go.RowKit.Below renaming refl->Et
namespace Go.Proofs.YtffmbepfbienaaaGreat
section
open Go.RowKit
variable {x:Int} {A B l:List Int} {k:Nat} {a b:Ef}
def zP:Nat:=100000000
theorem qO {y:Int} (w:Ee) (ha:aA w a (zp x)) (hb:aA w b (zp y)) (hx:0<=x) (hy:0<=y) (nx:(zp x).length<=zP) (ny:(zp y).length<=zP) :
  Ed Ec 85 #[a,b] w fun e w'=>e = Eh (Ey Ew (zL x y))/\zf w w':=by
 obtain⟨aa,ca,rfl⟩:=ha.ak;obtain⟨ab,cb,rfl⟩:=hb.ak;obtain⟨oa,-,la,fa⟩:=ha.cells;obtain⟨ob,-,lb,fb⟩:=hb.cells;clear ha hb;unfold zP at nx ny;obtain⟨A,J⟩:∃A,zp x=A:=⟨_,rfl⟩;obtain⟨B,M⟩:∃B,zp y=B:=⟨_,rfl⟩;have vA:zo A=x:=by rw[<- J,zD hx]
 have vB:zo B=y:=by rw[<- M,zD hy]
 have Z:A.length<B.length->x<y:=fun h=>yn hx hy (by rw[J,M]; exact h);have a9:B.length<A.length->y<x:=fun h=>yn hy hx (by rw[J,M]; exact h);rw[J]at fa oa la nx;rw[M]at fb ob lb ny;rw[J,M];obtain⟨n,T⟩:∃n,A.length=n:=⟨_,rfl⟩;obtain⟨m,X⟩:∃m,B.length=m:=⟨_,rfl⟩;have H:Hid ((n<m->x<y)/\(m<n->y<x)/\zo A=x/\zo B=y/\A.length=n/\B.length=m):=⟨by rw[<- T,<- X]; exact Z,by rw[<- T,<- X]; exact a9,vA,vB,T,X⟩;rw[T]at fa la nx;rw[X]at fb lb ny;rw[T,X];clear Z a9 vA vB T X J M hx hy
 rcases Nat.lt_trichotomy n m with h | h | h
 .
  go_enter Tryz.func85,Tryz.ntmps85
  go_wp2
  go_returns
  have:=H.out.1 h;exact⟨yK (by unfold zL; rw[E9 D5,E8 this]),Et _ _⟩
 .
  subst h
  go_enter Tryz.func85,Tryz.ntmps85
  go_wp2
  go_loopw [5] (fun i wr=>∃k:Nat,k<=n/\i = Ey Ew ((k:Int)-1)/\zo (A.drop k)=zo (B.drop k)/\Below w.heap.size w wr) (fun i _=>(intOf i+1).toNat)
  case atStart=>exact⟨n,Eo _,by go_num,by rw[List.drop_of_length_le (by have:=H.out.2.2.2.2.1; omega),List.drop_of_length_le (by have:=H.out.2.2.2.2.2; omega)],Et _ _⟩
  case round=>
   obtain⟨k,hk,rfl,hd,I⟩:=hrel
   rcases Nat.eq_zero_or_pos k with rfl | hp
   .
    go_wp2
    go_returns
    have h1:=H.out.2.2.1;have h2:=H.out.2.2.2.1;simp only[List.drop_zero]at hd;exact⟨yK (by unfold zL; rw[E8 D5]),I⟩
   .
    obtain⟨j,rfl⟩:∃j,k=j+1:=⟨k-1,by omega⟩;obtain⟨ba,aX,rfl,aY,Y⟩:=fa D5;obtain⟨bb,be,rfl,b9,ah⟩:=fb D5;have g1:=(I.cell (p:=⟨ba,aX+j,none⟩) aY).trans (Y j (by rw[H.out.2.2.2.2.1]; omega));have g2:=(I.cell (p:=⟨bb,be+j,none⟩) b9).trans (ah j (by rw[H.out.2.2.2.2.2]; omega));obtain⟨u,hu⟩:∃u,A.getD j 0=u:=⟨_,rfl⟩;obtain⟨v,hv⟩:∃v,B.getD j 0=v:=⟨_,rfl⟩;rw[hu]at g1;rw[hv]at g2;have N:Hid (A.getD j 0=u/\B.getD j 0=v):=⟨hu,hv⟩;clear Y ah fa fb hu hv
    have E:Hid (zo (A.drop j)=u+4294967296*zo (A.drop (j+1))/\zo (B.drop j)=v+4294967296*zo (B.drop (j+1))):=by
     rw[<- N.out.1,<- N.out.2]; exact⟨yM A j,yM B j⟩
    have D:Hid (u<v->x<y):=fun h=>by
     have:=XP oa ob (i:=j) (by have:=H.out.2.2.2.2.1; omega) (by have:=H.out.2.2.2.2.2; omega) hd (by rw[N.out.1,N.out.2]; exact h);have h1:=H.out.2.2.1;have h2:=H.out.2.2.2.1;omega
    have D':Hid (v<u->y<x):=fun h=>by
     have:=XP ob oa (i:=j) (by have:=H.out.2.2.2.2.2; omega) (by have:=H.out.2.2.2.2.1; omega) hd.symm (by rw[N.out.1,N.out.2]; exact h);have h1:=H.out.2.2.1;have h2:=H.out.2.2.2.1;omega
    go_wp2
    go_quiet (fail)
    go_wp2
    .
     have hl:u<v:=by assumption
     go_returns
     have:=D.out hl;exact⟨yK (by unfold zL; rw[E9 D5,E8 this]),yX I _⟩
    .
     go_quiet (fail)
     go_wp2
     .
      have hl:v<u:=by assumption
      go_returns
      have:=D'.out hl;exact⟨yK (by unfold zL; rw[E9 D5,E9 D5]),yX (yX I _) _⟩
     .
      go_roundw
      case rel=>exact⟨j,by omega,by go_num,by have:=E.out; omega,by first | exact yX I _ | exact yX (yX I _) _⟩
      case measure=>simp[intOf]
 .
  go_enter Tryz.func85,Tryz.ntmps85
  go_wp2
  go_returns
  have:=H.out.2.1 h;exact⟨yK (by unfold zL; rw[E9 D5,E9 D5]),Et _ _⟩
theorem ZU:(Tryz.prog.info? 172).map (fun i=>(i.zero,i.size,i.bytes))=some (some (Ey Eu 0),1,4):=by kernel_rfl
theorem j9 (E:k<l.length) (h:l.getD k 0=0):zQ (l.take (k+1))=zQ (l.take k):=by
 rw[List.take_succ_eq_append_getElem E];have:l[k]=0:=by simpa[List.getD,E]using h
 rw[this,Z9]
theorem j_ (E:k<l.length) (h:l.getD k 0≠0):zQ (l.take (k+1))=l.take (k+1):=by
 rw[List.take_succ_eq_append_getElem E];refine kZ (List.append_ne_nil_of_right_ne_nil _ (List.cons_ne_nil _ _)) ?_;rw[List.getLast_append_of_ne_nil _ (List.cons_ne_nil _ _)];simpa[List.getD,E]using h
theorem Ys (w:Ee) (ha:aA w a l) (nl:l.length<=zP) :
  Ed Ec 170 #[a] w fun e w'=>∃v,e = Eh v/\aA w' v (zQ l)/\zf w w':=by
 obtain⟨i0,hi,Y,a9,ah⟩:=info_parts ZU;obtain⟨aa,ca,rfl⟩:=ha.ak;obtain⟨ol,-,la,fa⟩:=ha.cells;have HL:Hid (aA w (Ex aa l.length ca) l):=ha;clear ha;unfold zP at nl;obtain⟨n,hn⟩:∃n,l.length=n:=⟨_,rfl⟩;have H:Hid (l.length=n):=hn;rw[hn]at fa la nl;rw[hn];clear hn
 go_enter Tryz.func170,Tryz.ntmps170
 go_wp2
 go_loopw [3] (fun i wr=>∃k:Nat,k<=n/\i = Ey Ew k/\zQ (l.take k)=zQ l/\Below w.heap.size w wr) (fun i _=>(intOf i).toNat)
 case atStart=>exact⟨n,Eo _,rfl,by rw[List.take_of_length_le (by have:=H.out; omega)],Et _ _⟩
 case round=>
  obtain⟨k,hk,rfl,hd,E⟩:=hrel;have T:Hid (zQ (l.take k)=zQ l):=hd;clear hd
  have fin:zQ l=l.take k->aA (wr.alloc (.cells #[] 172)) (Ex aa k ca) (zQ l)/\(zQ l).length=k:=fun e=>by
   have h1:=H.out;rw[e];have:=HL.out;rw[H.out]at this;exact⟨(this.ae (E.alloc E.size _)).take D5,by rw[List.length_take]; omega⟩
  have K2:=E.size
  rcases Nat.eq_zero_or_pos k with rfl | hp
  .
   obtain⟨Z,X⟩:=fin (by rw[<- T.out]; rfl);have L0:=E6 Z;have L1:=E6 X;clear fin Z X
   go_wp2_with (at_builtin; refine yu rfl (.tmp 18) (.tmp 21) 24 rfl w.heap.size 172 i0 Tryz.underlying24 hi Y a9 ah _ 0 [] rfl (World.ownsRow_made wr #[] 0 K2 (Nat.zero_le _) rfl) _ (zQ l) rfl L0.out (by have:=L1.out; omega) D9 ?_)
   intro v' w1 I hg N;have M:=aA.own I (by simpa using vX ol)
   go_wp2
   go_returns
   exact⟨_,rfl,by simpa using M,(E.alloc K2 _).grown hg D9 N⟩
  .
   obtain⟨j,rfl⟩:∃j,k=j+1:=⟨k-1,by omega⟩;obtain⟨ba,aX,rfl,aY,J⟩:=fa D5;have g1:=(E.cell (p:=⟨ba,aX+j,none⟩) aY).trans (J j (by rw[H.out]; omega));obtain⟨u,hu⟩:∃u,l.getD j 0=u:=⟨_,rfl⟩;rw[hu]at g1;have HU:Hid (l.getD j 0=u):=hu;have hj:j<l.length:=by have:=H.out; omega
   rcases Int.decEq u 0 with b9 | rfl
   .
    obtain⟨Z,X⟩:=fin (by rw[<- T.out]; exact j_ hj (by rw[HU.out]; exact b9));have L0:=E6 Z;have L1:=E6 X;clear fin Z X J fa hu hj
    go_wp2_with (at_builtin; refine yu rfl (.tmp 18) (.tmp 21) 24 rfl w.heap.size 172 i0 Tryz.underlying24 hi Y a9 ah _ 0 [] rfl (World.ownsRow_made wr #[] 0 K2 (Nat.zero_le _) rfl) _ (zQ l) rfl L0.out (by have:=L1.out; omega) D9 ?_)
    intro v' w1 I hg N;have M:=aA.own I (by simpa using vX ol)
    go_wp2
    go_returns
    exact⟨_,rfl,by simpa using M,(E.alloc K2 _).grown hg D9 N⟩
   .
    have T2:Hid (zQ (l.take j)=zQ l):=by rw[<- T.out]; exact(j9 hj HU.out).symm
    clear fin J fa hu hj
    go_wp2
    go_roundw
    case rel=>exact⟨j,by omega,by go_num,T2.out,E⟩
    case measure=>simp[intOf]
theorem H9 (w:Ee) (ha:aA w a A) (hb:aA w b B) (nA:A.length<=zP) (nB:B.length<=zP) :
  Ed Ec 196 #[a,b] w fun e w'=>∃v l,e = Eh v/\aA w' v l/\zo l=zo A+zo B/\l.length=max A.length B.length+1/\zf w w':=by
 obtain⟨i0,hi,a9,ah,aX⟩:=info_parts ZU;obtain⟨aa,ca,rfl⟩:=ha.ak;obtain⟨ab,cb,rfl⟩:=hb.ak;obtain⟨oa,-,la,fa⟩:=ha.cells;obtain⟨ob,-,lb,fb⟩:=hb.cells;clear ha hb;unfold zP at nA nB;obtain⟨n,hn⟩:∃n,A.length=n:=⟨_,rfl⟩;obtain⟨m,hm⟩:∃m,B.length=m:=⟨_,rfl⟩;have H:Hid (A.length=n/\B.length=m):=⟨hn,hm⟩;rw[hn]at fa la nA;rw[hm]at fb lb nB;rw[hn,hm];clear hn hm
 go_enter Tryz.func196,Tryz.ntmps196
 go_wp2
 go_loopw [5,6,7] (fun o c i wr=>∃ (k:Nat) (xs:List Int) (N:Int),k<=max n m/\i = Ey Ew k/\c = Ey Eg N/\0<=N/\N<=1/\xs.length=k/\yB xs/\zo xs+bp k*N=zo (A.take k)+zo (B.take k)/\
   wr.ownsRow w.heap.size 172 1 o k (zI xs)/\Below w.heap.size w wr) (fun _ _ i _=>(max n m-(intOf i).toNat))
 case atStart=>exact⟨0,[],0,Nat.zero_le _,rfl,rfl,by omega,by omega,rfl,yg,by simp[zo],World.ownsRow_nil _ _ _ _,Et _ _⟩
 case round=>
  obtain⟨k,xs,N,hk,rfl,rfl,c0,c1,hl,bg,hv,X,J⟩:=hrel;have Z:=J.size;have M:Hid (xs.length=k/\yB xs/\zo xs+bp k*N=zo (A.take k)+zo (B.take k)):=⟨hl,bg,hv⟩;clear hl bg hv;obtain⟨u,hu⟩:∃u,A.getD k 0=u:=⟨_,rfl⟩;obtain⟨v,hv⟩:∃v,B.getD k 0=v:=⟨_,rfl⟩;have u0:=zG oa k;have v0:=zG ob k;rw[hu]at u0;rw[hv]at v0;have HU:Hid (A.getD k 0=u/\B.getD k 0=v):=⟨hu,hv⟩;have zu:n<=k->u=0:=fun h=>by rw[<- hu]; have:=H.out.1; simp[List.getD,List.getElem?_eq_none (show A.length<=k by omega)]
  have zv:m<=k->v=0:=fun h=>by rw[<- hv]; have:=H.out.2; simp[List.getD,List.getElem?_eq_none (show B.length<=k by omega)]
  rcases Ep k n with h1 | h1
  .
   obtain⟨ba,bh,rfl,bi,aY⟩:=fa D5;have g1:=(J.cell (p:=⟨ba,bh+k,none⟩) bi).trans (aY k (by rw[H.out.1]; omega));rw[hu]at g1
   rcases Ep k m with h2 | h2
   .
    obtain⟨bb,be,rfl,b9,Y⟩:=fb D5;have g2:=(J.cell (p:=⟨bb,be+k,none⟩) b9).trans (Y k (by rw[H.out.2]; omega));rw[hv]at g2;clear aY Y fa fb hu hv zu zv
    go_wp2_with (at_builtin; refine yu rfl (.tmp 42) (.tmp 45) 24 rfl w.heap.size 172 i0 Tryz.underlying24 hi a9 ah aX _ k xs rfl (X.alloc _) _ [_] rfl (aA.one D5 D5) (by simp; omega) D9 ?_)
    intro v' w1 I hg T
    go_wp2
    go_roundw
    case rel=>
     have S:=qA (s:=N+u+v) M.out.1 M.out.2.2 (by rw[HU.out.1,HU.out.2]; omega);exact⟨k+1,xs ++ [(N+u+v)%4294967296],(N+u+v) / 4294967296,by omega,by go_num,by go_num,by omega,by omega,by rw[List.length_append,M.out.1]; rfl,zZ M.out.2.1 D5 D5,S,I,(J.alloc Z _).grown hg D9 T⟩
    case measure=>simp[intOf]; omega
   .
    obtain rfl:=zv h2;clear aY fa fb hu hv zu zv
    go_wp2_with (at_builtin; refine yu rfl (.tmp 42) (.tmp 45) 24 rfl w.heap.size 172 i0 Tryz.underlying24 hi a9 ah aX _ k xs rfl (X.alloc _) _ [_] rfl (aA.one D5 D5) (by simp; omega) D9 ?_)
    intro v' w1 I hg T
    go_wp2
    go_roundw
    case rel=>
     have S:=qA (s:=N+u) M.out.1 M.out.2.2 (by rw[HU.out.1,HU.out.2]; omega);exact⟨k+1,xs ++ [(N+u)%4294967296],(N+u) / 4294967296,by omega,by go_num,by go_num,by omega,by omega,by rw[List.length_append,M.out.1]; rfl,zZ M.out.2.1 D5 D5,S,I,(J.alloc Z _).grown hg D9 T⟩
    case measure=>simp[intOf]; omega
  .
   obtain rfl:=zu h1
   rcases Ep k m with h2 | h2
   .
    obtain⟨bb,be,rfl,b9,Y⟩:=fb D5;have g2:=(J.cell (p:=⟨bb,be+k,none⟩) b9).trans (Y k (by rw[H.out.2]; omega));rw[hv]at g2;clear Y fa fb hu hv zu zv
    go_wp2_with (at_builtin; refine yu rfl (.tmp 42) (.tmp 45) 24 rfl w.heap.size 172 i0 Tryz.underlying24 hi a9 ah aX _ k xs rfl (X.alloc _) _ [_] rfl (aA.one D5 D5) (by simp; omega) D9 ?_)
    intro v' w1 I hg T
    go_wp2
    go_roundw
    case rel=>
     have S:=qA (s:=N+v) M.out.1 M.out.2.2 (by rw[HU.out.1,HU.out.2]; omega);exact⟨k+1,xs ++ [(N+v)%4294967296],(N+v) / 4294967296,by omega,by go_num,by go_num,by omega,by omega,by rw[List.length_append,M.out.1]; rfl,zZ M.out.2.1 D5 D5,S,I,(J.alloc Z _).grown hg D9 T⟩
    case measure=>simp[intOf]; omega
   .
    clear fa fb hu hv zu zv;have E:=H.out
    go_wp2_with (at_builtin; refine yu rfl (.tmp 49) (.tmp 52) 24 rfl w.heap.size 172 i0 Tryz.underlying24 hi a9 ah aX _ k xs rfl (X.alloc _) _ [_] rfl (aA.one D5 D5) (by simp; omega) D9 ?_)
    intro v' w1 I hg T
    go_wp2
    go_returns
    refine⟨_,xs ++ [N],rfl,aA.own I (zZ M.out.2.1 D5 D5),?_,?_,(J.alloc Z _).grown hg D9 T⟩
    .
     have:=M.out.2.2;rw[List.take_of_length_le D5,List.take_of_length_le D5]at this;rw[y9,M.out.1];exact this
    .
     rw[List.length_append,M.out.1]
     show k+1=_
     omega
theorem wrap_u64 (h0:0<=x) (E:x<18446744073709551616):IntKind.u64.wrap x=x:=by
 rw[IntKind.wrap_u64]; omega
theorem Xh {xs:List Int} {c s P:Int} (H:xs.length=k) (h:zo xs+bp k*c=zo (A.take k)*P) (E:s=c+A.getD k 0*P) :
  zo (xs ++ [s%4294967296])+bp (k+1)*(s / 4294967296)=zo (A.take (k+1))*P:=by
 rw[y9,H,yw,Int.add_mul,Int.mul_assoc];have e:=vZ k s;have I:bp k*s=bp k*c+bp k*(A.getD k 0*P):=by rw[E,Int.mul_add]
 omega
theorem Gs {s:Nat} (w:Ee) (ha:aA w a A) (nA:A.length<=zP) (hs:s<=31) :
  Ed Ec 182 #[a,Ey Eg s] w fun e w'=>∃v l,e = Eh v/\aA w' v l/\zo l=zo A*(2^s:Nat)/\l.length=A.length+1/\w'.ownsRow w.heap.size 172 1 v (A.length+1) (zI l)/\zf w w':=by
 obtain⟨i0,hi,a9,ah,aX⟩:=info_parts ZU;obtain⟨aa,ca,rfl⟩:=ha.ak;obtain⟨oa,-,la,fa⟩:=ha.cells;clear ha;unfold zP at nA;obtain⟨n,hn⟩:∃n,A.length=n:=⟨_,rfl⟩;have H:Hid (A.length=n):=hn;rw[hn]at fa la nA;rw[hn];clear hn;obtain⟨P,hP⟩:∃P,((2^s:Nat):Int)=P:=⟨_,rfl⟩;have P0:1<=P:=by have:=Nat.one_le_two_pow (n:=s); omega
 have P1:P<=2147483648:=by have:=Nat.pow_le_pow_right (show 0<2 by omega) hs; simp at this; omega
 have HP:Hid (((2^s:Nat):Int)=P):=hP;clear hP
 go_enter Tryz.func182,Tryz.ntmps182
 go_wp2
 go_loopw [5,6,7] (fun o c i wr=>∃ (k:Nat) (xs:List Int) (I:Int),k<=n/\i = Ey Ew k/\c = Ey Eg I/\0<=I/\I<P/\xs.length=k/\yB xs/\zo xs+bp k*I=zo (A.take k)*P/\
   wr.ownsRow w.heap.size 172 1 o k (zI xs)/\Below w.heap.size w wr) (fun _ _ i _=>(n-(intOf i).toNat))
 case atStart=>exact⟨0,[],0,Nat.zero_le _,rfl,rfl,by omega,by omega,rfl,yg,by simp[zo],World.ownsRow_nil _ _ _ _,Et _ _⟩
 case round=>
  obtain⟨k,xs,I,hk,rfl,rfl,c0,c1,hl,Y,hv,N,J⟩:=hrel;have Z:=J.size;have M:Hid (xs.length=k/\yB xs/\zo xs+bp k*I=zo (A.take k)*P):=⟨hl,Y,hv⟩;clear hl Y hv
  rcases Ep k n with h1 | h1
  .
   obtain⟨u,hu⟩:∃u,A.getD k 0=u:=⟨_,rfl⟩;have u0:=zG oa k;rw[hu]at u0;have HU:Hid (A.getD k 0=u):=hu;obtain⟨ba,aY,rfl,be,X⟩:=fa D5;have g1:=(J.cell (p:=⟨ba,aY+k,none⟩) be).trans (X k (by rw[H.out]; omega));rw[hu]at g1;obtain⟨t,ht⟩:∃t,u*P=t:=⟨_,rfl⟩
   have t0:0<=t/\t<=4294967295*P:=by
    rw[<- ht];exact⟨Int.mul_nonneg u0.1 D5,Int.mul_le_mul_of_nonneg_right D5 D5⟩
   have hw:IntKind.u64.wrap (u*2^s)=t:=by
    have e:u*2^s=t:=by rw[<- ht,<- HP.out]; simp
    rw[e,wrap_u64 D5 D5]
   have HT:Hid (u*P=t):=ht;clear X fa hu ht
   go_wp2_with (at_builtin; refine yu rfl (.tmp 23) (.tmp 26) 24 rfl w.heap.size 172 i0 Tryz.underlying24 hi a9 ah aX _ k xs rfl (N.alloc _) _ [_] rfl (aA.one D5 D5) (by simp; omega) D9 ?_)
   intro v' w1 E hg T
   go_wp2
   go_roundw
   case rel=>
    have S:=Xh (s:=I+t) M.out.1 M.out.2.2 (by rw[HU.out,HT.out]);exact⟨k+1,xs ++ [(I+t)%4294967296],(I+t) / 4294967296,by omega,by go_num,by go_num,by omega,by omega,by rw[List.length_append,M.out.1]; rfl,zZ M.out.2.1 D5 D5,S,E,(J.alloc Z _).grown hg D9 T⟩
   case measure=>simp[intOf]; omega
  .
   clear fa
   go_wp2_with (at_builtin; refine yu rfl (.tmp 30) (.tmp 33) 24 rfl w.heap.size 172 i0 Tryz.underlying24 hi a9 ah aX _ k xs rfl (N.alloc _) _ [_] rfl (aA.one D5 D5) (by simp; omega) D9 ?_)
   intro v' w1 E hg T
   go_wp2
   go_returns
   have b9:k=n:=D5
   subst b9;have hB:Below w.heap.size w w1:=(J.alloc Z _).grown hg D9 T;refine⟨_,xs ++ [I],rfl,aA.own E (zZ M.out.2.1 D5 D5),?_,?_,E,hB⟩
   .
    have:=M.out.2.2;rw[List.take_of_length_le (by have:=H.out; omega)]at this;rw[y9,M.out.1,HP.out];exact this
   . rw[List.length_append,M.out.1]; rfl
theorem Up (w:Ee) (ha:aA w a A) (hb:aA w b B) (nA:A.length<=zP) (nB:B.length<=A.length) (b9:zo B<=zo A) :
  Ed Ec 197 #[a,b] w fun e w'=>∃v,e = Eh v/\aA w' v (zp (zo A-zo B))/\zf w w':=by
 obtain⟨i0,hi,Y,a9,X⟩:=info_parts ZU;obtain⟨aa,ca,rfl⟩:=ha.ak;obtain⟨ab,cb,rfl⟩:=hb.ak;obtain⟨oa,-,la,fa⟩:=ha.cells;obtain⟨ob,-,lb,fb⟩:=hb.cells;clear ha hb;unfold zP at nA;obtain⟨n,hn⟩:∃n,A.length=n:=⟨_,rfl⟩;obtain⟨m,hm⟩:∃m,B.length=m:=⟨_,rfl⟩;have H:Hid (A.length=n/\B.length=m/\zo B<=zo A):=⟨hn,hm,b9⟩;rw[hm,hn]at nB;rw[hn]at fa la nA;rw[hm]at fb lb;rw[hn,hm];clear hn hm b9
 go_enter Tryz.func197,Tryz.ntmps197
 go_wp2
 go_loopw [5,6,7,8] (fun o c i t wr=>∃ (k:Nat) (xs:List Int) (I:Int),k<=n/\i = Ey Ew k/\c = Ey Ew I/\0<=I/\I<=1/\xs.length=k/\yB xs/\zo xs=zo (A.take k)-zo (B.take k)+bp k*I/\
   wr.ownsRow w.heap.size 172 1 o k (zI xs)/\Below w.heap.size w wr) (fun _ _ i _ _=>(n-(intOf i).toNat))
 case atStart=>exact⟨0,[],0,Nat.zero_le _,rfl,rfl,by omega,by omega,rfl,yg,by simp[zo],World.ownsRow_nil _ _ _ _,Et _ _⟩
 case round=>
  obtain⟨k,xs,I,hk,rfl,rfl,c0,c1,hl,aX,hv,N,M⟩:=hrel;have Z:=M.size;have J:Hid (xs.length=k/\yB xs/\zo xs=zo (A.take k)-zo (B.take k)+bp k*I):=⟨hl,aX,hv⟩;clear hl aX hv;obtain⟨u,hu⟩:∃u,A.getD k 0=u:=⟨_,rfl⟩;obtain⟨v,hv⟩:∃v,B.getD k 0=v:=⟨_,rfl⟩;have u0:=zG oa k;have v0:=zG ob k;rw[hu]at u0;rw[hv]at v0;have HU:Hid (A.getD k 0=u/\B.getD k 0=v):=⟨hu,hv⟩;have zv:m<=k->v=0:=fun h=>by rw[<- hv]; have:=H.out.2.1; simp[List.getD,List.getElem?_eq_none (show B.length<=k by omega)]
  rcases Ep k n with h1 | h1
  .
   obtain⟨ba,bg,rfl,bi,ah⟩:=fa D5;have g1:=(M.cell (p:=⟨ba,bg+k,none⟩) bi).trans (ah k (by rw[H.out.1]; omega));rw[hu]at g1
   rcases Ep k m with h2 | h2
   .
    obtain⟨bb,bt,rfl,bl,aY⟩:=fb D5;have g2:=(M.cell (p:=⟨bb,bt+k,none⟩) bl).trans (aY k (by rw[H.out.2.1]; omega));rw[hv]at g2;clear ah aY fa fb hu hv zv
    rcases Int.lt_or_le (u-I-v) 0 with ht | ht
    .
     go_wp2_with (at_builtin; refine yu rfl (.tmp 37) (.tmp 40) 24 rfl w.heap.size 172 i0 Tryz.underlying24 hi Y a9 X _ k xs rfl (N.alloc _) _ [_] rfl (aA.one D5 D5) (by simp; omega) D9 ?_)
     intro v' w1 E hg T
     go_wp2
     go_roundw
     case rel=>
      have S:=jt (t:=u-I-v) (x:=u-I-v+4294967296) (c':=1) J.out.1 J.out.2.2 (by rw[HU.out.1,HU.out.2]; omega) D5;have hx:(u-I-v+4294967296)%4294967296=u-I-v+4294967296:=D5
      exact⟨k+1,xs ++ [u-I-v+4294967296],1,by omega,by go_num,by go_num,by omega,by omega,by rw[List.length_append,J.out.1]; rfl,zZ J.out.2.1 D5 D5,S,by first | exact E | (rw[hx]at E; exact E),(M.alloc Z _).grown hg D9 T⟩
     case measure=>simp[intOf]; omega
    .
     go_wp2_with (at_builtin; refine yu rfl (.tmp 37) (.tmp 40) 24 rfl w.heap.size 172 i0 Tryz.underlying24 hi Y a9 X _ k xs rfl (N.alloc _) _ [_] rfl (aA.one D5 D5) (by simp; omega) D9 ?_)
     intro v' w1 E hg T
     go_wp2
     go_roundw
     case rel=>
      have S:=jt (t:=u-I-v) (x:=u-I-v) (c':=0) J.out.1 J.out.2.2 (by rw[HU.out.1,HU.out.2]; omega) D5;have hx:(u-I-v)%4294967296=u-I-v:=D5
      exact⟨k+1,xs ++ [u-I-v],0,by omega,by go_num,by go_num,by omega,by omega,by rw[List.length_append,J.out.1]; rfl,zZ J.out.2.1 D5 D5,S,by first | exact E | (rw[hx]at E; exact E),(M.alloc Z _).grown hg D9 T⟩
     case measure=>simp[intOf]; omega
   .
    obtain rfl:=zv h2;clear ah fa fb hu hv zv
    rcases Int.lt_or_le (u-I) 0 with ht | ht
    .
     go_wp2_with (at_builtin; refine yu rfl (.tmp 37) (.tmp 40) 24 rfl w.heap.size 172 i0 Tryz.underlying24 hi Y a9 X _ k xs rfl (N.alloc _) _ [_] rfl (aA.one D5 D5) (by simp; omega) D9 ?_)
     intro v' w1 E hg T
     go_wp2
     go_roundw
     case rel=>
      have S:=jt (t:=u-I) (x:=u-I+4294967296) (c':=1) J.out.1 J.out.2.2 (by rw[HU.out.1,HU.out.2]; omega) D5;have hx:(u-I+4294967296)%4294967296=u-I+4294967296:=D5
      exact⟨k+1,xs ++ [u-I+4294967296],1,by omega,by go_num,by go_num,by omega,by omega,by rw[List.length_append,J.out.1]; rfl,zZ J.out.2.1 D5 D5,S,by first | exact E | (rw[hx]at E; exact E),(M.alloc Z _).grown hg D9 T⟩
     case measure=>simp[intOf]; omega
    .
     go_wp2_with (at_builtin; refine yu rfl (.tmp 37) (.tmp 40) 24 rfl w.heap.size 172 i0 Tryz.underlying24 hi Y a9 X _ k xs rfl (N.alloc _) _ [_] rfl (aA.one D5 D5) (by simp; omega) D9 ?_)
     intro v' w1 E hg T
     go_wp2
     go_roundw
     case rel=>
      have S:=jt (t:=u-I) (x:=u-I) (c':=0) J.out.1 J.out.2.2 (by rw[HU.out.1,HU.out.2]; omega) D5;have hx:(u-I)%4294967296=u-I:=D5
      exact⟨k+1,xs ++ [u-I],0,by omega,by go_num,by go_num,by omega,by omega,by rw[List.length_append,J.out.1]; rfl,zZ J.out.2.1 D5 D5,S,by first | exact E | (rw[hx]at E; exact E),(M.alloc Z _).grown hg D9 T⟩
     case measure=>simp[intOf]; omega
  .
   clear fa fb hu hv zv;have bh:k=n:=D5
   subst bh;have e1:=J.out.2.2;have e2:=yS J.out.2.1;have e4:=zE J.out.2.1;have e3:=xY k;rw[List.take_of_length_le (by have:=H.out; omega),List.take_of_length_le (by have:=H.out; omega)]at e1;rw[J.out.1]at e2
   have ce:I=0:=by
    rcases(show I=0\/I=1 by omega)with h | h
    . exact h
    . subst h; have:=H.out.2.2; omega
   subst ce;rw[Int.mul_zero,Int.add_zero]at e1;have L:=E6 (yt J.out.2.1);have L1:=aA.own N J.out.2.1;have E1:=E6 e1;have lx:=J.out.1;have be:xs.length<=zP:=by unfold zP; omega
   clear e1 e2 e3 e4 lx
   go_wp2_with (go_at_call 170; refine(Ys _ L1 be).mono ?_; rintro e w2 ⟨v2,rfl,cg,br⟩)
   go_returns
   exact⟨_,rfl,by rw[<- E1.out,L.out]; exact cg,zt M (Eo _) br⟩
end
section
open Go.RowKit
theorem yH (n:Nat):madeCells #[Value.int Eu 0] n=(zI (List.replicate n 0)).toArray:=by
 apply Array.ext'
 simp[madeCells,zI];apply List.ext_getElem
 . simp
 . intro i E H; simp[Nat.mod_one]
theorem Yt (j:Nat) (x:Int) (qs:List Int):(zI (List.replicate (j+1) 0++qs)).toArray.setIfInBounds j (Ey Eu x)=(zI (List.replicate j 0++x::qs)).toArray:=by
 have e:List.replicate (j+1) (0:Int)++qs=List.replicate j 0++0::qs:=by
  rw[show j+1=j+1 from rfl,List.replicate_succ']; simp
 rw[e];simp[zI,List.set_append]
theorem xT (n:Nat) (h:n<=1000000000) (w:Ee):(Instr.makeSlice 24 (Ey Ew (n:Int)) (Ey Ew (n:Int))).run Ec w = .ok (Ex (some ⟨w.heap.size,0,none⟩) n n) (w.alloc (.cells (madeCells #[Ey Eu 0] n) 172)):=
 run_make_row' (P:=Ec) 24 172 (Ey Eu 0) 4 Tryz.underlying24 ZU rfl Ew Ew n D5 D5 w
set_option maxHeartbeats 3200000 in
set_option maxRecDepth 1000000 in
theorem GO {a:Ef} {A:List Int} {d:Int} (w:Ee) (ha:aA w a A) (nA:A.length<=zP) (d0:1<=d) (d1:d<4294967296) :
  Ed Ec 181 #[a,Ey Eu d] w fun e w'=>∃q r,e = Eh (.tuple #[q,r])/\aA w' q (zp (zo A / d))/\aA w' r (zp (zo A%d))/\zf w w':=by
 obtain⟨aa,ca,rfl⟩:=ha.ak;obtain⟨oa,-,la,fa⟩:=ha.cells;clear ha;unfold zP at nA;obtain⟨n,hn⟩:∃n,A.length=n:=⟨_,rfl⟩;have H:Hid (A.length=n):=hn;rw[hn]at fa la nA;rw[hn];clear hn;have aY:=xT n D5;have Z0:(w.alloc (.cells (madeCells #[Ey Eu 0] n) 172)).heap.size=w.heap.size+1:=World.size_alloc _ _;have B0:Below w.heap.size w (w.alloc (.cells (madeCells #[Ey Eu 0] n) 172)):=(Et _ _).alloc (Eo _) _
 have K0:ai (w.alloc (.cells (madeCells #[Ey Eu 0] n) 172)) w.heap.size 172 (zI (List.replicate n 0 ++ [])).toArray:=by
  have:=ai.new w 172 (madeCells #[Ey Eu 0] n);rw[yH,<- List.append_nil (List.replicate n (0:Int))]at this;rw[yH];simpa using this
 go_enter Tryz.func181,Tryz.ntmps181
 go_wp2
 go_loopw [7,8] (fun r i wr=>∃ (k:Nat) (qs:List Int) (J:Int),k<=n/\i = Ey Ew ((k:Int)-1)/\r = Ey Eg J/\0<=J/\J<d/\yB qs/\qs.length+k=n/\zo (A.drop k)=d*zo qs+J/\
   ai wr w.heap.size 172 (zI (List.replicate k 0++qs)).toArray/\Below w.heap.size w wr) (fun _ i _=>(intOf i+1).toNat)
 case atStart=>exact⟨n,[],0,Eo _,by go_num,rfl,by omega,by omega,yg,by simp,by rw[List.drop_of_length_le (by have:=H.out; omega)]; simp[zo],K0,B0⟩
 case round=>
  obtain⟨k,qs,J,hk,rfl,rfl,r0,r1,Y,hl,hv,I,M⟩:=hrel;have Z:=M.size;have HV:Hid (qs.length+k=n/\yB qs/\zo (A.drop k)=d*zo qs+J):=⟨hl,Y,hv⟩;clear hl Y hv aY Z0 B0 K0
  rcases Nat.eq_zero_or_pos k with rfl | hp
  .
   clear fa;have E:=HV.out;rw[Nat.add_zero]at E;obtain⟨E1,E2,E3⟩:=E;rw[List.drop_zero]at E3;simp only[List.replicate_zero,List.nil_append]at I
   have Lq:aA wr (Ex (some ⟨w.heap.size,0,none⟩) n n) qs:=by
    have:=aA.a_ I E2;rw[E1]at this;exact this
   have Q:=jU E3 r0 r1;have F:=E6 (E7 Q E2);have lq:qs.length<=zP:=by unfold zP; omega
   clear E1 E3 Q I
   go_wp2_with (first
    | (go_at_call 170; refine(Ys _ Lq lq).mono ?_; clear Lq; rintro e w2 ⟨v2,rfl,a9,b9⟩)
    | (go_at_call 170; refine(Ys _ (aA.one (x:=J) D5 D5) (by unfold zP; simp)).mono ?_; rintro e w3 ⟨v3,rfl,X,be⟩))
   go_returns
   have Z2:zf w2 w3:=((Et w2.heap.size w2).alloc (Eo _) _).trans (be.mono D9);refine⟨_,_,rfl,?_,?_,zt (zt M (Eo _) b9) (Eo _) Z2⟩
   .
    rw[F.out.1.1];rw[<- yt F.out.2]at a9;exact a9.ae Z2
   .
    rw[F.out.1.2];have:=yt (ye.2 ⟨⟨r0,by omega⟩,yg⟩:yB [J]);rw[<- this]at X;simpa[zo]using X
  .
   obtain⟨j,rfl⟩:∃j,k=j+1:=⟨k-1,by omega⟩;obtain⟨ba,ah,rfl,aX,T⟩:=fa D5;have g1:=(M.cell (p:=⟨ba,ah+j,none⟩) aX).trans (T j (by rw[H.out]; omega));obtain⟨u,hu⟩:∃u,A.getD j 0=u:=⟨_,rfl⟩;have u0:=zG oa j;rw[hu]at g1 u0;have HU:Hid (A.getD j 0=u):=hu;clear fa T hu
   have g2:wr.cell? ⟨w.heap.size,0+j,none⟩=some (Ey Eu 0):=by
    refine I.c _ ?_;rw[Nat.zero_add];simp[zI,List.getElem?_append,List.getElem?_replicate]
   have g3:wr.frozen? ⟨w.heap.size,0+j,none⟩=false:=I.fr _;rw[Nat.zero_add]at g2 g3;have N:=E6 I;clear I
   go_wp2
   go_roundw
   case rel=>
    have hb:=N.out;have q0:0<=(J*4294967296+u) / d:=Int.ediv_nonneg D5 D5;have q1:(J*4294967296+u) / d<4294967296:=Int.ediv_lt_of_lt_mul D5 D5;have m0:=Int.emod_nonneg (J*4294967296+u) (show d≠0 by omega);have m1:=Int.emod_lt_of_pos (J*4294967296+u) (show 0<d by omega);have S:=Yo (x:=u) HV.out.2.2;rw[Int.emod_eq_of_lt q0 q1];have E:=HV.out.1;refine⟨j,(J*4294967296+u) / d::qs,(J*4294967296+u)%d,by omega,rfl,rfl,m0,m1,ye.2 ⟨⟨q0,q1⟩,HV.out.2.1⟩,by rw[List.length_cons]; omega,?_,hb.bF (Yt j _ qs),M.setCell (p:=⟨w.heap.size,j,none⟩) (Eo _) _⟩;rw[yM,HU.out,S];simp only[zo]
   case measure=>simp[intOf]
end
section
open Go.RowKit
variable {A D:Int} {U l:List Int} {post pre:List Ef} {b g j k m o:Nat} {a d:Ef} {w wr:Ee}
def xP (pre:List Ef) (U:List Int) (post:List Ef):Array Ef:=(pre++(zI U++post)).toArray
theorem xu {t:Nat} (E:pre.length=j) (ht:t<U.length):(xP pre U post)[j+t]? = some (Ey Eu (U.getD t 0)):=by
 subst E;simp only[xP,List.getElem?_toArray];rw[List.getElem?_append_right D5,Nat.add_sub_cancel_left,List.getElem?_append_left (by rw[yL]; exact ht)];exact qj U t ht
theorem qJ {xs:List Int} (E:pre.length=j) (I:xs.length=k) (H:k<U.length) (x:Int) :
  (xP pre (xs++U.drop k) post).setIfInBounds (j+k) (Ey Eu x)=xP pre ((xs ++ [x])++U.drop (k+1)) post:=by
 subst E I;rw[List.drop_eq_getElem_cons H];simp only[xP,zI,List.map_append,List.map_cons,List.append_assoc,List.setIfInBounds_toArray,List.cons_append,List.map_nil,List.nil_append]
 congr 1
 rw[List.set_append_right _ _ D5,Nat.add_sub_cancel_left,List.set_append_right _ _ D8,List.length_map,Nat.sub_self,List.set_cons_zero]
theorem qk (h:w.grownBy wr (some g)) (i:Nat) (u:Ef):w.grownBy (wr.setCell ⟨g,i,none⟩ u) (some g):=
 ⟨h.os,h.tape,h.output,by simpa[World.setCell]using h.size,fun k H E=>by
  rw[Below.heap_setCell _ _ _ _ (fun e=>E (by rw[e]))]
  exact h.block k H E⟩
theorem k9 (w:Ee) (a b:Nat):∃n,(w.drewN a).drewN b=w.drewN n:=⟨a+b,by rw[World.drewN_drewN]⟩
theorem Qu {r:Option Nat} (h:w.grownBy wr r) (n:Nat):w.grownBy (wr.drewN n) r:=⟨h.os,h.tape,h.output,h.size,h.block⟩
theorem Cells.grown (h:Cells w b o l) (hg:w.grownBy wr (some g)) (H:b<w.heap.size) (E:b≠g):Cells wr b o l:=
 fun t ht=>(World.cell?_of_block (a:=⟨b,o+t,none⟩) (hg.block b H (fun e=>E (by injection e)))).trans (h t ht)
theorem GP {capu capv:Nat} {V:List Int} (w:Ee) (hB:ai w g 172 (xP pre U post)) (hj:pre.length=j) (hU:U.length=m+3) (bh:yB U)
  (hV:Cells w b o V) (lV:V.length=m+2) (bl:yB V) (hb:b<w.heap.size) (cU:b≠g) (hn:m<=zP) (ce:2147483648<=V.getD (m+1) 0) (cg:zo U<zo V*4294967296) :
  Ed Ec 183 #[Ex (some ⟨g,j,none⟩) (m+3) capu,Ex (some ⟨b,o,none⟩) (m+2) capv] w fun e w'=>
   ∃T,e = Eh (Ey Eu (zo U / zo V))/\T.length=m+3/\yB T/\zo T=zo U%zo V/\ai w' g 172 (xP pre T post)/\w.grownBy w' (some g):=by
 unfold zP at hn;have hg:g<w.heap.size:=hB.lt;obtain⟨un,bi⟩:∃x,U.getD (m+2) 0=x:=⟨_,rfl⟩;obtain⟨cJ,aY⟩:∃x,U.getD (m+1) 0=x:=⟨_,rfl⟩;obtain⟨bg,aX⟩:∃x,U.getD m 0=x:=⟨_,rfl⟩;obtain⟨N,be⟩:∃x,V.getD (m+1) 0=x:=⟨_,rfl⟩;obtain⟨v2,b9⟩:∃x,V.getD m 0=x:=⟨_,rfl⟩;have bu:=zG bh (m+2);have dc:=zG bh (m+1);have dk:=zG bh m;have dl:=zG bl (m+1);have bt:=zG bl m;have cu:w.cell? ⟨g,j+(m+2),none⟩=some (Ey Eu un):=by rw[<- bi]; exact hB.c _ (xu hj D5)
 have ek:w.cell? ⟨g,j+(m+1),none⟩=some (Ey Eu cJ):=by rw[<- aY]; exact hB.c _ (xu hj D5)
 have ed:w.cell? ⟨g,j+m,none⟩=some (Ey Eu bg):=by rw[<- aX]; exact hB.c _ (xu hj D5)
 have dx:w.cell? ⟨b,o+(m+1),none⟩=some (Ey Eu N):=by rw[<- be]; exact hV _ D5
 have dz:w.cell? ⟨b,o+m,none⟩=some (Ey Eu v2):=by rw[<- b9]; exact hV _ D5
 have DM:=Yp bh bl hU lV D5 cg;rw[bi,aY,aX,be,b9]at DM;obtain⟨Q,hQ⟩:∃Q,zo U / zo V=Q:=⟨_,rfl⟩
 have hR:zo U%zo V=zo U-Q*zo V:=by
  have:=Int.mul_ediv_add_emod (zo U) (zo V);rw[hQ,Int.mul_comm]at this;omega
 rw[hQ]at DM;rw[hQ,hR];obtain⟨Q0,Q1,Q2,Q3,Q4,Q5,Q6⟩:=DM;have HQ:Hid (Q*N<=un*4294967296+cJ/\Q*(N*4294967296+v2)<=(un*4294967296+cJ)*4294967296+bg/\Q*zo V<=zo U/\zo U-Q*zo V<zo V/\0<zo V):=⟨Q2,Q3,Q4,Q5,Q6⟩;clear Q2 Q3 Q4 Q5 Q6 hR hQ;rw[bi]at bu;rw[aY]at dc;rw[aX]at dk;rw[be]at dl ce;rw[b9]at bt;have H:Hid (U.getD (m+2) 0=un/\U.getD (m+1) 0=cJ/\U.getD m 0=bg/\V.getD (m+1) 0=N/\V.getD m 0=v2/\U.length=m+3/\V.length=m+2/\pre.length=j/\zo U<zo V*4294967296):=⟨bi,aY,aX,be,b9,hU,lV,hj,cg⟩;have HB:=E6 hB;have HV:=E6 hV;clear bi aY aX be b9 hU lV hj cg hB hV
 go_enter Tryz.func183,Tryz.ntmps183
 go_wp2_with fail
 go_quiet (fail)
 go_wp2_with fail
 go_quiet (fail)
 go_upto_block 0 with fail
 have T0:Hid ((un*4294967296+cJ) / N*N+(un*4294967296+cJ)%N=un*4294967296+cJ):=by
  have:=Int.mul_ediv_add_emod (un*4294967296+cJ) N;rw[Int.mul_comm]at this;exact this
 have T1:0<=(un*4294967296+cJ) / N:=Int.ediv_nonneg D5 D5;have T2:(un*4294967296+cJ) / N<8589934592:=Int.ediv_lt_of_lt_mul D5 D5;have T3:=Int.emod_nonneg (un*4294967296+cJ) (show N≠0 by omega);have T4:=Int.emod_lt_of_pos (un*4294967296+cJ) (show 0<N by omega);obtain⟨q0,ci⟩:∃q,(un*4294967296+cJ) / N=q:=⟨_,rfl⟩;obtain⟨r0,cn⟩:∃r,(un*4294967296+cJ)%N=r:=⟨_,rfl⟩;rw[ci]at T0 T1 T2;rw[cn]at T0 T3 T4;simp only[ci,cn];clear ci cn
 go_cut [7,8] (fun q r wx=>∃qv:Int,q = Ey Eg qv/\Q<=qv/\0<=qv/\qv<4294967296/\∃n,wx=w.drewN n)
 case first=>
  go_wp2_with fail
  go_loopw [7,8] (fun q r wr=>∃qv rv:Int,q = Ey Eg qv/\r = Ey Eg rv/\Q<=qv/\0<=qv/\qv<8589934592/\0<=rv/\Hid (qv*N+rv=un*4294967296+cJ)/\∃n,wr=w.drewN n) (fun q _ _=>(intOf q).toNat)
  case atStart=>exact⟨q0,r0,rfl,rfl,Qr T0.out T4 HQ.out.1 D5,T1,T2,T3,T0,(by first | exact⟨_,rfl⟩ | exact k9 _ _ _)⟩
  case round=>
   obtain⟨qv,rv,rfl,rfl,a1,a2,a3,a4,a5,nn,rfl⟩:=hrel;clear T0 T1 T2 T3 T4
   have body:Q<qv->Hid ((qv-1)*N+(rv+N)=un*4294967296+cJ)/\rv+N<=un*4294967296+cJ:=fun h=>by
    have e:=a5.out;have e1:(qv-1)*N+(rv+N)=un*4294967296+cJ:=by rw[Int.sub_mul]; omega
    have e2:=Int.mul_nonneg (show 0<=qv-1 by omega) (show 0<=N by omega);exact⟨e1,by omega⟩
   obtain⟨p,hp⟩:∃p,qv*v2=p:=⟨_,rfl⟩;have a9:rv*4294967296+bg<p->Q<qv:=fun h=>JG a5.out HQ.out.2.1 D5 (by rw[hp]; exact h);have p0:0<=p:=by rw[<- hp]; exact Int.mul_nonneg a2 bt.1
   have p1:qv<4294967296->p<=18446744065119617025:=fun h=>by
    rw[<- hp];have:=Int.mul_le_mul (show qv<=4294967295 by omega) (show v2<=4294967295 by omega) bt.1 D5;omega
   rcases Int.lt_or_le qv 4294967296 with h1 | h1
   .
    have p2:=p1 h1;have hw:IntKind.u64.wrap (qv*v2)=p:=by rw[hp,wrap_u64 D5 D5]
    rcases Int.lt_or_le rv 4294967296 with h2 | h2
    .
     rcases Int.lt_or_le (rv*4294967296+bg) p with h3 | h3
     .
      obtain⟨b1,b2⟩:=body (a9 h3);have b3:=a9 h3;clear body a9 p1 hp;have c1:decide (4294967296<=qv)=false:=E' D5;go_wp2_with fail
      go_quiet (fail)
      go_wp2_with fail
      all_goals first
       | (exfalso; omega)
       | (
         go_roundw
         case rel=>exact⟨qv-1,rv+N,rfl,rfl,by omega,by omega,by omega,by omega,b1,(by first | exact⟨_,rfl⟩ | exact k9 _ _ _)⟩
         case measure=>simp[intOf]; omega)
       | exact⟨⟨by omega,by omega,by omega,by omega,_,rfl⟩,by simp[intOf]; omega⟩
       | (
         go_meet
         exact⟨qv-1,rfl,by omega,by omega,by omega,(by first | exact⟨_,rfl⟩ | exact k9 _ _ _)⟩)
     .
      have c1:decide (4294967296<=qv)=false:=E' D5;clear body a9 p1 hp;go_wp2_with fail
      go_quiet (fail)
      go_wp2_with fail
      go_meet
      exact⟨qv,rfl,by omega,by omega,by omega,(by first | exact⟨_,rfl⟩ | exact k9 _ _ _)⟩
    .
     have c1:decide (4294967296<=qv)=false:=E' D5;have c2:decide (rv<4294967296)=false:=E' D5;clear body a9 p1 hp;go_wp2_with fail
     go_quiet (fail)
     go_wp2_with fail
     go_meet
     exact⟨qv,rfl,by omega,by omega,by omega,(by first | exact⟨_,rfl⟩ | exact k9 _ _ _)⟩
   .
    obtain⟨b1,b2⟩:=body D5;clear body a9 p1 hp
    rcases Int.lt_or_le (rv+N) 4294967296 with h3 | h3
    .
     go_wp2_with fail
     go_quiet (fail)
     go_wp2
     first
      | exact⟨⟨by omega,by omega,by omega,by omega,_,rfl⟩,by simp[intOf]; omega⟩
      | (
        go_roundw
        case rel=>exact⟨qv-1,rv+N,rfl,rfl,by omega,by omega,by omega,by omega,b1,(by first | exact⟨_,rfl⟩ | exact k9 _ _ _)⟩
        case measure=>simp[intOf]; omega)
    .
     rcases Int.lt_or_le (qv-1) 4294967296 with h4 | h4
     .
      go_wp2_with fail
      go_quiet (fail)
      go_wp2
      go_meet
      exact⟨qv-1,rfl,by omega,by omega,by omega,(by first | exact⟨_,rfl⟩ | exact k9 _ _ _)⟩
     .
      go_wp2_with fail
      go_quiet (fail)
      go_wp2
      first
       | exact⟨⟨by omega,by omega,by omega,by omega,_,rfl⟩,by simp[intOf]; omega⟩
       | (
         go_roundw
         case rel=>exact⟨qv-1,rv+N,rfl,rfl,by omega,by omega,by omega,by omega,b1,(by first | exact⟨_,rfl⟩ | exact k9 _ _ _)⟩
         case measure=>simp[intOf]; omega)
 case rest=>
  obtain⟨qv,rfl,a1,a2,a3,nn,rfl⟩:=hcut;have Y:Hid (pre.length=j/\U.length=m+3/\V.length=m+2):=⟨H.out.2.2.2.2.2.2.2.1,H.out.2.2.2.2.2.1,H.out.2.2.2.2.2.2.1⟩;have HH:=E6 H.out.2.2.2.2.2.2.2.2;have G0:w.grownBy (w.drewN nn) (some g):=Qu (World.grownBy.refl w _) nn;have B0:ai (w.drewN nn) g 172 (xP pre ([]++U.drop 0) post):=HB.out.drewN nn;clear T0 T1 T2 T3 T4 H bu dc dk dl bt cu ek ed dx dz ce
  go_wp2
  go_loopw [9,10,11,12] (fun bo c i t wr=>∃ (k:Nat) (xs:List Int) (J I:Int),k<=m+3/\i = Ey Ew k/\bo = Ey Ew J/\c = Ey Eg I/\0<=J/\J<=1/\0<=I/\I<4294967296/\(k=m+3->I=0)/\xs.length=k/\yB xs/\
    zo xs=zo (U.take k)-qv*zo (V.take k)+bp k*(I+J)/\ai wr g 172 (xP pre (xs++U.drop k) post)/\w.grownBy wr (some g)) (fun _ _ i _ _=>m+3-(intOf i).toNat)
  case atStart=>exact⟨0,[],0,0,Nat.zero_le _,rfl,rfl,rfl,by omega,by omega,by omega,by omega,by omega,rfl,yg,by simp[zo],B0,G0⟩
  case round=>
   obtain⟨k,xs,J,I,hk,rfl,rfl,rfl,b0,b1,c0,c1,c2,hl,X,hv,E,Z⟩:=hrel;have HR:Hid (xs.length=k/\yB xs/\zo xs=zo (U.take k)-qv*zo (V.take k)+bp k*(I+J)):=⟨hl,X,hv⟩;have HG:=E6 Z;have HK:=E6 E;clear B0 G0
   rcases Ep k (m+3)with h1 | h1
   .
    obtain⟨u,hu⟩:∃x,U.getD k 0=x:=⟨_,rfl⟩;obtain⟨v,M⟩:∃x,V.getD k 0=x:=⟨_,rfl⟩;have u0:=zG bh k;have v0:=zG bl k;rw[hu]at u0;rw[M]at v0
    have gU:(xs++U.drop k).getD k 0=u:=by
     rw[<- hu];simp only[List.getD];rw[List.getElem?_append_right D5,hl,Nat.sub_self,List.getElem?_drop,Nat.add_zero]
    have g1:wr.cell? ⟨g,j+k,none⟩=some (Ey Eu u):=by
     rw[<- gU];exact E.c _ (xu Y.out.1 (by rw[List.length_append,List.length_drop,hl]; have:=Y.out.2.1; omega))
    have g2:wr.frozen? ⟨g,j+k,none⟩=false:=E.fr _
    rcases Ep k (m+2)with h2 | h2
    .
     have g3:=(HV.out.grown Z hb cU) k (by have:=Y.out.2.2; omega);rw[M]at g3;obtain⟨p,hp⟩:∃p,qv*v=p:=⟨_,rfl⟩;have p0:0<=p:=by rw[<- hp]; exact Int.mul_nonneg a2 v0.1
     have p1:p<=18446744065119617025:=by
      rw[<- hp];have:=Int.mul_le_mul (show qv<=4294967295 by omega) (show v<=4294967295 by omega) v0.1 D5;omega
     have hw:IntKind.u64.wrap (qv*v)=p:=by rw[hp,wrap_u64 D5 D5]
     obtain⟨lo,br⟩:∃l,(I+p)%4294967296=l:=⟨_,rfl⟩;have l0:0<=lo/\lo<4294967296:=D5
     have cN:bits BinOp.and IntKind.u64 (I+p) 4294967295=lo:=by rw[and_low32 _ D5 D5,br]
     have HX:Hid (U.getD k 0=u/\V.getD k 0=v):=⟨hu,M⟩;have d9:=E6 hp;have HL:=E6 br;clear hu M gU hp hl X hv E Z br
     rcases Int.lt_or_le (u-lo-J) 0 with ht | ht
     .
      go_wp2
      go_roundw
      case rel=>
       have R:=HR.out;have S:=jK (q:=qv) (V:=V) (s:=I+p) (t:=u-lo-J) (x:=u-lo-J+4294967296) (b':=1) R.1 R.2.2 (by rw[HX.out.2,d9.out]) (by rw[HX.out.1,HL.out]) D5;refine⟨k+1,xs ++ [u-lo-J+4294967296],1,(I+p) / 4294967296,by omega,by go_num,rfl,by go_num,by omega,by omega,by omega,by omega,by omega,by rw[List.length_append,R.1]; rfl,zZ R.2.1 D5 D5,S,?_,qk HG.out _ _⟩;refine HK.out.bF ?_
       try rw[show (u-lo-J+4294967296)%4294967296=u-lo-J+4294967296 by omega]
       exact qJ Y.out.1 R.1 (by have:=Y.out.2.1; omega) _
      case measure=>simp[intOf]; omega
     .
      go_wp2
      go_roundw
      case rel=>
       have R:=HR.out;have S:=jK (q:=qv) (V:=V) (s:=I+p) (t:=u-lo-J) (x:=u-lo-J) (b':=0) R.1 R.2.2 (by rw[HX.out.2,d9.out]) (by rw[HX.out.1,HL.out]) D5;refine⟨k+1,xs ++ [u-lo-J],0,(I+p) / 4294967296,by omega,by go_num,rfl,by go_num,by omega,by omega,by omega,by omega,by omega,by rw[List.length_append,R.1]; rfl,zZ R.2.1 D5 D5,S,?_,qk HG.out _ _⟩;refine HK.out.bF ?_
       try rw[show (u-lo-J)%4294967296=u-lo-J by omega]
       exact qJ Y.out.1 R.1 (by have:=Y.out.2.1; omega) _
      case measure=>simp[intOf]; omega
    .
     have dP:k=m+2:=D5
     have cy:v=0:=by rw[<- M]; have:=Y.out.2.2; simp[List.getD,List.getElem?_eq_none (show V.length<=k by omega)]
     subst cy;obtain⟨lo,br⟩:∃l,I%4294967296=l:=⟨_,rfl⟩;have dy:lo=I:=D5
     have cN:bits BinOp.and IntKind.u64 I 4294967295=I:=by rw[and_low32 _ D5 D5]; omega
     have HX:Hid (U.getD k 0=u/\V.getD k 0=0):=⟨hu,M⟩;have HL:Hid (I%4294967296=I):=E6 D5;clear hu M gU hl X hv E Z br dy dP
     rcases Int.lt_or_le (u-I-J) 0 with ht | ht
     .
      go_wp2
      go_roundw
      case rel=>
       have R:=HR.out;have S:=jK (q:=qv) (V:=V) (s:=I) (t:=u-I-J) (x:=u-I-J+4294967296) (b':=1) R.1 R.2.2 (by rw[HX.out.2]; omega) (by rw[HX.out.1,HL.out]) D5;refine⟨k+1,xs ++ [u-I-J+4294967296],1,(I) / 4294967296,by omega,by go_num,rfl,by go_num,by omega,by omega,by omega,by omega,by omega,by rw[List.length_append,R.1]; rfl,zZ R.2.1 D5 D5,S,?_,qk HG.out _ _⟩;refine HK.out.bF ?_
       try rw[show (u-I-J+4294967296)%4294967296=u-I-J+4294967296 by omega]
       exact qJ Y.out.1 R.1 (by have:=Y.out.2.1; omega) _
      case measure=>simp[intOf]; omega
     .
      go_wp2
      go_roundw
      case rel=>
       have R:=HR.out;have S:=jK (q:=qv) (V:=V) (s:=I) (t:=u-I-J) (x:=u-I-J) (b':=0) R.1 R.2.2 (by rw[HX.out.2]; omega) (by rw[HX.out.1,HL.out]) D5;refine⟨k+1,xs ++ [u-I-J],0,(I) / 4294967296,by omega,by go_num,rfl,by go_num,by omega,by omega,by omega,by omega,by omega,by rw[List.length_append,R.1]; rfl,zZ R.2.1 D5 D5,S,?_,qk HG.out _ _⟩;refine HK.out.bF ?_
       try rw[show (u-I-J)%4294967296=u-I-J by omega]
       exact qJ Y.out.1 R.1 (by have:=Y.out.2.1; omega) _
      case measure=>simp[intOf]; omega
   .
    have co:k=m+3:=D5
    subst co;have c3:=c2 rfl;subst c3
    have F:Hid (zo xs=zo U-qv*zo V+bp (m+3)*J/\xs.length=m+3/\yB xs):=by
     rw[List.take_of_length_le (by have:=Y.out.2.1; omega),List.take_of_length_le (by have:=Y.out.2.2; omega),Int.zero_add]at hv;exact⟨hv,hl,X⟩
    have ah:ai wr g 172 (xP pre xs post):=by
     rw[List.drop_of_length_le (by have:=Y.out.2.1; omega),List.append_nil]at E;exact E
    clear hl X hv E HK HR c2 hk h1
    go_wp2
    go_loopw [7,9,10,13] (fun q bo c i wr=>∃ (qw J:Int) (T:List Int),q = Ey Eg qw/\bo = Ey Ew J/\0<=J/\J<=1/\Q<=qw/\qw<4294967296/\T.length=m+3/\yB T/\
      zo T=zo U-qw*zo V+bp (m+3)*J/\ai wr g 172 (xP pre T post)/\w.grownBy wr (some g)) (fun q _ _ _ _=>(intOf q).toNat)
    case atStart=>exact⟨qv,J,xs,rfl,rfl,b0,b1,a1,a3,F.out.2.1,F.out.2.2,F.out.1,ah,Z⟩
    case round=>
     obtain⟨qw,bw,T,rfl,rfl,d0,d1,d2,d3,e1,e2,e3,e4,e5⟩:=hrel;clear F ah HG;have F:Hid (T.length=m+3/\yB T/\zo T=zo U-qw*zo V+bp (m+3)*bw):=⟨e1,e2,e3⟩;have L0:=zE e2;have L1:=yS e2;rw[e1]at L1
     rcases(show bw=0\/bw=1 by omega)with cx | cx
     .
      subst cx
      have hq:qw=Q:=by
       rcases Int.lt_or_le Q qw with h | h
       .
        have h1:=Int.mul_le_mul_of_nonneg_right (show Q+1<=qw by omega) (show 0<=zo V by have:=HQ.out.2.2.2.2; omega);rw[Int.add_mul,Int.one_mul]at h1;have:=HQ.out.2.2.2.1;rw[Int.mul_zero]at e3;omega
       . omega
      subst hq;have F2:Hid (zo T=zo U-qw*zo V):=by rw[Int.mul_zero,Int.add_zero]at e3; exact e3
      clear L0 L1 e3
      go_wp2
      go_returns
      exact⟨T,yK (by first | rfl | omega),e1,e2,F2.out,e4,e5⟩
     .
      subst cx
      have hq:Q<qw:=by
       rcases Int.lt_or_le Q qw with h | h
       . exact h
       .
        have h1:=Int.mul_le_mul_of_nonneg_right h (show 0<=zo V by have:=HQ.out.2.2.2.2; omega);have:=HQ.out.2.2.1;rw[Int.mul_one]at e3;omega
      have B1:ai wr g 172 (xP pre ([]++T.drop 0) post):=e4;clear L0 L1 e1 e2 e3
      go_wp2
      go_loopw [10,13] (fun c i wr=>∃ (k:Nat) (ys:List Int) (I:Int),k<=m+3/\i = Ey Ew k/\c = Ey Eg I/\0<=I/\I<=1/\ys.length=k/\yB ys/\
        zo ys+bp k*I=zo (T.take k)+zo (V.take k)/\ai wr g 172 (xP pre (ys++T.drop k) post)/\w.grownBy wr (some g)) (fun _ i _=>m+3-(intOf i).toNat)
      case atStart=>exact⟨0,[],0,Nat.zero_le _,rfl,rfl,by omega,by omega,rfl,yg,by simp[zo],B1,e5⟩
      case round=>
       obtain⟨k,ys,I,hk,rfl,rfl,c0,c1,hl,X,hv,E,Z⟩:=hrel;have HR:Hid (ys.length=k/\yB ys/\zo ys+bp k*I=zo (T.take k)+zo (V.take k)):=⟨hl,X,hv⟩;have HG:=E6 Z;have HK:=E6 E;clear B1 e4
       rcases Ep k (m+3)with h1 | h1
       .
        obtain⟨u,hu⟩:∃x,T.getD k 0=x:=⟨_,rfl⟩;obtain⟨v,M⟩:∃x,V.getD k 0=x:=⟨_,rfl⟩;have u0:=zG F.out.2.1 k;have v0:=zG bl k;rw[hu]at u0;rw[M]at v0
        have gU:(ys++T.drop k).getD k 0=u:=by
         rw[<- hu];simp only[List.getD];rw[List.getElem?_append_right D5,hl,Nat.sub_self,List.getElem?_drop,Nat.add_zero]
        have g1:wr.cell? ⟨g,j+k,none⟩=some (Ey Eu u):=by
         rw[<- gU];exact E.c _ (xu Y.out.1 (by rw[List.length_append,List.length_drop,hl]; have:=F.out.1; omega))
        have g2:wr.frozen? ⟨g,j+k,none⟩=false:=E.fr _
        rcases Ep k (m+2)with h2 | h2
        .
         have g3:=(HV.out.grown Z hb cU) k (by have:=Y.out.2.2; omega);rw[M]at g3;have HX:Hid (T.getD k 0=u/\V.getD k 0=v):=⟨hu,M⟩;clear hu M gU hl X hv E Z
         go_wp2
         go_roundw
         case rel=>
          have R:=HR.out;have S:=qA (s:=I+u+v) R.1 R.2.2 (by rw[HX.out.1,HX.out.2]; omega);refine⟨k+1,ys ++ [(I+u+v)%4294967296],(I+u+v) / 4294967296,by omega,by go_num,by go_num,by omega,by omega,by rw[List.length_append,R.1]; rfl,zZ R.2.1 D5 D5,S,?_,qk HG.out _ _⟩;exact HK.out.bF (qJ Y.out.1 R.1 (by have:=F.out.1; omega) _)
         case measure=>simp[intOf]; omega
        .
         have cy:v=0:=by rw[<- M]; have:=Y.out.2.2; simp[List.getD,List.getElem?_eq_none (show V.length<=k by omega)]
         subst cy;have HX:Hid (T.getD k 0=u/\V.getD k 0=0):=⟨hu,M⟩;clear hu M gU hl X hv E Z
         go_wp2
         go_roundw
         case rel=>
          have R:=HR.out;have S:=qA (s:=I+u) R.1 R.2.2 (by rw[HX.out.1,HX.out.2]; omega);refine⟨k+1,ys ++ [(I+u)%4294967296],(I+u) / 4294967296,by omega,by go_num,by go_num,by omega,by omega,by rw[List.length_append,R.1]; rfl,zZ R.2.1 D5 D5,S,?_,qk HG.out _ _⟩;exact HK.out.bF (qJ Y.out.1 R.1 (by have:=F.out.1; omega) _)
         case measure=>simp[intOf]; omega
       .
        have co:k=m+3:=D5
        subst co
        have F3:Hid (zo ys+bp (m+3)*I=zo T+zo V/\ys.length=m+3/\yB ys):=by
         rw[List.take_of_length_le (by have:=F.out.1; omega),List.take_of_length_le (by have:=Y.out.2.2; omega)]at hv;exact⟨hv,hl,X⟩
        have ah:ai wr g 172 (xP pre ys post):=by
         rw[List.drop_of_length_le (by have:=F.out.1; omega),List.append_nil]at E;exact E
        clear hl X hv E HK HR hk h1
        go_wp2
        go_roundw
        case rel=>
         have e1:=F.out.2.2;have e2:=F3.out.1;refine⟨qw-1,1-I,ys,rfl,rfl,by omega,by omega,by omega,by omega,F3.out.2.1,F3.out.2.2,?_,ah,HG.out⟩;rw[Int.sub_mul,Int.mul_sub];omega
        case measure=>simp[intOf]; omega
theorem Uq (w:Ee) (J:aA w a (zp A)) (hd:aA w d (zp D)) (X:0<=A) (D0:1<=D) (Z:(zp A).length<=zP) (nD:(zp D).length<=zP) (H:A<D) :
  Ed Ec 157 #[a,d] w fun e E=>∃q r,e = Eh (.tuple #[q,r])/\aA E q (zp (A / D))/\aA E r (zp (A%D))/\zf w E:=by
 have hc:zL A D = -1:=by unfold zL; rw[E9 D5,E8 H]
 have cc:Ed Ec 85 #[a,d] w fun e E=>e = Eh (Ey Ew (-1))/\zf w E:=by
  have:=qO w J hd X D5 Z nD;rw[hc]at this;exact this
 have tt:∀E,zf w E->Ed Ec 170 #[a] E fun e N=>∃v,e = Eh v/\aA N v (zp A)/\zf E N:=fun E h=>by
  have:=Ys E (J.ae h) Z;rw[qi]at this;exact this
 have q0:Hid (A / D=0/\A%D=A):=⟨Int.ediv_eq_zero_of_lt X H,Int.emod_eq_of_lt X H⟩;obtain⟨aa,ca,rfl⟩:=J.ak;obtain⟨ad,cd,rfl⟩:=hd.ak;clear J hd hc
 go_enter Tryz.func157,Tryz.ntmps157
 go_wp2_with (first
  | (go_at_call 85; refine cc.mono ?_; rintro e w1 ⟨rfl,I⟩; have M:=tt w1 I)
  | (go_at_call 170; refine M.mono ?_; rintro e N ⟨v2,rfl,Y,T⟩))
 go_returns
 refine⟨_,_,rfl,?_,?_,zt I (Eo _) T⟩
 . rw[q0.out.1]; exact aA.nil _
 . rw[q0.out.2]; exact Y
theorem VB (w:Ee) (J:aA w a (zp A)) (hd:aA w d (zp D)) (A0:0<=A) (D0:1<=D) (nA:(zp A).length<=zP) (nD:(zp D).length=1) (aY:D<=A) :
  Ed Ec 157 #[a,d] w fun e E=>∃q r,e = Eh (.tuple #[q,r])/\aA E q (zp (A / D))/\aA E r (zp (A%D))/\zf w E:=by
 obtain⟨c,hc⟩:∃c,zL A D=c:=⟨_,rfl⟩
 have c0:0<=c:=by
  rw[<- hc]; unfold zL
  split
  . omega
  . rw[E9 D5]; omega
 have cc:Ed Ec 85 #[a,d] w fun e E=>e = Eh (Ey Ew c)/\zf w E:=by
  have:=qO w J hd A0 D5 nA (by unfold zP; omega);rw[hc]at this;exact this
 have hD:zp D = [D]/\D<4294967296:=by
  match h:zp D,nD with
  | [x],_=>
   have T:=zD (show 0<=D by omega);have e2:=xw D;rw[h]at T e2;simp[zo]at T;subst T;exact⟨rfl,(ye.1 e2).1.2⟩
 rw[hD.1]at hd
 have tt:∀E,zf w E->Ed Ec 181 #[a,Ey Eu D] E fun e M=>∃q r,e = Eh (.tuple #[q,r])/\aA M q (zp (A / D))/\aA M r (zp (A%D))/\zf E M:=fun E h=>by
  have:=GO E (J.ae h) nA D0 hD.2;rw[zD A0]at this;exact this
 obtain⟨aa,ca,rfl⟩:=J.ak;obtain⟨ad,cd,rfl⟩:=hd.ak;obtain⟨od,-,ld,N⟩:=hd.cells;simp only[List.length_cons,List.length_nil,Nat.zero_add]at ld N cc|-;obtain⟨bd,X,rfl,Y,I⟩:=N D5;have g0:=I 0 D8;simp only[Nat.add_zero,List.getD_cons_zero]at g0;clear J hd hc I N od
 go_enter Tryz.func157,Tryz.ntmps157
 go_wp2_with (first
  | (go_at_call 85; refine cc.mono ?_; rintro e w1 ⟨rfl,H⟩; have ah:=tt w1 H; have g1:=(H.cell (p:=⟨bd,X,none⟩) Y).trans g0)
  | (go_at_call 181; refine ah.mono ?_; rintro e M ⟨q2,r2,rfl,Z,aX,a9⟩))
 go_returns
 exact⟨_,_,rfl,Z,aX,zt H (Eo _) a9⟩
theorem wrap_u32 {x:Int} (h0:0<=x) (E:x<4294967296):IntKind.u32.wrap x=x:=by
 rw[IntKind.wrap_u32]; omega
theorem ZD (hc:zQ l=l) (h:l.length=k+1):l.getD k 0≠0:=by
 have E:l≠ []:=by rintro rfl; cases h
 have:=JF hc E;rw[List.getLast_eq_getElem]at this;simpa[List.getD,h]using this
theorem v_ {E:Nat} {e:TypeId} {v:Ef} {n:Nat} (h:w.ownsRow E e 1 v n (zI l)) (J:0<n) :
  ∃g cap post,v = Ex (some ⟨g,0,none⟩) n cap/\E<=g/\n<=cap/\ai w g e (xP [] l post):=by
 obtain⟨I,H⟩:=h
 rcases H with⟨_,H⟩ | ⟨g,cap,cur,rfl,hg,hh,hnc,hm,hs,ht⟩
 . omega
 .
  refine⟨g,cap,cur.toList.drop n,rfl,hg,hnc,?_⟩;unfold ai xP;rw[<- ht,Nat.mul_one,List.nil_append,List.take_append_drop];exact hh
theorem Cells.set {i:Nat} {u:Ef} (h:Cells w b o l) (E:b≠g):Cells (w.setCell ⟨g,i,none⟩ u) b o l:=
 fun t ht=>(World.cell?_of_block (a:=⟨b,o+t,none⟩) (Below.heap_setCell w ⟨g,i,none⟩ u b E)).trans (h t ht)
theorem Xi (U:List Int) (j n:Nat) (post:List Ef):xP [] U post=xP (zI (U.take j)) ((U.drop j).take n) (zI (U.drop (j+n))++post):=by
 have e:U=U.take j++((U.drop j).take n++U.drop (j+n)):=by
  rw[<- List.drop_drop,List.take_append_drop,List.take_append_drop]
 conv=>lhs; rw[e]
 simp[xP,zI]
theorem Qv (T S R:List Int) (post:List Ef):xP (zI T) S (zI R++post)=xP [] (T++(S++R)) post:=by simp[xP,zI]
theorem JI (w:Ee) (ha:aA w a (zp A)) (hd:aA w d (zp D)) (A0:0<=A) (D0:1<=D) (nA:(zp A).length<=zP) (nD:(zp D).length=m+2) (gK:D<=A) :
  Ed Ec 157 #[a,d] w fun e T=>∃q r,e = Eh (.tuple #[q,r])/\aA T q (zp (A / D))/\aA T r (zp (A%D))/\zf w T:=by
 obtain⟨i0,hi,gt,gG,gH⟩:=info_parts ZU
 have ft:m+2<=(zp A).length:=by
  rcases Ep (zp A).length (m+2)with h | h
  . have:=yn A0 (show 0<=D by omega) D5; omega
  . exact h
 obtain⟨K,hK⟩:∃K,(zp A).length+1=K+(m+2):=⟨(zp A).length+1-(m+2),by omega⟩;obtain⟨c,hc⟩:∃c,zL A D=c:=⟨_,rfl⟩
 have c0:0<=c:=by
  rw[<- hc]; unfold zL
  split
  . omega
  . rw[E9 D5]; omega
 have cc:Ed Ec 85 #[a,d] w fun e T=>e = Eh (Ey Ew c)/\zf w T:=by
  have:=qO w ha hd A0 D5 nA D5;rw[hc]at this;exact this
 have vD:=zD (show 0<=D by omega);have vA:=zD A0;have oD:=xw D;have oA:=xw A;have tD:=ZD (qi D) nD;obtain⟨Dl,bi⟩:∃l,zp D=l:=⟨_,rfl⟩;obtain⟨Al,er⟩:∃l,zp A=l:=⟨_,rfl⟩;rw[bi]at hd vD oD tD nD;rw[er]at ha vA oA nA hK ft;obtain⟨t,ht⟩:∃t,Dl.getD (m+1) 0=t:=⟨_,rfl⟩;have t0:=zG oD (m+1);rw[ht]at t0 tD;have la:=hd;obtain⟨aa,ca,rfl⟩:=ha.ak;obtain⟨ad,cd,rfl⟩:=hd.ak;obtain⟨-,-,ld,fd⟩:=hd.cells;obtain⟨bd,cN,rfl,gB,fl⟩:=fd D5;have g0:=fl (m+1) D5;rw[ht]at g0;have HA:=E6 ha;have HD:=E6 hd;obtain⟨nl,E⟩:∃n,Al.length=n:=⟨_,rfl⟩;have M:Hid (zo Dl=D/\zo Al=A/\yB Dl/\yB Al/\Dl.length=m+2/\Al.length=nl/\Dl.getD (m+1) 0=t):=⟨vD,vA,oD,oA,nD,E,ht⟩;rw[E]at nA ft hK cc HA|-;rw[nD]at ld cc HD|-;have gP:=E6 bi;clear la ha hd fd fl vD vA oD oA nD E ht bi er hc;unfold zP at nA
 go_enter Tryz.func157,Tryz.ntmps157
 go_wp2_with (go_at_call 85; refine cc.mono ?_; rintro e w1 ⟨rfl,ah⟩; have g1:=(ah.cell (p:=⟨bd,cN+(m+1),none⟩) gB).trans g0)
 go_loopw [7] (fun s wr=>∃sv:Nat,s = Ey Eg sv/\t*2^sv<4294967296/\sv<=31/\wr=w1) (fun s _=>(32-intOf s).toNat)
 case atStart=>exact⟨0,rfl,by simpa using t0.2,by omega,rfl⟩
 case round=>
  obtain⟨sv,rfl,s0,s1,rfl⟩:=hrel;obtain⟨p,hp⟩:∃p,t*2^sv=p:=⟨_,rfl⟩;have p0:0<=p:=by rw[<- hp]; exact Int.mul_nonneg t0.1 (Int.le_of_lt (Int.pow_pos D5))
  have hw:IntKind.u32.wrap (t*2^sv)=p:=by rw[hp,wrap_u32 p0 D5]
  rcases Int.lt_or_le p 2147483648 with Z | Z
  .
   have s2:sv+1<=31:=by
    rcases Ep sv 31 with h | h
    . omega
    .
     exfalso
     have e:sv=31:=D5
     subst e;have:=Int.mul_le_mul_of_nonneg_right (show 1<=t by omega) (show (0:Int)<=2^31 by decide);rw[hp]at this;simp at this;omega
   have s3:Hid (t*2^(sv+1)<4294967296):=by
    show t*2^(sv+1)<4294967296
    rw[Int.pow_succ,<- Int.mul_assoc,hp]; omega
   clear hp s0
   go_wp2
   go_roundw
   case rel=>exact⟨sv+1,by go_num,s3.out,by omega,by first | rfl | trivial⟩
   case measure=>simp[intOf]; omega
  .
   obtain⟨P,hP⟩:∃P,((2^sv:Nat):Int)=P:=⟨_,rfl⟩;have P0:1<=P:=by have:=Nat.one_le_two_pow (n:=sv); omega
   have P1:P<=2147483648:=by have:=Nat.pow_le_pow_right (show 0<2 by omega) s1; simp at this; omega
   have PQ:P*((2^(32-sv):Nat):Int)=4294967296:=by
    rw[<- hP,<- Int.natCast_mul,<- Nat.pow_add,show sv+(32-sv)=32 by omega]; decide
   have tP:t*P=p:=by rw[<- hp,<- hP]; simp
   have HN:=E6 (fun(L:List Int) (oL:yB L) (lL:L.length=m+3) (hL:zo L=zo Dl*P)=>Qs M.out.2.2.1 M.out.2.2.2.2.1 oL lL hL P0 PQ (by rw[M.out.2.2.2.2.2.2,tP]; exact Z) (by rw[M.out.2.2.2.2.2.2,tP,<- hp]; exact s0));have HP:=E6 (E7 hP PQ)
   have dl:Ed Ec 182 #[Ex (some ⟨bd,cN,none⟩) (m+2) cd,Ey Eg sv] wr fun e T=>∃g cap post L,e = Eh (Ex (some ⟨g,0,none⟩) (m+3) cap)/\wr.heap.size<=g/\m+3<=cap/\yB L/\L.length=m+3/\zo L=zo Dl*P/\ai T g 172 (xP [] L post)/\zf wr T:=by
    refine(Gs wr (HD.out.ae ah) (by have:=M.out.2.2.2.2.1; unfold zP; omega) s1).mono ?_;rintro e T ⟨v,L,rfl,Z,h2,h3,h4,h5⟩;rw[M.out.2.2.2.2.1]at h3 h4;obtain⟨g,cap,post,rfl,k1,k2,k3⟩:=v_ h4 D5;exact⟨g,cap,post,L,rfl,k1,k2,Z.ok,h3,by rw[h2,hP],k3,h5⟩
   have eM:∀w2,zf wr w2->Ed Ec 182 #[Ex aa nl ca,Ey Eg sv] w2 fun e T=>∃g cap post L,e = Eh (Ex (some ⟨g,0,none⟩) (K+(m+2)) cap)/\w2.heap.size<=g/\K+(m+2)<=cap/\yB L/\L.length=K+(m+2)/\zo L=zo Al*P/\ai T g 172 (xP [] L post)/\zf w2 T:=fun w2 hs=>by
    refine(Gs w2 ((HA.out.ae ah).ae hs) (by have:=M.out.2.2.2.2.2.1; unfold zP; omega) s1).mono ?_;rintro e T ⟨v,L,rfl,Z,h2,h3,h4,h5⟩;rw[M.out.2.2.2.2.2.1]at h3 h4;rw[hK]at h3 h4;obtain⟨g,cap,post,rfl,k1,k2,k3⟩:=v_ h4 D5;exact⟨g,cap,post,L,rfl,k1,k2,Z.ok,h3,by rw[h2,hP],k3,h5⟩
   have gn:=xT K D5;clear hp hP PQ tP s0 g0 t0 tD
   go_wp2_with (first
    | (go_at_call 182; refine dl.mono ?_; clear dl; rintro e w2 ⟨gv,capv,gA,Lv,rfl,gM,gO,ov,lv,vv,bv,bh⟩; have dk:=eM w2 bh)
    | (go_at_call 182; refine dk.mono ?_; clear dk eM; rintro e X ⟨gu,capu,I,Lu,rfl,gN,gQ,ou,lu,vu,bu,cg⟩))
   have NT:=HN.out Lv ov lv vv;obtain⟨J,b9⟩:∃l,Lv.take (m+2)=l:=⟨_,rfl⟩;rw[b9]at NT;have co:yB J:=by rw[<- b9]; exact yh ov _
   have lV:J.length=m+2:=by rw[<- b9,List.length_take]; omega
   have em:Cells w2 gv 0 J:=fun t ht=>by
    rw[lV]at ht;rw[bv.cell,xu (j:=0) rfl D5,<- b9];simp[List.getD,List.getElem?_take,ht]
   have eW:gv<w2.heap.size:=bv.lt;have dy:Cells X gv 0 J:=em.below cg eW;obtain⟨W3,be⟩:∃W,X.alloc (.cells (madeCells #[Ey Eu 0] K) 172)=W:=⟨_,rfl⟩;have SW:zf X W3:=by rw[<- be]; exact(Et _ _).alloc (Eo _) _
   have K0:ai W3 X.heap.size 172 (zI (List.replicate K 0 ++ [])).toArray:=by
    have:=ai.new X 172 (madeCells #[Ey Eu 0] K);rw[be,yH,<- List.append_nil (List.replicate K (0:Int))]at this;exact this
   have dP:ai W3 gu 172 (xP [] Lu I):=bu.ae SW;have d9:Cells W3 gv 0 J:=dy.below SW (Nat.lt_of_lt_of_le eW cg.size);have BW:Below w.heap.size w W3:=zt (zt (zt ah (Eo _) bh) (Eo _) cg) (Eo _) SW;have gq:X.heap.size<W3.heap.size:=K0.lt;have gR:gu<X.heap.size:=bu.lt;have z1:=ah.size;have z2:=bh.size
   have start:zo (Lu.drop K)<zo J:=by
    refine Yr (la:=nl) (A:=A) (P:=P) ou lu hK (by rw[vu,M.out.2.1]) ?_ A0 P0 P1 (by rw[NT.1]; exact NT.2.2);have:=yS M.out.2.2.2.1;rw[M.out.2.1,M.out.2.2.2.2.2.1]at this;exact this
   have vV:zo J<bp (m+2):=by have:=yS co; rwa[lV]at this
   have HS:=E6 (E7 NT (E7 vu (E7 co (E7 lV vV))));have ed:=E6 lu;rw[be];clear gn b9 em dy bv bu NT lv lu vv vu HN ov be SW co lV vV
   go_loopw [11] (fun jv wr=>∃ (k:Nat) (H qs:List Int),k<=K/\jv = Ey Ew ((k:Int)-1)/\yB H/\H.length=K+(m+2)/\yB qs/\qs.length+k=K/\zo H+zo J*(bp k*zo qs)=zo Al*P/\zo (H.drop k)<zo J/\
     ai wr gu 172 (xP [] H I)/\ai wr X.heap.size 172 (zI (List.replicate k 0++qs)).toArray/\Cells wr gv 0 J/\Below w.heap.size w wr) (fun j _=>(intOf j+1).toNat)
   case atStart=>exact⟨K,Lu,[],Eo _,by go_num,ou,ed.out,yg,by simp,by simp[zo]; exact HS.out.2.1,start,dP,K0,d9,BW⟩
   case round=>
    obtain⟨k,H,qs,hk,cn,oU,lU,oq,lq,vq,dq,Y,bg,br,bl⟩:=hrel;clear start dP K0 d9 BW
    rcases Nat.eq_zero_or_pos k with rfl | hp
    .
     rename Ee=>w4;have g8:=cn.trans (show Value.int Ew (((0:Nat):Int)-1)=Value.int Ew (-1) from rfl);clear cn;subst g8;have ce:qs.length=K:=D5
     rw[kN,Int.one_mul]at vq;rw[List.drop_zero]at dq
     have cU:aA w4 (Ex (some ⟨X.heap.size,0,none⟩) K K) qs:=by
      have:=aA.a_ bg oq;rw[List.replicate_zero,List.nil_append,ce]at this;exact this
     have e0:=zE oU;have DP:zo J=D*P:=by rw[HS.out.1.1,M.out.1]
     have hP:=HP.out;obtain⟨W,hW⟩:∃W,A%D=W:=⟨_,rfl⟩
     have QR:A / D=zo qs/\zo H=W*P:=by
      have Z:=jU (A:=A*P) (D:=D*P) (q:=zo qs) (r:=zo H) (by rw[<- DP]; rw[M.out.2.1]at vq; omega) e0 (by rw[<- DP]; exact dq);rw[Int.mul_ediv_mul_of_pos_left _ _ D5]at Z;have h2:=Int.mul_ediv_add_emod A D;have h3:A*P=(D*(A / D)+A%D)*P:=by rw[h2]
      rw[Int.add_mul,Int.mul_right_comm,hW,Z.1]at h3;rw[M.out.2.1,DP]at vq;exact⟨Z.1,by omega⟩
     have TA:=Yq (n:=m+2) oU D5 (by have:=HS.out.2.2.2.2; omega);obtain⟨R,hR⟩:∃R,H.take (m+2)=R:=⟨_,rfl⟩;have f9:yB R:=by rw[<- hR]; exact yh oU _
     have lR:R.length=m+2:=by rw[<- hR,List.length_take]; omega
     have vR:zo R=W*P:=by rw[<- hR,TA.1,QR.2]
     have cR:∀t,t<m+2->w4.cell? ⟨gu,t,none⟩=some (Ey Eu (R.getD t 0)):=fun t ht=>by
      have h:=xu (post:=I) (j:=0) (pre:= []) (t:=t) (U:=H) rfl D5;rw[Nat.zero_add]at h;rw[Y.c t h,<- hR];simp[List.getD,List.getElem?_take,ht]
     have cx:gu<w4.heap.size:=Y.lt;have HE:=E6 (E7 QR.1 (E7 oq (E7 ce (E7 f9 (E7 lR vR)))));have HW:=E6 hW;clear oU lU oq lq ce vq dq Y bg br TA hR f9 lR vR QR DP e0 HS ed
     go_wp2
     go_loopw [13,14,15] (fun o i x wr=>∃ (k:Nat),k<=m+2/\i = Ey Ew k/\wr.ownsRow w4.heap.size 172 1 o k (zI (Xd k W))/\Below w4.heap.size w4 wr) (fun _ i _ _=>m+2-(intOf i).toNat)
     case atStart=>exact⟨0,Nat.zero_le _,rfl,World.ownsRow_nil _ _ _ _,Et _ _⟩
     case round=>
      obtain⟨k,hk,rfl,aY,E⟩:=hrel;have BL:=VA (R:=R) (k:=k) HE.out.2.2.2.1 (P:=P) (Q:=((2^(32-sv):Nat):Int));have g9:(2:Int)^sv=P:=by rw[<- HP.out.1]; simp
      obtain⟨u,hu⟩:∃x,R.getD k 0=x:=⟨_,rfl⟩;obtain⟨v,hv⟩:∃x,R.getD (k+1) 0=x:=⟨_,rfl⟩;have u0:=zG HE.out.2.2.2.1 k;have v0:=zG HE.out.2.2.2.1 (k+1);rw[hu]at u0;rw[hv]at v0
      have S0:k<m+2->Hid ((u+v*4294967296) / 2^sv%4294967296=W / bp k%4294967296):=fun h=>by
       have:=BL (by have:=HE.out.2.2.2.2.1; omega) P0 HP.out.2;rw[HE.out.2.2.2.2.2,Int.mul_ediv_cancel _ D5,hu,hv]at this;rw[g9];exact this
      clear BL g9
      rcases Ep k (m+2)with bt | bt
      .
       have S:=S0 bt;have g2:=(E.cell (p:=⟨gu,k,none⟩) cx).trans (cR k bt);rw[hu]at g2
       rcases Ep (k+1) (m+2)with fe | fe
       focus
        have g3:=(E.cell (p:=⟨gu,k+1,none⟩) cx).trans (cR (k+1) fe);rw[hv]at g3
       rotate_left
       focus
        have gI:v=0:=by rw[<- hv]; have:=HE.out.2.2.2.2.1; simp[List.getD,List.getElem?_eq_none (show R.length<=k+1 by omega)]
        subst gI;rw[Int.zero_mul,Int.add_zero]at S
       rotate_left
       all_goals
        clear cR hu hv S0
        go_wp2_with (at_builtin; refine yu rfl (.tmp 101) (.tmp 106) 24 rfl w4.heap.size 172 i0 Tryz.underlying24 hi gt gG gH _ k (Xd k W) rfl (aY.alloc _) _ [_] rfl (aA.one (Int.emod_nonneg _ D7) (Int.emod_lt_of_pos _ D7)) (by simp; omega) (by rw[World.size_alloc]; have:=E.size; omega) ?_)
        intro v' w5 aX gD gF
        go_wp2
        go_roundw
        case rel=>
         rw[S.out]at aX;exact⟨k+1,by omega,by go_num,by rw[Uj]; exact aX,(E.alloc E.size _).grown gD (by rw[World.size_alloc]; have:=E.size; omega) gF⟩
        case measure=>simp[intOf]; omega
      .
       clear cR hu hv S0;have gE:k=m+2:=D5
       subst gE
       have vW:zo (Xd (m+2) W)=W:=by
        refine Yn ?_ ?_
        . rw[<- HW.out]; exact Int.emod_nonneg _ D5
        .
         have Z:=Int.emod_lt_of_pos A (show 0<D by omega);rw[HW.out]at Z;have h2:=yS M.out.2.2.1;rw[M.out.1,M.out.2.2.2.2.1]at h2;omega
       have gC:=Ym (m+2) W;have ek:=E6 (E7 vW (XO (m+2) W));have Lr:=aA.own aY (XO (m+2) W);have Lq:=cU.ae E;have lq:qs.length<=zP:=by have:=HE.out.2.2.1; unfold zP; omega
       have lr:(Xd (m+2) W).length<=zP:=by unfold zP; omega
       clear vW gC cU aY
       go_wp2_with (first
        | (go_at_call 170; refine(Ys _ Lq lq).mono ?_; clear Lq; rintro e w6 ⟨v6,rfl,gz,cy⟩; have f7:=Lr.ae cy)
        | (go_at_call 170; refine(Ys _ f7 lr).mono ?_; clear f7; rintro e w7 ⟨v7,rfl,gJ,dz⟩))
       go_returns
       have dx:=HE.out;refine⟨_,_,rfl,?_,?_,zt (zt (zt bl (Eo _) E) (Eo _) cy) (Eo _) dz⟩
       .
        rw[dx.1,yt dx.2.1];exact gz.ae dz
       .
        rw[HW.out];have:=yt ek.out.2;rw[ek.out.1]at this;rw[this];exact gJ
    .
     obtain⟨j,rfl⟩:∃j,k=j+1:=⟨k-1,by omega⟩;subst cn;have gL:¬capu=j:=D5
     have HU:=E6 (E7 oU (E7 lU (E7 oq (E7 lq (E7 vq dq)))));clear oU lU oq lq vq dq
     have dc:Ed Ec 183 #[Ex (some ⟨gu,j,none⟩) (j+(m+2)+1-j) (capu-j),Ex (some ⟨gv,0,none⟩) (m+2) capv] wr fun e T=>∃ (x:Int) (Un:List Int),e = Eh (Ey Eu x)/\0<=x/\x<4294967296/\
       Hid (yB Un/\Un.length=K+(m+2)/\zo Un+zo J*(bp j*zo (x::qs))=zo Al*P/\zo (Un.drop j)<zo J)/\
       ai T gu 172 (xP [] Un I)/\wr.grownBy T (some gu):=by
      obtain⟨o1,o2,o3,o4,o5,o6⟩:=HU.out;have S:=Xf (m:=m) o1 D5 HS.out.2.2.2.2 o6;have lT:(H.take j).length=j:=by rw[List.length_take]; omega
      have gd:=HS.out.1.2.1
      have C:=GP (m:=m) (pre:=zI (H.take j)) (post:=zI (H.drop (j+(m+3)))++I) (U:=(H.drop j).take (m+3)) (V:=J) (g:=gu) (j:=j) (b:=gv) (o:=0) (capu:=capu-j) (capv:=capv) wr
       (by rw[<- Xi]; exact Y) (by rw[yL]; exact lT) (by rw[List.length_take,List.length_drop]; omega) (yh (xS o1 _) _) br HS.out.2.2.2.1 HS.out.2.2.1 (Nat.lt_trans D5 Y.lt) D5 (by unfold zP; omega) gd S.1
      rw[show j+(m+2)+1-j=m+3 by omega];refine C.mono ?_;rintro e T ⟨U',rfl,k1,k2,k3,k4,k5⟩;rw[S.2.1]at k3|-;have p1:=xY (m+1);have f8:0<zo J:=by rw[HS.out.1.1]; have:=HS.out.1.2.2; omega
      have e0:=Int.mul_ediv_add_emod (zo (H.drop j)) (zo J);have n0:=zE (xS o1 j);have q0:0<=zo (H.drop j) / zo J:=Int.ediv_nonneg n0 D5;have q1:zo (H.drop j) / zo J<4294967296:=Int.ediv_lt_of_lt_mul f8 (by have:=S.1; rw[S.2.1,Int.mul_comm]at this; exact this);have m1:=Int.emod_lt_of_pos (zo (H.drop j)) f8;have N:=Xg (m:=m) (j:=j) (U:=H) (S:=U') (qs:=qs) (q:=zo (H.drop j) / zo J) (V:=zo J) k1 D5 S.2.2 o5 (by rw[k3,Int.mul_comm (zo (H.drop j) / zo J)]; omega) (by rw[k3]; exact m1);refine⟨_,H.take j++(U'++H.drop (j+(m+3))),rfl,q0,q1,⟨?_,?_,N.1,N.2⟩,?_,k5⟩
      . exact xt.2 ⟨yh o1 _,xt.2 ⟨k2,xS o1 _⟩⟩
      . rw[List.length_append,List.length_append,lT,k1,List.length_drop]; omega
      . rw[<- Qv]; exact k4
     go_wp2_with (go_at_call 183; refine dc.mono ?_; clear dc; rintro e wd ⟨x,Un,rfl,x0,x1,HN,ey,ci⟩; have a9:ai wd X.heap.size 172 (zI (List.replicate (j+1) 0++qs)).toArray:=(ci.block _ bg.lt (fun e=>by have:=Option.some.inj e; omega)).trans bg; have g2:wd.cell? ⟨X.heap.size,j,none⟩=some (Ey Eu 0):=a9.c _ (by simp[zI,List.getElem?_append,List.getElem?_replicate]); have g3:wd.frozen? ⟨X.heap.size,j,none⟩=false:=a9.fr _)
     go_roundw
     case rel=>
      obtain⟨o1,o2,o3,o4,o5,o6⟩:=HU.out;refine⟨j,Un,x::qs,by omega,rfl,HN.out.1,HN.out.2.1,ye.2 ⟨⟨x0,x1⟩,o3⟩,by rw[List.length_cons]; omega,HN.out.2.2.1,HN.out.2.2.2,ey.aH D5,a9.bF (Yt j _ qs),(br.grown ci (Nat.lt_trans D5 Y.lt) D5).set D5,?_⟩;exact(bl.grown ci bl.size (fun k hk=>by have:=Option.some.inj hk; omega)).setCell (p:=⟨X.heap.size,j,none⟩) (show w.heap.size<=X.heap.size by omega) _
     case measure=>simp[intOf]
end
end Go.Proofs.YtffmbepfbienaaaGreat
