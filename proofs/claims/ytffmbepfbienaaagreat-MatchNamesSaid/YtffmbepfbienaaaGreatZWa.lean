import Derived.Test.YtffmbepfbienaaaGreatZBits
import Derived.Deep.OwnRows
import Derived.Deep.CutBlock
set_option linter.unusedVariables false
set_option linter.unusedSimpArgs false
set_option maxHeartbeats 6400000
set_option maxRecDepth 1000000
open Go.Value renaming slice->Cq,int->Cz
open Go.IntKind renaming i64->Cv,u32->Cw,u64->Cu
open Go.Ending renaming returned->Cg
open Go.Proofs.Tryz renaming prog->Ch
open Go renaming Calls->Cb,World->Cc,Value->Cd
open Nat renaming le_refl->Cl,lt_or_ge->Cm
open Go.RowKit.Below renaming refl->Cp
namespace Go.Proofs.YtffmbepfbienaaaGreat
section
open Go.RowKit
variable {x:Int} {A B l:List Int} {k:Nat} {a b:Cd}
def aE:Nat:=100000000
theorem qT {y:Int} (w:Cc) (ha:aA w a (zn x)) (hb:aA w b (zn y)) (hx:0<=x) (hy:0<=y) (nx:(zn x).length<=aE) (ny:(zn y).length<=aE) :
  Cb Ch 85 #[a,b] w fun e w'=>e = Cg (Cz Cv (zI x y))/\zf w w':=by
 obtain⟨aa,ca,rfl⟩:=ha.au;obtain⟨ab,cb,rfl⟩:=hb.au;obtain⟨oa,-,la,fa⟩:=ha.cells;obtain⟨ob,-,lb,fb⟩:=hb.cells;clear ha hb;unfold aE at nx ny;obtain⟨A,T⟩:∃A,zn x=A:=⟨_,rfl⟩;obtain⟨B,X⟩:∃B,zn y=B:=⟨_,rfl⟩;have vA:zj A=x:=by rw[<- T,zA hx]
 have vB:zj B=y:=by rw[<- X,zA hy]
 have Z:A.length<B.length->x<y:=fun h=>z6 hx hy (by rw[T,X]; exact h);have ah:B.length<A.length->y<x:=fun h=>z6 hy hx (by rw[T,X]; exact h);rw[T]at fa oa la nx;rw[X]at fb ob lb ny;rw[T,X];obtain⟨n,M⟩:∃n,A.length=n:=⟨_,rfl⟩;obtain⟨m,N⟩:∃m,B.length=m:=⟨_,rfl⟩;have H:Hid ((n<m->x<y)/\(m<n->y<x)/\zj A=x/\zj B=y/\A.length=n/\B.length=m):=⟨by rw[<- M,<- N]; exact Z,by rw[<- M,<- N]; exact ah,vA,vB,M,N⟩;rw[M]at fa la nx;rw[N]at fb lb ny;rw[M,N];clear Z ah vA vB M N T X hx hy
 rcases Nat.lt_trichotomy n m with h | h | h
 .
  go_enter Tryz.func85,Tryz.ntmps85
  go_wp2
  go_returns
  have:=H.out.1 h;exact⟨yT (by unfold zI; rw[C8 B_,C7 this]),Cp _ _⟩
 .
  subst h
  go_enter Tryz.func85,Tryz.ntmps85
  go_wp2
  go_loopw [5] (fun i wr=>∃k:Nat,k<=n/\i = Cz Cv ((k:Int)-1)/\zj (A.drop k)=zj (B.drop k)/\Below w.heap.size w wr) (fun i _=>(intOf i+1).toNat)
  case atStart=>exact⟨n,Cl _,by go_num,by rw[List.drop_of_length_le (by have:=H.out.2.2.2.2.1; omega),List.drop_of_length_le (by have:=H.out.2.2.2.2.2; omega)],Cp _ _⟩
  case round=>
   obtain⟨k,hk,rfl,hd,I⟩:=hrel
   rcases Nat.eq_zero_or_pos k with rfl | hp
   .
    go_wp2
    go_returns
    have h1:=H.out.2.2.1;have h2:=H.out.2.2.2.1;simp only[List.drop_zero]at hd;exact⟨yT (by unfold zI; rw[C7 B_]),I⟩
   .
    obtain⟨j,rfl⟩:∃j,k=j+1:=⟨k-1,by omega⟩;obtain⟨ba,bf,rfl,b9,a9⟩:=fa B_;obtain⟨bb,be,rfl,bg,Y⟩:=fb B_;have g1:=(I.cell (p:=⟨ba,bf+j,none⟩) b9).trans (a9 j (by rw[H.out.2.2.2.2.1]; omega));have g2:=(I.cell (p:=⟨bb,be+j,none⟩) bg).trans (Y j (by rw[H.out.2.2.2.2.2]; omega));obtain⟨u,hu⟩:∃u,A.getD j 0=u:=⟨_,rfl⟩;obtain⟨v,hv⟩:∃v,B.getD j 0=v:=⟨_,rfl⟩;rw[hu]at g1;rw[hv]at g2;have J:Hid (A.getD j 0=u/\B.getD j 0=v):=⟨hu,hv⟩;clear a9 Y fa fb hu hv
    have E:Hid (zj (A.drop j)=u+4294967296*zj (A.drop (j+1))/\zj (B.drop j)=v+4294967296*zj (B.drop (j+1))):=by
     rw[<- J.out.1,<- J.out.2]; exact⟨yq A j,yq B j⟩
    have D:Hid (u<v->x<y):=fun h=>by
     have:=YH oa ob (i:=j) (by have:=H.out.2.2.2.2.1; omega) (by have:=H.out.2.2.2.2.2; omega) hd (by rw[J.out.1,J.out.2]; exact h);have h1:=H.out.2.2.1;have h2:=H.out.2.2.2.1;omega
    have D':Hid (v<u->y<x):=fun h=>by
     have:=YH ob oa (i:=j) (by have:=H.out.2.2.2.2.2; omega) (by have:=H.out.2.2.2.2.1; omega) hd.symm (by rw[J.out.1,J.out.2]; exact h);have h1:=H.out.2.2.1;have h2:=H.out.2.2.2.1;omega
    go_wp2
    go_quiet (fail)
    go_wp2
    .
     have hl:u<v:=by assumption
     go_returns
     have:=D.out hl;exact⟨yT (by unfold zI; rw[C8 B_,C7 this]),yD I _⟩
    .
     go_quiet (fail)
     go_wp2
     .
      have hl:v<u:=by assumption
      go_returns
      have:=D'.out hl;exact⟨yT (by unfold zI; rw[C8 B_,C8 B_]),yD (yD I _) _⟩
     .
      go_roundw
      case rel=>exact⟨j,by omega,by go_num,by have:=E.out; omega,by first | exact yD I _ | exact yD (yD I _) _⟩
      case measure=>simp[intOf]
 .
  go_enter Tryz.func85,Tryz.ntmps85
  go_wp2
  go_returns
  have:=H.out.2.1 h;exact⟨yT (by unfold zI; rw[C8 B_,C8 B_]),Cp _ _⟩
theorem vw:(Tryz.prog.info? 172).map (fun i=>(i.zero,i.size,i.bytes))=some (some (Cz Cw 0),1,4):=by kernel_rfl
theorem jp (E:k<l.length) (h:l.getD k 0=0):zJ (l.take (k+1))=zJ (l.take k):=by
 rw[List.take_succ_eq_append_getElem E];have:l[k]=0:=by simpa[List.getD,E]using h
 rw[this,vO]
theorem jq (E:k<l.length) (h:l.getD k 0≠0):zJ (l.take (k+1))=l.take (k+1):=by
 rw[List.take_succ_eq_append_getElem E];refine jW (List.append_ne_nil_of_right_ne_nil _ (List.cons_ne_nil _ _)) ?_;rw[List.getLast_append_of_ne_nil _ (List.cons_ne_nil _ _)];simpa[List.getD,E]using h
theorem Zo (w:Cc) (ha:aA w a l) (nl:l.length<=aE) :
  Cb Ch 170 #[a] w fun e w'=>∃v,e = Cg v/\aA w' v (zJ l)/\zf w w':=by
 obtain⟨i0,hi,Y,a9,Z⟩:=info_parts vw;obtain⟨aa,ca,rfl⟩:=ha.au;obtain⟨ol,-,la,fa⟩:=ha.cells;have HL:Hid (aA w (Cq aa l.length ca) l):=ha;clear ha;unfold aE at nl;obtain⟨n,hn⟩:∃n,l.length=n:=⟨_,rfl⟩;have H:Hid (l.length=n):=hn;rw[hn]at fa la nl;rw[hn];clear hn
 go_enter Tryz.func170,Tryz.ntmps170
 go_wp2
 go_loopw [3] (fun i wr=>∃k:Nat,k<=n/\i = Cz Cv k/\zJ (l.take k)=zJ l/\Below w.heap.size w wr) (fun i _=>(intOf i).toNat)
 case atStart=>exact⟨n,Cl _,rfl,by rw[List.take_of_length_le (by have:=H.out; omega)],Cp _ _⟩
 case round=>
  obtain⟨k,hk,rfl,hd,E⟩:=hrel;have T:Hid (zJ (l.take k)=zJ l):=hd;clear hd
  have fin:zJ l=l.take k->aA (wr.alloc (.cells #[] 172)) (Cq aa k ca) (zJ l)/\(zJ l).length=k:=fun e=>by
   have h1:=H.out;rw[e];have:=HL.out;rw[H.out]at this;exact⟨(this.ae (E.alloc E.size _)).take B_,by rw[List.length_take]; omega⟩
  have K2:=E.size
  rcases Nat.eq_zero_or_pos k with rfl | hp
  .
   obtain⟨X,hl⟩:=fin (by rw[<- T.out]; rfl);have L0:=C5 X;have L1:=C5 hl;clear fin X hl
   go_wp2_with (at_builtin; refine z' rfl (.tmp 18) (.tmp 21) 24 rfl w.heap.size 172 i0 Tryz.underlying24 hi Y a9 Z _ 0 [] rfl (World.ownsRow_made wr #[] 0 K2 (Nat.zero_le _) rfl) _ (zJ l) rfl L0.out (by have:=L1.out; omega) C4 ?_)
   intro v' w1 I hg J;have M:=aA.own I (by simpa using kj ol)
   go_wp2
   go_returns
   exact⟨_,rfl,by simpa using M,(E.alloc K2 _).grown hg C4 J⟩
  .
   obtain⟨j,rfl⟩:∃j,k=j+1:=⟨k-1,by omega⟩;obtain⟨ba,b9,rfl,ah,N⟩:=fa B_;have g1:=(E.cell (p:=⟨ba,b9+j,none⟩) ah).trans (N j (by rw[H.out]; omega));obtain⟨u,hu⟩:∃u,l.getD j 0=u:=⟨_,rfl⟩;rw[hu]at g1;have HU:Hid (l.getD j 0=u):=hu;have hj:j<l.length:=by have:=H.out; omega
   rcases Int.decEq u 0 with be | rfl
   .
    obtain⟨X,hl⟩:=fin (by rw[<- T.out]; exact jq hj (by rw[HU.out]; exact be));have L0:=C5 X;have L1:=C5 hl;clear fin X hl N fa hu hj
    go_wp2_with (at_builtin; refine z' rfl (.tmp 18) (.tmp 21) 24 rfl w.heap.size 172 i0 Tryz.underlying24 hi Y a9 Z _ 0 [] rfl (World.ownsRow_made wr #[] 0 K2 (Nat.zero_le _) rfl) _ (zJ l) rfl L0.out (by have:=L1.out; omega) C4 ?_)
    intro v' w1 I hg J;have M:=aA.own I (by simpa using kj ol)
    go_wp2
    go_returns
    exact⟨_,rfl,by simpa using M,(E.alloc K2 _).grown hg C4 J⟩
   .
    have T2:Hid (zJ (l.take j)=zJ l):=by rw[<- T.out]; exact(jp hj HU.out).symm
    clear fin N fa hu hj
    go_wp2
    go_roundw
    case rel=>exact⟨j,by omega,by go_num,T2.out,E⟩
    case measure=>simp[intOf]
theorem Gc (w:Cc) (ha:aA w a A) (hb:aA w b B) (nA:A.length<=aE) (nB:B.length<=aE) :
  Cb Ch 196 #[a,b] w fun e w'=>∃v l,e = Cg v/\aA w' v l/\zj l=zj A+zj B/\l.length=max A.length B.length+1/\zf w w':=by
 obtain⟨i0,hi,a9,ah,b9⟩:=info_parts vw;obtain⟨aa,ca,rfl⟩:=ha.au;obtain⟨ab,cb,rfl⟩:=hb.au;obtain⟨oa,-,la,fa⟩:=ha.cells;obtain⟨ob,-,lb,fb⟩:=hb.cells;clear ha hb;unfold aE at nA nB;obtain⟨n,hn⟩:∃n,A.length=n:=⟨_,rfl⟩;obtain⟨m,hm⟩:∃m,B.length=m:=⟨_,rfl⟩;have H:Hid (A.length=n/\B.length=m):=⟨hn,hm⟩;rw[hn]at fa la nA;rw[hm]at fb lb nB;rw[hn,hm];clear hn hm
 go_enter Tryz.func196,Tryz.ntmps196
 go_wp2
 go_loopw [5,6,7] (fun o c i wr=>∃ (k:Nat) (xs:List Int) (M:Int),k<=max n m/\i = Cz Cv k/\c = Cz Cu M/\0<=M/\M<=1/\xs.length=k/\yn xs/\zj xs+bp k*M=zj (A.take k)+zj (B.take k)/\
   wr.ownsRow w.heap.size 172 1 o k (zH xs)/\Below w.heap.size w wr) (fun _ _ i _=>(max n m-(intOf i).toNat))
 case atStart=>exact⟨0,[],0,Nat.zero_le _,rfl,rfl,by omega,by omega,rfl,z4,by simp[zj],World.ownsRow_nil _ _ _ _,Cp _ _⟩
 case round=>
  obtain⟨k,xs,M,hk,rfl,rfl,c0,c1,hl,bh,hv,X,J⟩:=hrel;have Z:=J.size;have N:Hid (xs.length=k/\yn xs/\zj xs+bp k*M=zj (A.take k)+zj (B.take k)):=⟨hl,bh,hv⟩;clear hl bh hv;obtain⟨u,hu⟩:∃u,A.getD k 0=u:=⟨_,rfl⟩;obtain⟨v,hv⟩:∃v,B.getD k 0=v:=⟨_,rfl⟩;have u0:=zF oa k;have v0:=zF ob k;rw[hu]at u0;rw[hv]at v0;have HU:Hid (A.getD k 0=u/\B.getD k 0=v):=⟨hu,hv⟩;have zu:n<=k->u=0:=fun h=>by rw[<- hu]; have:=H.out.1; simp[List.getD,List.getElem?_eq_none (show A.length<=k by omega)]
  have zv:m<=k->v=0:=fun h=>by rw[<- hv]; have:=H.out.2; simp[List.getD,List.getElem?_eq_none (show B.length<=k by omega)]
  rcases Cm k n with h1 | h1
  .
   obtain⟨ba,bl,rfl,bi,bg⟩:=fa B_;have g1:=(J.cell (p:=⟨ba,bl+k,none⟩) bi).trans (bg k (by rw[H.out.1]; omega));rw[hu]at g1
   rcases Cm k m with h2 | h2
   .
    obtain⟨bb,be,rfl,bf,Y⟩:=fb B_;have g2:=(J.cell (p:=⟨bb,be+k,none⟩) bf).trans (Y k (by rw[H.out.2]; omega));rw[hv]at g2;clear bg Y fa fb hu hv zu zv
    go_wp2_with (at_builtin; refine z' rfl (.tmp 42) (.tmp 45) 24 rfl w.heap.size 172 i0 Tryz.underlying24 hi a9 ah b9 _ k xs rfl (X.alloc _) _ [_] rfl (aA.one B_ B_) (by simp; omega) C4 ?_)
    intro v' w1 I hg T
    go_wp2
    go_roundw
    case rel=>
     have S:=xL (s:=M+u+v) N.out.1 N.out.2.2 (by rw[HU.out.1,HU.out.2]; omega);exact⟨k+1,xs ++ [(M+u+v)%4294967296],(M+u+v) / 4294967296,by omega,by go_num,by go_num,by omega,by omega,by rw[List.length_append,N.out.1]; rfl,zO N.out.2.1 B_ B_,S,I,(J.alloc Z _).grown hg C4 T⟩
    case measure=>simp[intOf]; omega
   .
    obtain rfl:=zv h2;clear bg fa fb hu hv zu zv
    go_wp2_with (at_builtin; refine z' rfl (.tmp 42) (.tmp 45) 24 rfl w.heap.size 172 i0 Tryz.underlying24 hi a9 ah b9 _ k xs rfl (X.alloc _) _ [_] rfl (aA.one B_ B_) (by simp; omega) C4 ?_)
    intro v' w1 I hg T
    go_wp2
    go_roundw
    case rel=>
     have S:=xL (s:=M+u) N.out.1 N.out.2.2 (by rw[HU.out.1,HU.out.2]; omega);exact⟨k+1,xs ++ [(M+u)%4294967296],(M+u) / 4294967296,by omega,by go_num,by go_num,by omega,by omega,by rw[List.length_append,N.out.1]; rfl,zO N.out.2.1 B_ B_,S,I,(J.alloc Z _).grown hg C4 T⟩
    case measure=>simp[intOf]; omega
  .
   obtain rfl:=zu h1
   rcases Cm k m with h2 | h2
   .
    obtain⟨bb,be,rfl,bf,Y⟩:=fb B_;have g2:=(J.cell (p:=⟨bb,be+k,none⟩) bf).trans (Y k (by rw[H.out.2]; omega));rw[hv]at g2;clear Y fa fb hu hv zu zv
    go_wp2_with (at_builtin; refine z' rfl (.tmp 42) (.tmp 45) 24 rfl w.heap.size 172 i0 Tryz.underlying24 hi a9 ah b9 _ k xs rfl (X.alloc _) _ [_] rfl (aA.one B_ B_) (by simp; omega) C4 ?_)
    intro v' w1 I hg T
    go_wp2
    go_roundw
    case rel=>
     have S:=xL (s:=M+v) N.out.1 N.out.2.2 (by rw[HU.out.1,HU.out.2]; omega);exact⟨k+1,xs ++ [(M+v)%4294967296],(M+v) / 4294967296,by omega,by go_num,by go_num,by omega,by omega,by rw[List.length_append,N.out.1]; rfl,zO N.out.2.1 B_ B_,S,I,(J.alloc Z _).grown hg C4 T⟩
    case measure=>simp[intOf]; omega
   .
    clear fa fb hu hv zu zv;have E:=H.out
    go_wp2_with (at_builtin; refine z' rfl (.tmp 49) (.tmp 52) 24 rfl w.heap.size 172 i0 Tryz.underlying24 hi a9 ah b9 _ k xs rfl (X.alloc _) _ [_] rfl (aA.one B_ B_) (by simp; omega) C4 ?_)
    intro v' w1 I hg T
    go_wp2
    go_returns
    refine⟨_,xs ++ [M],rfl,aA.own I (zO N.out.2.1 B_ B_),?_,?_,(J.alloc Z _).grown hg C4 T⟩
    .
     have:=N.out.2.2;rw[List.take_of_length_le B_,List.take_of_length_le B_]at this;rw[yE,N.out.1];exact this
    .
     rw[List.length_append,N.out.1]
     show k+1=_
     omega
theorem wrap_u64 (h0:0<=x) (E:x<18446744073709551616):IntKind.u64.wrap x=x:=by
 rw[IntKind.wrap_u64]; omega
theorem Yg {xs:List Int} {c s P:Int} (E:xs.length=k) (h:zj xs+bp k*c=zj (A.take k)*P) (H:s=c+A.getD k 0*P) :
  zj (xs ++ [s%4294967296])+bp (k+1)*(s / 4294967296)=zj (A.take (k+1))*P:=by
 rw[yE,E,yc,Int.add_mul,Int.mul_assoc];have e:=km k s;have I:bp k*s=bp k*c+bp k*(A.getD k 0*P):=by rw[H,Int.mul_add]
 omega
theorem UT {s:Nat} (w:Cc) (ha:aA w a A) (nA:A.length<=aE) (hs:s<=31) :
  Cb Ch 182 #[a,Cz Cu s] w fun e w'=>∃v l,e = Cg v/\aA w' v l/\zj l=zj A*(2^s:Nat)/\l.length=A.length+1/\w'.ownsRow w.heap.size 172 1 v (A.length+1) (zH l)/\zf w w':=by
 obtain⟨i0,hi,Y,a9,b9⟩:=info_parts vw;obtain⟨aa,ca,rfl⟩:=ha.au;obtain⟨oa,-,la,fa⟩:=ha.cells;clear ha;unfold aE at nA;obtain⟨n,hn⟩:∃n,A.length=n:=⟨_,rfl⟩;have H:Hid (A.length=n):=hn;rw[hn]at fa la nA;rw[hn];clear hn;obtain⟨P,hP⟩:∃P,((2^s:Nat):Int)=P:=⟨_,rfl⟩;have P0:1<=P:=by have:=Nat.one_le_two_pow (n:=s); omega
 have P1:P<=2147483648:=by have:=Nat.pow_le_pow_right (show 0<2 by omega) hs; simp at this; omega
 have HP:Hid (((2^s:Nat):Int)=P):=hP;clear hP
 go_enter Tryz.func182,Tryz.ntmps182
 go_wp2
 go_loopw [5,6,7] (fun o c i wr=>∃ (k:Nat) (xs:List Int) (I:Int),k<=n/\i = Cz Cv k/\c = Cz Cu I/\0<=I/\I<P/\xs.length=k/\yn xs/\zj xs+bp k*I=zj (A.take k)*P/\
   wr.ownsRow w.heap.size 172 1 o k (zH xs)/\Below w.heap.size w wr) (fun _ _ i _=>(n-(intOf i).toNat))
 case atStart=>exact⟨0,[],0,Nat.zero_le _,rfl,rfl,by omega,by omega,rfl,z4,by simp[zj],World.ownsRow_nil _ _ _ _,Cp _ _⟩
 case round=>
  obtain⟨k,xs,I,hk,rfl,rfl,c0,c1,hl,X,hv,M,J⟩:=hrel;have Z:=J.size;have N:Hid (xs.length=k/\yn xs/\zj xs+bp k*I=zj (A.take k)*P):=⟨hl,X,hv⟩;clear hl X hv
  rcases Cm k n with h1 | h1
  .
   obtain⟨u,hu⟩:∃u,A.getD k 0=u:=⟨_,rfl⟩;have u0:=zF oa k;rw[hu]at u0;have HU:Hid (A.getD k 0=u):=hu;obtain⟨ba,bf,rfl,be,ah⟩:=fa B_;have g1:=(J.cell (p:=⟨ba,bf+k,none⟩) be).trans (ah k (by rw[H.out]; omega));rw[hu]at g1;obtain⟨t,ht⟩:∃t,u*P=t:=⟨_,rfl⟩
   have t0:0<=t/\t<=4294967295*P:=by
    rw[<- ht];exact⟨Int.mul_nonneg u0.1 B_,Int.mul_le_mul_of_nonneg_right B_ B_⟩
   have hw:IntKind.u64.wrap (u*2^s)=t:=by
    have e:u*2^s=t:=by rw[<- ht,<- HP.out]; simp
    rw[e,wrap_u64 B_ B_]
   have HT:Hid (u*P=t):=ht;clear ah fa hu ht
   go_wp2_with (at_builtin; refine z' rfl (.tmp 23) (.tmp 26) 24 rfl w.heap.size 172 i0 Tryz.underlying24 hi Y a9 b9 _ k xs rfl (M.alloc _) _ [_] rfl (aA.one B_ B_) (by simp; omega) C4 ?_)
   intro v' w1 E hg T
   go_wp2
   go_roundw
   case rel=>
    have S:=Yg (s:=I+t) N.out.1 N.out.2.2 (by rw[HU.out,HT.out]);exact⟨k+1,xs ++ [(I+t)%4294967296],(I+t) / 4294967296,by omega,by go_num,by go_num,by omega,by omega,by rw[List.length_append,N.out.1]; rfl,zO N.out.2.1 B_ B_,S,E,(J.alloc Z _).grown hg C4 T⟩
   case measure=>simp[intOf]; omega
  .
   clear fa
   go_wp2_with (at_builtin; refine z' rfl (.tmp 30) (.tmp 33) 24 rfl w.heap.size 172 i0 Tryz.underlying24 hi Y a9 b9 _ k xs rfl (M.alloc _) _ [_] rfl (aA.one B_ B_) (by simp; omega) C4 ?_)
   intro v' w1 E hg T
   go_wp2
   go_returns
   have bg:k=n:=B_
   subst bg;have hB:Below w.heap.size w w1:=(J.alloc Z _).grown hg C4 T;refine⟨_,xs ++ [I],rfl,aA.own E (zO N.out.2.1 B_ B_),?_,?_,E,hB⟩
   .
    have:=N.out.2.2;rw[List.take_of_length_le (by have:=H.out; omega)]at this;rw[yE,N.out.1,HP.out];exact this
   . rw[List.length_append,N.out.1]; rfl
theorem Kr (w:Cc) (ha:aA w a A) (hb:aA w b B) (nA:A.length<=aE) (nB:B.length<=A.length) (be:zj B<=zj A) :
  Cb Ch 197 #[a,b] w fun e w'=>∃v,e = Cg v/\aA w' v (zn (zj A-zj B))/\zf w w':=by
 obtain⟨i0,hi,X,Y,a9⟩:=info_parts vw;obtain⟨aa,ca,rfl⟩:=ha.au;obtain⟨ab,cb,rfl⟩:=hb.au;obtain⟨oa,-,la,fa⟩:=ha.cells;obtain⟨ob,-,lb,fb⟩:=hb.cells;clear ha hb;unfold aE at nA;obtain⟨n,hn⟩:∃n,A.length=n:=⟨_,rfl⟩;obtain⟨m,hm⟩:∃m,B.length=m:=⟨_,rfl⟩;have H:Hid (A.length=n/\B.length=m/\zj B<=zj A):=⟨hn,hm,be⟩;rw[hm,hn]at nB;rw[hn]at fa la nA;rw[hm]at fb lb;rw[hn,hm];clear hn hm be
 go_enter Tryz.func197,Tryz.ntmps197
 go_wp2
 go_loopw [5,6,7,8] (fun o c i t wr=>∃ (k:Nat) (xs:List Int) (I:Int),k<=n/\i = Cz Cv k/\c = Cz Cv I/\0<=I/\I<=1/\xs.length=k/\yn xs/\zj xs=zj (A.take k)-zj (B.take k)+bp k*I/\
   wr.ownsRow w.heap.size 172 1 o k (zH xs)/\Below w.heap.size w wr) (fun _ _ i _ _=>(n-(intOf i).toNat))
 case atStart=>exact⟨0,[],0,Nat.zero_le _,rfl,rfl,by omega,by omega,rfl,z4,by simp[zj],World.ownsRow_nil _ _ _ _,Cp _ _⟩
 case round=>
  obtain⟨k,xs,I,hk,rfl,rfl,c0,c1,hl,b9,hv,M,N⟩:=hrel;have Z:=N.size;have J:Hid (xs.length=k/\yn xs/\zj xs=zj (A.take k)-zj (B.take k)+bp k*I):=⟨hl,b9,hv⟩;clear hl b9 hv;obtain⟨u,hu⟩:∃u,A.getD k 0=u:=⟨_,rfl⟩;obtain⟨v,hv⟩:∃v,B.getD k 0=v:=⟨_,rfl⟩;have u0:=zF oa k;have v0:=zF ob k;rw[hu]at u0;rw[hv]at v0;have HU:Hid (A.getD k 0=u/\B.getD k 0=v):=⟨hu,hv⟩;have zv:m<=k->v=0:=fun h=>by rw[<- hv]; have:=H.out.2.1; simp[List.getD,List.getElem?_eq_none (show B.length<=k by omega)]
  rcases Cm k n with h1 | h1
  .
   obtain⟨ba,bl,rfl,bg,ah⟩:=fa B_;have g1:=(N.cell (p:=⟨ba,bl+k,none⟩) bg).trans (ah k (by rw[H.out.1]; omega));rw[hu]at g1
   rcases Cm k m with h2 | h2
   .
    obtain⟨bb,bi,rfl,br,bf⟩:=fb B_;have g2:=(N.cell (p:=⟨bb,bi+k,none⟩) br).trans (bf k (by rw[H.out.2.1]; omega));rw[hv]at g2;clear ah bf fa fb hu hv zv
    rcases Int.lt_or_le (u-I-v) 0 with ht | ht
    .
     go_wp2_with (at_builtin; refine z' rfl (.tmp 37) (.tmp 40) 24 rfl w.heap.size 172 i0 Tryz.underlying24 hi X Y a9 _ k xs rfl (M.alloc _) _ [_] rfl (aA.one B_ B_) (by simp; omega) C4 ?_)
     intro v' w1 E hg T
     go_wp2
     go_roundw
     case rel=>
      have S:=qq (t:=u-I-v) (x:=u-I-v+4294967296) (c':=1) J.out.1 J.out.2.2 (by rw[HU.out.1,HU.out.2]; omega) B_;have hx:(u-I-v+4294967296)%4294967296=u-I-v+4294967296:=B_
      exact⟨k+1,xs ++ [u-I-v+4294967296],1,by omega,by go_num,by go_num,by omega,by omega,by rw[List.length_append,J.out.1]; rfl,zO J.out.2.1 B_ B_,S,by first | exact E | (rw[hx]at E; exact E),(N.alloc Z _).grown hg C4 T⟩
     case measure=>simp[intOf]; omega
    .
     go_wp2_with (at_builtin; refine z' rfl (.tmp 37) (.tmp 40) 24 rfl w.heap.size 172 i0 Tryz.underlying24 hi X Y a9 _ k xs rfl (M.alloc _) _ [_] rfl (aA.one B_ B_) (by simp; omega) C4 ?_)
     intro v' w1 E hg T
     go_wp2
     go_roundw
     case rel=>
      have S:=qq (t:=u-I-v) (x:=u-I-v) (c':=0) J.out.1 J.out.2.2 (by rw[HU.out.1,HU.out.2]; omega) B_;have hx:(u-I-v)%4294967296=u-I-v:=B_
      exact⟨k+1,xs ++ [u-I-v],0,by omega,by go_num,by go_num,by omega,by omega,by rw[List.length_append,J.out.1]; rfl,zO J.out.2.1 B_ B_,S,by first | exact E | (rw[hx]at E; exact E),(N.alloc Z _).grown hg C4 T⟩
     case measure=>simp[intOf]; omega
   .
    obtain rfl:=zv h2;clear ah fa fb hu hv zv
    rcases Int.lt_or_le (u-I) 0 with ht | ht
    .
     go_wp2_with (at_builtin; refine z' rfl (.tmp 37) (.tmp 40) 24 rfl w.heap.size 172 i0 Tryz.underlying24 hi X Y a9 _ k xs rfl (M.alloc _) _ [_] rfl (aA.one B_ B_) (by simp; omega) C4 ?_)
     intro v' w1 E hg T
     go_wp2
     go_roundw
     case rel=>
      have S:=qq (t:=u-I) (x:=u-I+4294967296) (c':=1) J.out.1 J.out.2.2 (by rw[HU.out.1,HU.out.2]; omega) B_;have hx:(u-I+4294967296)%4294967296=u-I+4294967296:=B_
      exact⟨k+1,xs ++ [u-I+4294967296],1,by omega,by go_num,by go_num,by omega,by omega,by rw[List.length_append,J.out.1]; rfl,zO J.out.2.1 B_ B_,S,by first | exact E | (rw[hx]at E; exact E),(N.alloc Z _).grown hg C4 T⟩
     case measure=>simp[intOf]; omega
    .
     go_wp2_with (at_builtin; refine z' rfl (.tmp 37) (.tmp 40) 24 rfl w.heap.size 172 i0 Tryz.underlying24 hi X Y a9 _ k xs rfl (M.alloc _) _ [_] rfl (aA.one B_ B_) (by simp; omega) C4 ?_)
     intro v' w1 E hg T
     go_wp2
     go_roundw
     case rel=>
      have S:=qq (t:=u-I) (x:=u-I) (c':=0) J.out.1 J.out.2.2 (by rw[HU.out.1,HU.out.2]; omega) B_;have hx:(u-I)%4294967296=u-I:=B_
      exact⟨k+1,xs ++ [u-I],0,by omega,by go_num,by go_num,by omega,by omega,by rw[List.length_append,J.out.1]; rfl,zO J.out.2.1 B_ B_,S,by first | exact E | (rw[hx]at E; exact E),(N.alloc Z _).grown hg C4 T⟩
     case measure=>simp[intOf]; omega
  .
   clear fa fb hu hv zv;have cg:k=n:=B_
   subst cg;have e1:=J.out.2.2;have e2:=yF J.out.2.1;have e4:=zD J.out.2.1;have e3:=xu k;rw[List.take_of_length_le (by have:=H.out; omega),List.take_of_length_le (by have:=H.out; omega)]at e1;rw[J.out.1]at e2
   have ce:I=0:=by
    rcases(show I=0\/I=1 by omega)with h | h
    . exact h
    . subst h; have:=H.out.2.2; omega
   subst ce;rw[Int.mul_zero,Int.add_zero]at e1;have L:=C5 (ye J.out.2.1);have L1:=aA.own M J.out.2.1;have E1:=C5 e1;have lx:=J.out.1;have bt:xs.length<=aE:=by unfold aE; omega
   clear e1 e2 e3 e4 lx
   go_wp2_with (go_at_call 170; refine(Zo _ L1 bt).mono ?_; rintro e w2 ⟨v2,rfl,bq,bh⟩)
   go_returns
   exact⟨_,rfl,by rw[<- E1.out,L.out]; exact bq,zp N (Cl _) bh⟩
end
section
open Go.RowKit
theorem yt (n:Nat):madeCells #[Value.int Cw 0] n=(zH (List.replicate n 0)).toArray:=by
 apply Array.ext'
 simp[madeCells,zH];apply List.ext_getElem
 . simp
 . intro i H E; simp[Nat.mod_one]
theorem Zp (j:Nat) (x:Int) (qs:List Int):(zH (List.replicate (j+1) 0++qs)).toArray.setIfInBounds j (Cz Cw x)=(zH (List.replicate j 0++x::qs)).toArray:=by
 have e:List.replicate (j+1) (0:Int)++qs=List.replicate j 0++0::qs:=by
  rw[show j+1=j+1 from rfl,List.replicate_succ']; simp
 rw[e];simp[zH,List.set_append]
theorem xE (n:Nat) (h:n<=1000000000) (w:Cc):(Instr.makeSlice 24 (Cz Cv (n:Int)) (Cz Cv (n:Int))).run Ch w = .ok (Cq (some ⟨w.heap.size,0,none⟩) n n) (w.alloc (.cells (madeCells #[Cz Cw 0] n) 172)):=
 run_make_row' (P:=Ch) 24 172 (Cz Cw 0) 4 Tryz.underlying24 vw rfl Cv Cv n B_ B_ w
set_option maxHeartbeats 3200000 in
set_option maxRecDepth 1000000 in
theorem Wh {a:Cd} {A:List Int} {d:Int} (w:Cc) (ha:aA w a A) (nA:A.length<=aE) (d0:1<=d) (d1:d<4294967296) :
  Cb Ch 181 #[a,Cz Cw d] w fun e w'=>∃q r,e = Cg (.tuple #[q,r])/\aA w' q (zn (zj A / d))/\aA w' r (zn (zj A%d))/\zf w w':=by
 obtain⟨aa,ca,rfl⟩:=ha.au;obtain⟨oa,-,la,fa⟩:=ha.cells;clear ha;unfold aE at nA;obtain⟨n,hn⟩:∃n,A.length=n:=⟨_,rfl⟩;have H:Hid (A.length=n):=hn;rw[hn]at fa la nA;rw[hn];clear hn;have bf:=xE n B_;have Z0:(w.alloc (.cells (madeCells #[Cz Cw 0] n) 172)).heap.size=w.heap.size+1:=World.size_alloc _ _;have B0:Below w.heap.size w (w.alloc (.cells (madeCells #[Cz Cw 0] n) 172)):=(Cp _ _).alloc (Cl _) _
 have K0:ai (w.alloc (.cells (madeCells #[Cz Cw 0] n) 172)) w.heap.size 172 (zH (List.replicate n 0 ++ [])).toArray:=by
  have:=ai.new w 172 (madeCells #[Cz Cw 0] n);rw[yt,<- List.append_nil (List.replicate n (0:Int))]at this;rw[yt];simpa using this
 go_enter Tryz.func181,Tryz.ntmps181
 go_wp2
 go_loopw [7,8] (fun r i wr=>∃ (k:Nat) (qs:List Int) (J:Int),k<=n/\i = Cz Cv ((k:Int)-1)/\r = Cz Cu J/\0<=J/\J<d/\yn qs/\qs.length+k=n/\zj (A.drop k)=d*zj qs+J/\
   ai wr w.heap.size 172 (zH (List.replicate k 0++qs)).toArray/\Below w.heap.size w wr) (fun _ i _=>(intOf i+1).toNat)
 case atStart=>exact⟨n,[],0,Cl _,by go_num,rfl,by omega,by omega,z4,by simp,by rw[List.drop_of_length_le (by have:=H.out; omega)]; simp[zj],K0,B0⟩
 case round=>
  obtain⟨k,qs,J,hk,rfl,rfl,r0,r1,T,hl,hv,I,M⟩:=hrel;have Z:=M.size;have HV:Hid (qs.length+k=n/\yn qs/\zj (A.drop k)=d*zj qs+J):=⟨hl,T,hv⟩;clear hl T hv bf Z0 B0 K0
  rcases Nat.eq_zero_or_pos k with rfl | hp
  .
   clear fa;have E:=HV.out;rw[Nat.add_zero]at E;obtain⟨E1,E2,E3⟩:=E;rw[List.drop_zero]at E3;simp only[List.replicate_zero,List.nil_append]at I
   have Lq:aA wr (Cq (some ⟨w.heap.size,0,none⟩) n n) qs:=by
    have:=aA.aY I E2;rw[E1]at this;exact this
   have Q:=jc E3 r0 r1;have F:=C5 (C6 Q E2);have lq:qs.length<=aE:=by unfold aE; omega
   clear E1 E3 Q I
   go_wp2_with (first
    | (go_at_call 170; refine(Zo _ Lq lq).mono ?_; clear Lq; rintro e w2 ⟨v2,rfl,X,b9⟩)
    | (go_at_call 170; refine(Zo _ (aA.one (x:=J) B_ B_) (by unfold aE; simp)).mono ?_; rintro e w3 ⟨v3,rfl,Y,bg⟩))
   go_returns
   have Z2:zf w2 w3:=((Cp w2.heap.size w2).alloc (Cl _) _).trans (bg.mono C4);refine⟨_,_,rfl,?_,?_,zp (zp M (Cl _) b9) (Cl _) Z2⟩
   .
    rw[F.out.1.1];rw[<- ye F.out.2]at X;exact X.ae Z2
   .
    rw[F.out.1.2];have:=ye (zU.2 ⟨⟨r0,by omega⟩,z4⟩:yn [J]);rw[<- this]at Y;simpa[zj]using Y
  .
   obtain⟨j,rfl⟩:∃j,k=j+1:=⟨k-1,by omega⟩;obtain⟨ba,be,rfl,ah,a9⟩:=fa B_;have g1:=(M.cell (p:=⟨ba,be+j,none⟩) ah).trans (a9 j (by rw[H.out]; omega));obtain⟨u,hu⟩:∃u,A.getD j 0=u:=⟨_,rfl⟩;have u0:=zF oa j;rw[hu]at g1 u0;have HU:Hid (A.getD j 0=u):=hu;clear fa a9 hu
   have g2:wr.cell? ⟨w.heap.size,0+j,none⟩=some (Cz Cw 0):=by
    refine I.c _ ?_;rw[Nat.zero_add];simp[zH,List.getElem?_append,List.getElem?_replicate]
   have g3:wr.frozen? ⟨w.heap.size,0+j,none⟩=false:=I.fr _;rw[Nat.zero_add]at g2 g3;have N:=C5 I;clear I
   go_wp2
   go_roundw
   case rel=>
    have hb:=N.out;have q0:0<=(J*4294967296+u) / d:=Int.ediv_nonneg B_ B_;have q1:(J*4294967296+u) / d<4294967296:=Int.ediv_lt_of_lt_mul B_ B_;have m0:=Int.emod_nonneg (J*4294967296+u) (show d≠0 by omega);have m1:=Int.emod_lt_of_pos (J*4294967296+u) (show 0<d by omega);have S:=Zk (x:=u) HV.out.2.2;rw[Int.emod_eq_of_lt q0 q1];have E:=HV.out.1;refine⟨j,(J*4294967296+u) / d::qs,(J*4294967296+u)%d,by omega,rfl,rfl,m0,m1,zU.2 ⟨⟨q0,q1⟩,HV.out.2.1⟩,by rw[List.length_cons]; omega,?_,hb.aR (Zp j _ qs),M.setCell (p:=⟨w.heap.size,j,none⟩) (Cl _) _⟩;rw[yq,HU.out,S];simp only[zj]
   case measure=>simp[intOf]
end
section
open Go.RowKit
variable {A D:Int} {U l:List Int} {post pre:List Cd} {b g j k m o:Nat} {a d:Cd} {w wr:Cc}
def xC (pre:List Cd) (U:List Int) (post:List Cd):Array Cd:=(pre++(zH U++post)).toArray
theorem xe {t:Nat} (E:pre.length=j) (ht:t<U.length):(xC pre U post)[j+t]? = some (Cz Cw (U.getD t 0)):=by
 subst E;simp only[xC,List.getElem?_toArray];rw[List.getElem?_append_right B_,Nat.add_sub_cancel_left,List.getElem?_append_left (by rw[yG]; exact ht)];exact xy U t ht
theorem qk {xs:List Int} (E:pre.length=j) (I:xs.length=k) (H:k<U.length) (x:Int) :
  (xC pre (xs++U.drop k) post).setIfInBounds (j+k) (Cz Cw x)=xC pre ((xs ++ [x])++U.drop (k+1)) post:=by
 subst E I;rw[List.drop_eq_getElem_cons H];simp only[xC,zH,List.map_append,List.map_cons,List.append_assoc,List.setIfInBounds_toArray,List.cons_append,List.map_nil,List.nil_append]
 congr 1
 rw[List.set_append_right _ _ B_,Nat.add_sub_cancel_left,List.set_append_right _ _ C3,List.length_map,Nat.sub_self,List.set_cons_zero]
theorem xz (h:w.grownBy wr (some g)) (i:Nat) (u:Cd):w.grownBy (wr.setCell ⟨g,i,none⟩ u) (some g):=
 ⟨h.os,h.tape,h.output,by simpa[World.setCell]using h.size,fun k H E=>by
  rw[Below.heap_setCell _ _ _ _ (fun e=>E (by rw[e]))]
  exact h.block k H E⟩
theorem jX (w:Cc) (a b:Nat):∃n,(w.drewN a).drewN b=w.drewN n:=⟨a+b,by rw[World.drewN_drewN]⟩
theorem Xi {r:Option Nat} (h:w.grownBy wr r) (n:Nat):w.grownBy (wr.drewN n) r:=⟨h.os,h.tape,h.output,h.size,h.block⟩
theorem Cells.grown (h:Cells w b o l) (H:w.grownBy wr (some g)) (I:b<w.heap.size) (E:b≠g):Cells wr b o l:=
 fun t ht=>(World.cell?_of_block (a:=⟨b,o+t,none⟩) (H.block b I (fun e=>E (by injection e)))).trans (h t ht)
theorem Wi {capu capv:Nat} {V:List Int} (w:Cc) (hB:ai w g 172 (xC pre U post)) (hj:pre.length=j) (hU:U.length=m+3) (bq:yn U)
  (hV:Cells w b o V) (lV:V.length=m+2) (bg:yn V) (hb:b<w.heap.size) (dd:b≠g) (hn:m<=aE) (cg:2147483648<=V.getD (m+1) 0) (cY:zj U<zj V*4294967296) :
  Cb Ch 183 #[Cq (some ⟨g,j,none⟩) (m+3) capu,Cq (some ⟨b,o,none⟩) (m+2) capv] w fun e w'=>
   ∃X,e = Cg (Cz Cw (zj U / zj V))/\X.length=m+3/\yn X/\zj X=zj U%zj V/\ai w' g 172 (xC pre X post)/\w.grownBy w' (some g):=by
 unfold aE at hn;have hg:g<w.heap.size:=hB.lt;obtain⟨un,bt⟩:∃x,U.getD (m+2) 0=x:=⟨_,rfl⟩;obtain⟨J,be⟩:∃x,U.getD (m+1) 0=x:=⟨_,rfl⟩;obtain⟨bi,bf⟩:∃x,U.getD m 0=x:=⟨_,rfl⟩;obtain⟨T,bl⟩:∃x,V.getD (m+1) 0=x:=⟨_,rfl⟩;obtain⟨v2,br⟩:∃x,V.getD m 0=x:=⟨_,rfl⟩;have bu:=zF bq (m+2);have dx:=zF bq (m+1);have dy:=zF bq m;have dl:=zF bg (m+1);have ce:=zF bg m;have cu:w.cell? ⟨g,j+(m+2),none⟩=some (Cz Cw un):=by rw[<- bt]; exact hB.c _ (xe hj B_)
 have dP:w.cell? ⟨g,j+(m+1),none⟩=some (Cz Cw J):=by rw[<- be]; exact hB.c _ (xe hj B_)
 have em:w.cell? ⟨g,j+m,none⟩=some (Cz Cw bi):=by rw[<- bf]; exact hB.c _ (xe hj B_)
 have ec:w.cell? ⟨b,o+(m+1),none⟩=some (Cz Cw T):=by rw[<- bl]; exact hV _ B_
 have eF:w.cell? ⟨b,o+m,none⟩=some (Cz Cw v2):=by rw[<- br]; exact hV _ B_
 have DM:=Zl bq bg hU lV B_ cY;rw[bt,be,bf,bl,br]at DM;obtain⟨Q,hQ⟩:∃Q,zj U / zj V=Q:=⟨_,rfl⟩
 have hR:zj U%zj V=zj U-Q*zj V:=by
  have:=Int.mul_ediv_add_emod (zj U) (zj V);rw[hQ,Int.mul_comm]at this;omega
 rw[hQ]at DM;rw[hQ,hR];obtain⟨Q0,Q1,Q2,Q3,Q4,Q5,Q6⟩:=DM;have HQ:Hid (Q*T<=un*4294967296+J/\Q*(T*4294967296+v2)<=(un*4294967296+J)*4294967296+bi/\Q*zj V<=zj U/\zj U-Q*zj V<zj V/\0<zj V):=⟨Q2,Q3,Q4,Q5,Q6⟩;clear Q2 Q3 Q4 Q5 Q6 hR hQ;rw[bt]at bu;rw[be]at dx;rw[bf]at dy;rw[bl]at dl cg;rw[br]at ce;have H:Hid (U.getD (m+2) 0=un/\U.getD (m+1) 0=J/\U.getD m 0=bi/\V.getD (m+1) 0=T/\V.getD m 0=v2/\U.length=m+3/\V.length=m+2/\pre.length=j/\zj U<zj V*4294967296):=⟨bt,be,bf,bl,br,hU,lV,hj,cY⟩;have HB:=C5 hB;have HV:=C5 hV;clear bt be bf bl br hU lV hj cY hB hV
 go_enter Tryz.func183,Tryz.ntmps183
 go_wp2_with fail
 go_quiet (fail)
 go_wp2_with fail
 go_quiet (fail)
 go_upto_block 0 with fail
 have T0:Hid ((un*4294967296+J) / T*T+(un*4294967296+J)%T=un*4294967296+J):=by
  have:=Int.mul_ediv_add_emod (un*4294967296+J) T;rw[Int.mul_comm]at this;exact this
 have T1:0<=(un*4294967296+J) / T:=Int.ediv_nonneg B_ B_;have T2:(un*4294967296+J) / T<8589934592:=Int.ediv_lt_of_lt_mul B_ B_;have T3:=Int.emod_nonneg (un*4294967296+J) (show T≠0 by omega);have T4:=Int.emod_lt_of_pos (un*4294967296+J) (show 0<T by omega);obtain⟨q0,dc⟩:∃q,(un*4294967296+J) / T=q:=⟨_,rfl⟩;obtain⟨r0,ci⟩:∃r,(un*4294967296+J)%T=r:=⟨_,rfl⟩;rw[dc]at T0 T1 T2;rw[ci]at T0 T3 T4;simp only[dc,ci];clear dc ci
 go_cut [7,8] (fun q r wx=>∃qv:Int,q = Cz Cu qv/\Q<=qv/\0<=qv/\qv<4294967296/\∃n,wx=w.drewN n)
 case first=>
  go_wp2_with fail
  go_loopw [7,8] (fun q r wr=>∃qv rv:Int,q = Cz Cu qv/\r = Cz Cu rv/\Q<=qv/\0<=qv/\qv<8589934592/\0<=rv/\Hid (qv*T+rv=un*4294967296+J)/\∃n,wr=w.drewN n) (fun q _ _=>(intOf q).toNat)
  case atStart=>exact⟨q0,r0,rfl,rfl,Xf T0.out T4 HQ.out.1 B_,T1,T2,T3,T0,(by first | exact⟨_,rfl⟩ | exact jX _ _ _)⟩
  case round=>
   obtain⟨qv,rv,rfl,rfl,a1,a2,a3,a4,a5,nn,rfl⟩:=hrel;clear T0 T1 T2 T3 T4
   have body:Q<qv->Hid ((qv-1)*T+(rv+T)=un*4294967296+J)/\rv+T<=un*4294967296+J:=fun h=>by
    have e:=a5.out;have e1:(qv-1)*T+(rv+T)=un*4294967296+J:=by rw[Int.sub_mul]; omega
    have e2:=Int.mul_nonneg (show 0<=qv-1 by omega) (show 0<=T by omega);exact⟨e1,by omega⟩
   obtain⟨p,hp⟩:∃p,qv*v2=p:=⟨_,rfl⟩;have ah:rv*4294967296+bi<p->Q<qv:=fun h=>X' a5.out HQ.out.2.1 B_ (by rw[hp]; exact h);have p0:0<=p:=by rw[<- hp]; exact Int.mul_nonneg a2 ce.1
   have p1:qv<4294967296->p<=18446744065119617025:=fun h=>by
    rw[<- hp];have:=Int.mul_le_mul (show qv<=4294967295 by omega) (show v2<=4294967295 by omega) ce.1 B_;omega
   rcases Int.lt_or_le qv 4294967296 with h1 | h1
   .
    have p2:=p1 h1;have hw:IntKind.u64.wrap (qv*v2)=p:=by rw[hp,wrap_u64 B_ B_]
    rcases Int.lt_or_le rv 4294967296 with h2 | h2
    .
     rcases Int.lt_or_le (rv*4294967296+bi) p with h3 | h3
     .
      obtain⟨b1,b2⟩:=body (ah h3);have b3:=ah h3;clear body ah p1 hp;have c1:decide (4294967296<=qv)=false:=C_ B_;go_wp2_with fail
      go_quiet (fail)
      go_wp2_with fail
      all_goals first
       | (exfalso; omega)
       | (
         go_roundw
         case rel=>exact⟨qv-1,rv+T,rfl,rfl,by omega,by omega,by omega,by omega,b1,(by first | exact⟨_,rfl⟩ | exact jX _ _ _)⟩
         case measure=>simp[intOf]; omega)
       | exact⟨⟨by omega,by omega,by omega,by omega,_,rfl⟩,by simp[intOf]; omega⟩
       | (
         go_meet
         exact⟨qv-1,rfl,by omega,by omega,by omega,(by first | exact⟨_,rfl⟩ | exact jX _ _ _)⟩)
     .
      have c1:decide (4294967296<=qv)=false:=C_ B_;clear body ah p1 hp;go_wp2_with fail
      go_quiet (fail)
      go_wp2_with fail
      go_meet
      exact⟨qv,rfl,by omega,by omega,by omega,(by first | exact⟨_,rfl⟩ | exact jX _ _ _)⟩
    .
     have c1:decide (4294967296<=qv)=false:=C_ B_;have c2:decide (rv<4294967296)=false:=C_ B_;clear body ah p1 hp;go_wp2_with fail
     go_quiet (fail)
     go_wp2_with fail
     go_meet
     exact⟨qv,rfl,by omega,by omega,by omega,(by first | exact⟨_,rfl⟩ | exact jX _ _ _)⟩
   .
    obtain⟨b1,b2⟩:=body B_;clear body ah p1 hp
    rcases Int.lt_or_le (rv+T) 4294967296 with h3 | h3
    .
     go_wp2_with fail
     go_quiet (fail)
     go_wp2
     first
      | exact⟨⟨by omega,by omega,by omega,by omega,_,rfl⟩,by simp[intOf]; omega⟩
      | (
        go_roundw
        case rel=>exact⟨qv-1,rv+T,rfl,rfl,by omega,by omega,by omega,by omega,b1,(by first | exact⟨_,rfl⟩ | exact jX _ _ _)⟩
        case measure=>simp[intOf]; omega)
    .
     rcases Int.lt_or_le (qv-1) 4294967296 with h4 | h4
     .
      go_wp2_with fail
      go_quiet (fail)
      go_wp2
      go_meet
      exact⟨qv-1,rfl,by omega,by omega,by omega,(by first | exact⟨_,rfl⟩ | exact jX _ _ _)⟩
     .
      go_wp2_with fail
      go_quiet (fail)
      go_wp2
      first
       | exact⟨⟨by omega,by omega,by omega,by omega,_,rfl⟩,by simp[intOf]; omega⟩
       | (
         go_roundw
         case rel=>exact⟨qv-1,rv+T,rfl,rfl,by omega,by omega,by omega,by omega,b1,(by first | exact⟨_,rfl⟩ | exact jX _ _ _)⟩
         case measure=>simp[intOf]; omega)
 case rest=>
  obtain⟨qv,rfl,a1,a2,a3,nn,rfl⟩:=hcut;have Z:Hid (pre.length=j/\U.length=m+3/\V.length=m+2):=⟨H.out.2.2.2.2.2.2.2.1,H.out.2.2.2.2.2.1,H.out.2.2.2.2.2.2.1⟩;have HH:=C5 H.out.2.2.2.2.2.2.2.2;have G0:w.grownBy (w.drewN nn) (some g):=Xi (World.grownBy.refl w _) nn;have B0:ai (w.drewN nn) g 172 (xC pre ([]++U.drop 0) post):=HB.out.drewN nn;clear T0 T1 T2 T3 T4 H bu dx dy dl ce cu dP em ec eF cg
  go_wp2
  go_loopw [9,10,11,12] (fun bo c i t wr=>∃ (k:Nat) (xs:List Int) (M I:Int),k<=m+3/\i = Cz Cv k/\bo = Cz Cv M/\c = Cz Cu I/\0<=M/\M<=1/\0<=I/\I<4294967296/\(k=m+3->I=0)/\xs.length=k/\yn xs/\
    zj xs=zj (U.take k)-qv*zj (V.take k)+bp k*(I+M)/\ai wr g 172 (xC pre (xs++U.drop k) post)/\w.grownBy wr (some g)) (fun _ _ i _ _=>m+3-(intOf i).toNat)
  case atStart=>exact⟨0,[],0,0,Nat.zero_le _,rfl,rfl,rfl,by omega,by omega,by omega,by omega,by omega,rfl,z4,by simp[zj],B0,G0⟩
  case round=>
   obtain⟨k,xs,M,I,hk,rfl,rfl,rfl,b0,b1,c0,c1,c2,hl,Y,hv,E,a9⟩:=hrel;have HR:Hid (xs.length=k/\yn xs/\zj xs=zj (U.take k)-qv*zj (V.take k)+bp k*(I+M)):=⟨hl,Y,hv⟩;have HG:=C5 a9;have HK:=C5 E;clear B0 G0
   rcases Cm k (m+3)with h1 | h1
   .
    obtain⟨u,hu⟩:∃x,U.getD k 0=x:=⟨_,rfl⟩;obtain⟨v,N⟩:∃x,V.getD k 0=x:=⟨_,rfl⟩;have u0:=zF bq k;have v0:=zF bg k;rw[hu]at u0;rw[N]at v0
    have gU:(xs++U.drop k).getD k 0=u:=by
     rw[<- hu];simp only[List.getD];rw[List.getElem?_append_right B_,hl,Nat.sub_self,List.getElem?_drop,Nat.add_zero]
    have g1:wr.cell? ⟨g,j+k,none⟩=some (Cz Cw u):=by
     rw[<- gU];exact E.c _ (xe Z.out.1 (by rw[List.length_append,List.length_drop,hl]; have:=Z.out.2.1; omega))
    have g2:wr.frozen? ⟨g,j+k,none⟩=false:=E.fr _
    rcases Cm k (m+2)with h2 | h2
    .
     have g3:=(HV.out.grown a9 hb dd) k (by have:=Z.out.2.2; omega);rw[N]at g3;obtain⟨p,hp⟩:∃p,qv*v=p:=⟨_,rfl⟩;have p0:0<=p:=by rw[<- hp]; exact Int.mul_nonneg a2 v0.1
     have p1:p<=18446744065119617025:=by
      rw[<- hp];have:=Int.mul_le_mul (show qv<=4294967295 by omega) (show v<=4294967295 by omega) v0.1 B_;omega
     have hw:IntKind.u64.wrap (qv*v)=p:=by rw[hp,wrap_u64 B_ B_]
     obtain⟨lo,bh⟩:∃l,(I+p)%4294967296=l:=⟨_,rfl⟩;have l0:0<=lo/\lo<4294967296:=B_
     have cN:bits BinOp.and IntKind.u64 (I+p) 4294967295=lo:=by rw[and_low32 _ B_ B_,bh]
     have HX:Hid (U.getD k 0=u/\V.getD k 0=v):=⟨hu,N⟩;have dk:=C5 hp;have HL:=C5 bh;clear hu N gU hp hl Y hv E a9 bh
     rcases Int.lt_or_le (u-lo-M) 0 with ht | ht
     .
      go_wp2
      go_roundw
      case rel=>
       have R:=HR.out;have S:=qS (q:=qv) (V:=V) (s:=I+p) (t:=u-lo-M) (x:=u-lo-M+4294967296) (b':=1) R.1 R.2.2 (by rw[HX.out.2,dk.out]) (by rw[HX.out.1,HL.out]) B_;refine⟨k+1,xs ++ [u-lo-M+4294967296],1,(I+p) / 4294967296,by omega,by go_num,rfl,by go_num,by omega,by omega,by omega,by omega,by omega,by rw[List.length_append,R.1]; rfl,zO R.2.1 B_ B_,S,?_,xz HG.out _ _⟩;refine HK.out.aR ?_
       try rw[show (u-lo-M+4294967296)%4294967296=u-lo-M+4294967296 by omega]
       exact qk Z.out.1 R.1 (by have:=Z.out.2.1; omega) _
      case measure=>simp[intOf]; omega
     .
      go_wp2
      go_roundw
      case rel=>
       have R:=HR.out;have S:=qS (q:=qv) (V:=V) (s:=I+p) (t:=u-lo-M) (x:=u-lo-M) (b':=0) R.1 R.2.2 (by rw[HX.out.2,dk.out]) (by rw[HX.out.1,HL.out]) B_;refine⟨k+1,xs ++ [u-lo-M],0,(I+p) / 4294967296,by omega,by go_num,rfl,by go_num,by omega,by omega,by omega,by omega,by omega,by rw[List.length_append,R.1]; rfl,zO R.2.1 B_ B_,S,?_,xz HG.out _ _⟩;refine HK.out.aR ?_
       try rw[show (u-lo-M)%4294967296=u-lo-M by omega]
       exact qk Z.out.1 R.1 (by have:=Z.out.2.1; omega) _
      case measure=>simp[intOf]; omega
    .
     have ek:k=m+2:=B_
     have cy:v=0:=by rw[<- N]; have:=Z.out.2.2; simp[List.getD,List.getElem?_eq_none (show V.length<=k by omega)]
     subst cy;obtain⟨lo,bh⟩:∃l,I%4294967296=l:=⟨_,rfl⟩;have er:lo=I:=B_
     have cN:bits BinOp.and IntKind.u64 I 4294967295=I:=by rw[and_low32 _ B_ B_]; omega
     have HX:Hid (U.getD k 0=u/\V.getD k 0=0):=⟨hu,N⟩;have HL:Hid (I%4294967296=I):=C5 B_;clear hu N gU hl Y hv E a9 bh er ek
     rcases Int.lt_or_le (u-I-M) 0 with ht | ht
     .
      go_wp2
      go_roundw
      case rel=>
       have R:=HR.out;have S:=qS (q:=qv) (V:=V) (s:=I) (t:=u-I-M) (x:=u-I-M+4294967296) (b':=1) R.1 R.2.2 (by rw[HX.out.2]; omega) (by rw[HX.out.1,HL.out]) B_;refine⟨k+1,xs ++ [u-I-M+4294967296],1,(I) / 4294967296,by omega,by go_num,rfl,by go_num,by omega,by omega,by omega,by omega,by omega,by rw[List.length_append,R.1]; rfl,zO R.2.1 B_ B_,S,?_,xz HG.out _ _⟩;refine HK.out.aR ?_
       try rw[show (u-I-M+4294967296)%4294967296=u-I-M+4294967296 by omega]
       exact qk Z.out.1 R.1 (by have:=Z.out.2.1; omega) _
      case measure=>simp[intOf]; omega
     .
      go_wp2
      go_roundw
      case rel=>
       have R:=HR.out;have S:=qS (q:=qv) (V:=V) (s:=I) (t:=u-I-M) (x:=u-I-M) (b':=0) R.1 R.2.2 (by rw[HX.out.2]; omega) (by rw[HX.out.1,HL.out]) B_;refine⟨k+1,xs ++ [u-I-M],0,(I) / 4294967296,by omega,by go_num,rfl,by go_num,by omega,by omega,by omega,by omega,by omega,by rw[List.length_append,R.1]; rfl,zO R.2.1 B_ B_,S,?_,xz HG.out _ _⟩;refine HK.out.aR ?_
       try rw[show (u-I-M)%4294967296=u-I-M by omega]
       exact qk Z.out.1 R.1 (by have:=Z.out.2.1; omega) _
      case measure=>simp[intOf]; omega
   .
    have d9:k=m+3:=B_
    subst d9;have c3:=c2 rfl;subst c3
    have F:Hid (zj xs=zj U-qv*zj V+bp (m+3)*M/\xs.length=m+3/\yn xs):=by
     rw[List.take_of_length_le (by have:=Z.out.2.1; omega),List.take_of_length_le (by have:=Z.out.2.2; omega),Int.zero_add]at hv;exact⟨hv,hl,Y⟩
    have b9:ai wr g 172 (xC pre xs post):=by
     rw[List.drop_of_length_le (by have:=Z.out.2.1; omega),List.append_nil]at E;exact E
    clear hl Y hv E HK HR c2 hk h1
    go_wp2
    go_loopw [7,9,10,13] (fun q bo c i wr=>∃ (qw M:Int) (X:List Int),q = Cz Cu qw/\bo = Cz Cv M/\0<=M/\M<=1/\Q<=qw/\qw<4294967296/\X.length=m+3/\yn X/\
      zj X=zj U-qw*zj V+bp (m+3)*M/\ai wr g 172 (xC pre X post)/\w.grownBy wr (some g)) (fun q _ _ _ _=>(intOf q).toNat)
    case atStart=>exact⟨qv,M,xs,rfl,rfl,b0,b1,a1,a3,F.out.2.1,F.out.2.2,F.out.1,b9,a9⟩
    case round=>
     obtain⟨qw,bw,X,rfl,rfl,d0,d1,d2,d3,e1,e2,e3,e4,e5⟩:=hrel;clear F b9 HG;have F:Hid (X.length=m+3/\yn X/\zj X=zj U-qw*zj V+bp (m+3)*bw):=⟨e1,e2,e3⟩;have L0:=zD e2;have L1:=yF e2;rw[e1]at L1
     rcases(show bw=0\/bw=1 by omega)with cx | cx
     .
      subst cx
      have hq:qw=Q:=by
       rcases Int.lt_or_le Q qw with h | h
       .
        have h1:=Int.mul_le_mul_of_nonneg_right (show Q+1<=qw by omega) (show 0<=zj V by have:=HQ.out.2.2.2.2; omega);rw[Int.add_mul,Int.one_mul]at h1;have:=HQ.out.2.2.2.1;rw[Int.mul_zero]at e3;omega
       . omega
      subst hq;have F2:Hid (zj X=zj U-qw*zj V):=by rw[Int.mul_zero,Int.add_zero]at e3; exact e3
      clear L0 L1 e3
      go_wp2
      go_returns
      exact⟨X,yT (by first | rfl | omega),e1,e2,F2.out,e4,e5⟩
     .
      subst cx
      have hq:Q<qw:=by
       rcases Int.lt_or_le Q qw with h | h
       . exact h
       .
        have h1:=Int.mul_le_mul_of_nonneg_right h (show 0<=zj V by have:=HQ.out.2.2.2.2; omega);have:=HQ.out.2.2.1;rw[Int.mul_one]at e3;omega
      have B1:ai wr g 172 (xC pre ([]++X.drop 0) post):=e4;clear L0 L1 e1 e2 e3
      go_wp2
      go_loopw [10,13] (fun c i wr=>∃ (k:Nat) (ys:List Int) (I:Int),k<=m+3/\i = Cz Cv k/\c = Cz Cu I/\0<=I/\I<=1/\ys.length=k/\yn ys/\
        zj ys+bp k*I=zj (X.take k)+zj (V.take k)/\ai wr g 172 (xC pre (ys++X.drop k) post)/\w.grownBy wr (some g)) (fun _ i _=>m+3-(intOf i).toNat)
      case atStart=>exact⟨0,[],0,Nat.zero_le _,rfl,rfl,by omega,by omega,rfl,z4,by simp[zj],B1,e5⟩
      case round=>
       obtain⟨k,ys,I,hk,rfl,rfl,c0,c1,hl,Y,hv,E,a9⟩:=hrel;have HR:Hid (ys.length=k/\yn ys/\zj ys+bp k*I=zj (X.take k)+zj (V.take k)):=⟨hl,Y,hv⟩;have HG:=C5 a9;have HK:=C5 E;clear B1 e4
       rcases Cm k (m+3)with h1 | h1
       .
        obtain⟨u,hu⟩:∃x,X.getD k 0=x:=⟨_,rfl⟩;obtain⟨v,N⟩:∃x,V.getD k 0=x:=⟨_,rfl⟩;have u0:=zF F.out.2.1 k;have v0:=zF bg k;rw[hu]at u0;rw[N]at v0
        have gU:(ys++X.drop k).getD k 0=u:=by
         rw[<- hu];simp only[List.getD];rw[List.getElem?_append_right B_,hl,Nat.sub_self,List.getElem?_drop,Nat.add_zero]
        have g1:wr.cell? ⟨g,j+k,none⟩=some (Cz Cw u):=by
         rw[<- gU];exact E.c _ (xe Z.out.1 (by rw[List.length_append,List.length_drop,hl]; have:=F.out.1; omega))
        have g2:wr.frozen? ⟨g,j+k,none⟩=false:=E.fr _
        rcases Cm k (m+2)with h2 | h2
        .
         have g3:=(HV.out.grown a9 hb dd) k (by have:=Z.out.2.2; omega);rw[N]at g3;have HX:Hid (X.getD k 0=u/\V.getD k 0=v):=⟨hu,N⟩;clear hu N gU hl Y hv E a9
         go_wp2
         go_roundw
         case rel=>
          have R:=HR.out;have S:=xL (s:=I+u+v) R.1 R.2.2 (by rw[HX.out.1,HX.out.2]; omega);refine⟨k+1,ys ++ [(I+u+v)%4294967296],(I+u+v) / 4294967296,by omega,by go_num,by go_num,by omega,by omega,by rw[List.length_append,R.1]; rfl,zO R.2.1 B_ B_,S,?_,xz HG.out _ _⟩;exact HK.out.aR (qk Z.out.1 R.1 (by have:=F.out.1; omega) _)
         case measure=>simp[intOf]; omega
        .
         have cy:v=0:=by rw[<- N]; have:=Z.out.2.2; simp[List.getD,List.getElem?_eq_none (show V.length<=k by omega)]
         subst cy;have HX:Hid (X.getD k 0=u/\V.getD k 0=0):=⟨hu,N⟩;clear hu N gU hl Y hv E a9
         go_wp2
         go_roundw
         case rel=>
          have R:=HR.out;have S:=xL (s:=I+u) R.1 R.2.2 (by rw[HX.out.1,HX.out.2]; omega);refine⟨k+1,ys ++ [(I+u)%4294967296],(I+u) / 4294967296,by omega,by go_num,by go_num,by omega,by omega,by rw[List.length_append,R.1]; rfl,zO R.2.1 B_ B_,S,?_,xz HG.out _ _⟩;exact HK.out.aR (qk Z.out.1 R.1 (by have:=F.out.1; omega) _)
         case measure=>simp[intOf]; omega
       .
        have d9:k=m+3:=B_
        subst d9
        have F3:Hid (zj ys+bp (m+3)*I=zj X+zj V/\ys.length=m+3/\yn ys):=by
         rw[List.take_of_length_le (by have:=F.out.1; omega),List.take_of_length_le (by have:=Z.out.2.2; omega)]at hv;exact⟨hv,hl,Y⟩
        have b9:ai wr g 172 (xC pre ys post):=by
         rw[List.drop_of_length_le (by have:=F.out.1; omega),List.append_nil]at E;exact E
        clear hl Y hv E HK HR hk h1
        go_wp2
        go_roundw
        case rel=>
         have e1:=F.out.2.2;have e2:=F3.out.1;refine⟨qw-1,1-I,ys,rfl,rfl,by omega,by omega,by omega,by omega,F3.out.2.1,F3.out.2.2,?_,b9,HG.out⟩;rw[Int.sub_mul,Int.mul_sub];omega
        case measure=>simp[intOf]; omega
theorem Ks (w:Cc) (J:aA w a (zn A)) (hd:aA w d (zn D)) (Y:0<=A) (D0:1<=D) (Z:(zn A).length<=aE) (nD:(zn D).length<=aE) (H:A<D) :
  Cb Ch 157 #[a,d] w fun e E=>∃q r,e = Cg (.tuple #[q,r])/\aA E q (zn (A / D))/\aA E r (zn (A%D))/\zf w E:=by
 have hc:zI A D = -1:=by unfold zI; rw[C8 B_,C7 H]
 have cc:Cb Ch 85 #[a,d] w fun e E=>e = Cg (Cz Cv (-1))/\zf w E:=by
  have:=qT w J hd Y B_ Z nD;rw[hc]at this;exact this
 have tt:∀E,zf w E->Cb Ch 170 #[a] E fun e M=>∃v,e = Cg v/\aA M v (zn A)/\zf E M:=fun E h=>by
  have:=Zo E (J.ae h) Z;rw[xx]at this;exact this
 have q0:Hid (A / D=0/\A%D=A):=⟨Int.ediv_eq_zero_of_lt Y H,Int.emod_eq_of_lt Y H⟩;obtain⟨aa,ca,rfl⟩:=J.au;obtain⟨ad,cd,rfl⟩:=hd.au;clear J hd hc
 go_enter Tryz.func157,Tryz.ntmps157
 go_wp2_with (first
  | (go_at_call 85; refine cc.mono ?_; rintro e w1 ⟨rfl,I⟩; have T:=tt w1 I)
  | (go_at_call 170; refine T.mono ?_; rintro e M ⟨v2,rfl,X,N⟩))
 go_returns
 refine⟨_,_,rfl,?_,?_,zp I (Cl _) N⟩
 . rw[q0.out.1]; exact aA.nil _
 . rw[q0.out.2]; exact X
theorem JF (w:Cc) (J:aA w a (zn A)) (hd:aA w d (zn D)) (A0:0<=A) (D0:1<=D) (nA:(zn A).length<=aE) (nD:(zn D).length=1) (b9:D<=A) :
  Cb Ch 157 #[a,d] w fun e E=>∃q r,e = Cg (.tuple #[q,r])/\aA E q (zn (A / D))/\aA E r (zn (A%D))/\zf w E:=by
 obtain⟨c,hc⟩:∃c,zI A D=c:=⟨_,rfl⟩
 have c0:0<=c:=by
  rw[<- hc]; unfold zI
  split
  . omega
  . rw[C8 B_]; omega
 have cc:Cb Ch 85 #[a,d] w fun e E=>e = Cg (Cz Cv c)/\zf w E:=by
  have:=qT w J hd A0 B_ nA (by unfold aE; omega);rw[hc]at this;exact this
 have hD:zn D = [D]/\D<4294967296:=by
  match h:zn D,nD with
  | [x],_=>
   have e1:=zA (show 0<=D by omega);have e2:=yX D;rw[h]at e1 e2;simp[zj]at e1;subst e1;exact⟨rfl,(zU.1 e2).1.2⟩
 rw[hD.1]at hd
 have tt:∀E,zf w E->Cb Ch 181 #[a,Cz Cw D] E fun e M=>∃q r,e = Cg (.tuple #[q,r])/\aA M q (zn (A / D))/\aA M r (zn (A%D))/\zf E M:=fun E h=>by
  have:=Wh E (J.ae h) nA D0 hD.2;rw[zA A0]at this;exact this
 obtain⟨aa,ca,rfl⟩:=J.au;obtain⟨ad,cd,rfl⟩:=hd.au;obtain⟨od,-,ld,X⟩:=hd.cells;simp only[List.length_cons,List.length_nil,Nat.zero_add]at ld X cc|-;obtain⟨bd,Z,rfl,T,I⟩:=X B_;have g0:=I 0 C3;simp only[Nat.add_zero,List.getD_cons_zero]at g0;clear J hd hc I X od
 go_enter Tryz.func157,Tryz.ntmps157
 go_wp2_with (first
  | (go_at_call 85; refine cc.mono ?_; rintro e w1 ⟨rfl,H⟩; have Y:=tt w1 H; have g1:=(H.cell (p:=⟨bd,Z,none⟩) T).trans g0)
  | (go_at_call 181; refine Y.mono ?_; rintro e M ⟨q2,r2,rfl,ah,a9,N⟩))
 go_returns
 exact⟨_,_,rfl,ah,a9,zp H (Cl _) N⟩
theorem wrap_u32 {x:Int} (h0:0<=x) (E:x<4294967296):IntKind.u32.wrap x=x:=by
 rw[IntKind.wrap_u32]; omega
theorem kQ (hc:zJ l=l) (h:l.length=k+1):l.getD k 0≠0:=by
 have E:l≠ []:=by rintro rfl; cases h
 have:=X_ hc E;rw[List.getLast_eq_getElem]at this;simpa[List.getD,h]using this
theorem kt {E:Nat} {e:TypeId} {v:Cd} {n:Nat} (h:w.ownsRow E e 1 v n (zH l)) (I:0<n) :
  ∃g cap post,v = Cq (some ⟨g,0,none⟩) n cap/\E<=g/\n<=cap/\ai w g e (xC [] l post):=by
 obtain⟨J,H⟩:=h
 rcases H with⟨_,H⟩ | ⟨g,cap,cur,rfl,hg,hh,hnc,hm,hs,ht⟩
 . omega
 .
  refine⟨g,cap,cur.toList.drop n,rfl,hg,hnc,?_⟩;unfold ai xC;rw[<- ht,Nat.mul_one,List.nil_append,List.take_append_drop];exact hh
theorem Cells.set {i:Nat} {u:Cd} (h:Cells w b o l) (E:b≠g):Cells (w.setCell ⟨g,i,none⟩ u) b o l:=
 fun t ht=>(World.cell?_of_block (a:=⟨b,o+t,none⟩) (Below.heap_setCell w ⟨g,i,none⟩ u b E)).trans (h t ht)
theorem Yh (U:List Int) (j n:Nat) (post:List Cd):xC [] U post=xC (zH (U.take j)) ((U.drop j).take n) (zH (U.drop (j+n))++post):=by
 have e:U=U.take j++((U.drop j).take n++U.drop (j+n)):=by
  rw[<- List.drop_drop,List.take_append_drop,List.take_append_drop]
 conv=>lhs; rw[e]
 simp[xC,zH]
theorem Xj (T S R:List Int) (post:List Cd):xC (zH T) S (zH R++post)=xC [] (T++(S++R)) post:=by simp[xC,zH]
theorem Qc (w:Cc) (ha:aA w a (zn A)) (hd:aA w d (zn D)) (A0:0<=A) (D0:1<=D) (nA:(zn A).length<=aE) (nD:(zn D).length=m+2) (gB:D<=A) :
  Cb Ch 157 #[a,d] w fun e T=>∃q r,e = Cg (.tuple #[q,r])/\aA T q (zn (A / D))/\aA T r (zn (A%D))/\zf w T:=by
 obtain⟨i0,hi,gp,gt,gg⟩:=info_parts vw
 have dy:m+2<=(zn A).length:=by
  rcases Cm (zn A).length (m+2)with h | h
  . have:=z6 A0 (show 0<=D by omega) B_; omega
  . exact h
 obtain⟨K,hK⟩:∃K,(zn A).length+1=K+(m+2):=⟨(zn A).length+1-(m+2),by omega⟩;obtain⟨c,hc⟩:∃c,zI A D=c:=⟨_,rfl⟩
 have c0:0<=c:=by
  rw[<- hc]; unfold zI
  split
  . omega
  . rw[C8 B_]; omega
 have cc:Cb Ch 85 #[a,d] w fun e T=>e = Cg (Cz Cv c)/\zf w T:=by
  have:=qT w ha hd A0 B_ nA B_;rw[hc]at this;exact this
 have vD:=zA (show 0<=D by omega);have vA:=zA A0;have oD:=yX D;have oA:=yX A;have tD:=kQ (xx D) nD;obtain⟨Dl,br⟩:∃l,zn D=l:=⟨_,rfl⟩;obtain⟨Al,d9⟩:∃l,zn A=l:=⟨_,rfl⟩;rw[br]at hd vD oD tD nD;rw[d9]at ha vA oA nA hK dy;obtain⟨t,ht⟩:∃t,Dl.getD (m+1) 0=t:=⟨_,rfl⟩;have t0:=zF oD (m+1);rw[ht]at t0 tD;have la:=hd;obtain⟨aa,ca,rfl⟩:=ha.au;obtain⟨ad,cd,rfl⟩:=hd.au;obtain⟨-,-,ld,fd⟩:=hd.cells;obtain⟨bd,em,rfl,fY,fX⟩:=fd B_;have g0:=fX (m+1) B_;rw[ht]at g0;have HA:=C5 ha;have HD:=C5 hd;obtain⟨nl,E⟩:∃n,Al.length=n:=⟨_,rfl⟩;have M:Hid (zj Dl=D/\zj Al=A/\yn Dl/\yn Al/\Dl.length=m+2/\Al.length=nl/\Dl.getD (m+1) 0=t):=⟨vD,vA,oD,oA,nD,E,ht⟩;rw[E]at nA dy hK cc HA|-;rw[nD]at ld cc HD|-;have gD:=C5 br;clear la ha hd fd fX vD vA oD oA nD E ht br d9 hc;unfold aE at nA
 go_enter Tryz.func157,Tryz.ntmps157
 go_wp2_with (go_at_call 85; refine cc.mono ?_; rintro e w1 ⟨rfl,be⟩; have g1:=(be.cell (p:=⟨bd,em+(m+1),none⟩) fY).trans g0)
 go_loopw [7] (fun s wr=>∃sv:Nat,s = Cz Cu sv/\t*2^sv<4294967296/\sv<=31/\wr=w1) (fun s _=>(32-intOf s).toNat)
 case atStart=>exact⟨0,rfl,by simpa using t0.2,by omega,rfl⟩
 case round=>
  obtain⟨sv,rfl,s0,s1,rfl⟩:=hrel;obtain⟨p,hp⟩:∃p,t*2^sv=p:=⟨_,rfl⟩;have p0:0<=p:=by rw[<- hp]; exact Int.mul_nonneg t0.1 (Int.le_of_lt (Int.pow_pos B_))
  have hw:IntKind.u32.wrap (t*2^sv)=p:=by rw[hp,wrap_u32 p0 B_]
  rcases Int.lt_or_le p 2147483648 with Z | Z
  .
   have s2:sv+1<=31:=by
    rcases Cm sv 31 with h | h
    . omega
    .
     exfalso
     have e:sv=31:=B_
     subst e;have:=Int.mul_le_mul_of_nonneg_right (show 1<=t by omega) (show (0:Int)<=2^31 by decide);rw[hp]at this;simp at this;omega
   have s3:Hid (t*2^(sv+1)<4294967296):=by
    show t*2^(sv+1)<4294967296
    rw[Int.pow_succ,<- Int.mul_assoc,hp]; omega
   clear hp s0
   go_wp2
   go_roundw
   case rel=>exact⟨sv+1,by go_num,s3.out,by omega,by first | rfl | trivial⟩
   case measure=>simp[intOf]; omega
  .
   obtain⟨P,hP⟩:∃P,((2^sv:Nat):Int)=P:=⟨_,rfl⟩;have P0:1<=P:=by have:=Nat.one_le_two_pow (n:=sv); omega
   have P1:P<=2147483648:=by have:=Nat.pow_le_pow_right (show 0<2 by omega) s1; simp at this; omega
   have PQ:P*((2^(32-sv):Nat):Int)=4294967296:=by
    rw[<- hP,<- Int.natCast_mul,<- Nat.pow_add,show sv+(32-sv)=32 by omega]; decide
   have tP:t*P=p:=by rw[<- hp,<- hP]; simp
   have HN:=C5 (fun(L:List Int) (oL:yn L) (lL:L.length=m+3) (hL:zj L=zj Dl*P)=>Xg M.out.2.2.1 M.out.2.2.2.2.1 oL lL hL P0 PQ (by rw[M.out.2.2.2.2.2.2,tP]; exact Z) (by rw[M.out.2.2.2.2.2.2,tP,<- hp]; exact s0));have HP:=C5 (C6 hP PQ)
   have er:Cb Ch 182 #[Cq (some ⟨bd,em,none⟩) (m+2) cd,Cz Cu sv] wr fun e T=>∃g cap post L,e = Cg (Cq (some ⟨g,0,none⟩) (m+3) cap)/\wr.heap.size<=g/\m+3<=cap/\yn L/\L.length=m+3/\zj L=zj Dl*P/\ai T g 172 (xC [] L post)/\zf wr T:=by
    refine(UT wr (HD.out.ae be) (by have:=M.out.2.2.2.2.1; unfold aE; omega) s1).mono ?_;rintro e T ⟨v,L,rfl,Z,h2,h3,h4,h5⟩;rw[M.out.2.2.2.2.1]at h3 h4;obtain⟨g,cap,post,rfl,k1,k2,k3⟩:=kt h4 B_;exact⟨g,cap,post,L,rfl,k1,k2,Z.ok,h3,by rw[h2,hP],k3,h5⟩
   have f7:∀w2,zf wr w2->Cb Ch 182 #[Cq aa nl ca,Cz Cu sv] w2 fun e T=>∃g cap post L,e = Cg (Cq (some ⟨g,0,none⟩) (K+(m+2)) cap)/\w2.heap.size<=g/\K+(m+2)<=cap/\yn L/\L.length=K+(m+2)/\zj L=zj Al*P/\ai T g 172 (xC [] L post)/\zf w2 T:=fun w2 hs=>by
    refine(UT w2 ((HA.out.ae be).ae hs) (by have:=M.out.2.2.2.2.2.1; unfold aE; omega) s1).mono ?_;rintro e T ⟨v,L,rfl,Z,h2,h3,h4,h5⟩;rw[M.out.2.2.2.2.2.1]at h3 h4;rw[hK]at h3 h4;obtain⟨g,cap,post,rfl,k1,k2,k3⟩:=kt h4 B_;exact⟨g,cap,post,L,rfl,k1,k2,Z.ok,h3,by rw[h2,hP],k3,h5⟩
   have gd:=xE K B_;clear hp hP PQ tP s0 g0 t0 tD
   go_wp2_with (first
    | (go_at_call 182; refine er.mono ?_; clear er; rintro e w2 ⟨gv,capv,gh,Lv,rfl,gG,gE,ov,lv,vv,bv,ce⟩; have fm:=f7 w2 ce)
    | (go_at_call 182; refine fm.mono ?_; clear fm f7; rintro e X ⟨gu,capu,I,Lu,rfl,gF,gz,ou,lu,vu,bu,bt⟩))
   have NT:=HN.out Lv ov lv vv;obtain⟨J,ah⟩:∃l,Lv.take (m+2)=l:=⟨_,rfl⟩;rw[ah]at NT;have bi:yn J:=by rw[<- ah]; exact zY ov _
   have lV:J.length=m+2:=by rw[<- ah,List.length_take]; omega
   have eF:Cells w2 gv 0 J:=fun t ht=>by
    rw[lV]at ht;rw[bv.cell,xe (j:=0) rfl B_,<- ah];simp[List.getD,List.getElem?_take,ht]
   have cY:gv<w2.heap.size:=bv.lt;have fV:Cells X gv 0 J:=eF.below bt cY;obtain⟨W3,bg⟩:∃W,X.alloc (.cells (madeCells #[Cz Cw 0] K) 172)=W:=⟨_,rfl⟩;have SW:zf X W3:=by rw[<- bg]; exact(Cp _ _).alloc (Cl _) _
   have K0:ai W3 X.heap.size 172 (zH (List.replicate K 0 ++ [])).toArray:=by
    have:=ai.new X 172 (madeCells #[Cz Cw 0] K);rw[bg,yt,<- List.append_nil (List.replicate K (0:Int))]at this;exact this
   have fe:ai W3 gu 172 (xC [] Lu I):=bu.ae SW;have fl:Cells W3 gv 0 J:=fV.below SW (Nat.lt_of_lt_of_le cY bt.size);have BW:Below w.heap.size w W3:=zp (zp (zp be (Cl _) ce) (Cl _) bt) (Cl _) SW;have gq:X.heap.size<W3.heap.size:=K0.lt;have gC:gu<X.heap.size:=bu.lt;have z1:=be.size;have z2:=ce.size
   have start:zj (Lu.drop K)<zj J:=by
    refine Zn (la:=nl) (A:=A) (P:=P) ou lu hK (by rw[vu,M.out.2.1]) ?_ A0 P0 P1 (by rw[NT.1]; exact NT.2.2);have:=yF M.out.2.2.2.1;rw[M.out.2.1,M.out.2.2.2.2.2.1]at this;exact this
   have vV:zj J<bp (m+2):=by have:=yF bi; rwa[lV]at this
   have HS:=C5 (C6 NT (C6 vu (C6 bi (C6 lV vV))));have fW:=C5 lu;rw[bg];clear gd ah eF fV bv bu NT lv lu vv vu HN ov bg SW bi lV vV
   go_loopw [11] (fun jv wr=>∃ (k:Nat) (H qs:List Int),k<=K/\jv = Cz Cv ((k:Int)-1)/\yn H/\H.length=K+(m+2)/\yn qs/\qs.length+k=K/\zj H+zj J*(bp k*zj qs)=zj Al*P/\zj (H.drop k)<zj J/\
     ai wr gu 172 (xC [] H I)/\ai wr X.heap.size 172 (zH (List.replicate k 0++qs)).toArray/\Cells wr gv 0 J/\Below w.heap.size w wr) (fun j _=>(intOf j+1).toNat)
   case atStart=>exact⟨K,Lu,[],Cl _,by go_num,ou,fW.out,z4,by simp,by simp[zj]; exact HS.out.2.1,start,fe,K0,fl,BW⟩
   case round=>
    obtain⟨k,H,qs,hk,cx,oU,lU,oq,lq,vq,dq,Y,bh,cy,ci⟩:=hrel;clear start fe K0 fl BW
    rcases Nat.eq_zero_or_pos k with rfl | hp
    .
     rename Cc=>w4;have eW:=cx.trans (show Value.int Cv (((0:Nat):Int)-1)=Value.int Cv (-1) from rfl);clear cx;subst eW;have bl:qs.length=K:=B_
     rw[jN,Int.one_mul]at vq;rw[List.drop_zero]at dq
     have f8:aA w4 (Cq (some ⟨X.heap.size,0,none⟩) K K) qs:=by
      have:=aA.aY bh oq;rw[List.replicate_zero,List.nil_append,bl]at this;exact this
     have e0:=zD oU;have DP:zj J=D*P:=by rw[HS.out.1.1,M.out.1]
     have hP:=HP.out;obtain⟨W,hW⟩:∃W,A%D=W:=⟨_,rfl⟩
     have QR:A / D=zj qs/\zj H=W*P:=by
      have Z:=jc (A:=A*P) (D:=D*P) (q:=zj qs) (r:=zj H) (by rw[<- DP]; rw[M.out.2.1]at vq; omega) e0 (by rw[<- DP]; exact dq);rw[Int.mul_ediv_mul_of_pos_left _ _ B_]at Z;have h2:=Int.mul_ediv_add_emod A D;have h3:A*P=(D*(A / D)+A%D)*P:=by rw[h2]
      rw[Int.add_mul,Int.mul_right_comm,hW,Z.1]at h3;rw[M.out.2.1,DP]at vq;exact⟨Z.1,by omega⟩
     have TA:=Zm (n:=m+2) oU B_ (by have:=HS.out.2.2.2.2; omega);obtain⟨R,hR⟩:∃R,H.take (m+2)=R:=⟨_,rfl⟩;have ec:yn R:=by rw[<- hR]; exact zY oU _
     have lR:R.length=m+2:=by rw[<- hR,List.length_take]; omega
     have vR:zj R=W*P:=by rw[<- hR,TA.1,QR.2]
     have cR:∀t,t<m+2->w4.cell? ⟨gu,t,none⟩=some (Cz Cw (R.getD t 0)):=fun t ht=>by
      have h:=xe (post:=I) (j:=0) (pre:= []) (t:=t) (U:=H) rfl B_;rw[Nat.zero_add]at h;rw[Y.c t h,<- hR];simp[List.getD,List.getElem?_take,ht]
     have eM:gu<w4.heap.size:=Y.lt;have HE:=C5 (C6 QR.1 (C6 oq (C6 bl (C6 ec (C6 lR vR)))));have HW:=C5 hW;clear oU lU oq lq bl vq dq Y bh cy TA hR ec lR vR QR DP e0 HS fW
     go_wp2
     go_loopw [13,14,15] (fun o i x wr=>∃ (k:Nat),k<=m+2/\i = Cz Cv k/\wr.ownsRow w4.heap.size 172 1 o k (zH (Yc k W))/\Below w4.heap.size w4 wr) (fun _ i _ _=>m+2-(intOf i).toNat)
     case atStart=>exact⟨0,Nat.zero_le _,rfl,World.ownsRow_nil _ _ _ _,Cp _ _⟩
     case round=>
      obtain⟨k,hk,rfl,b9,E⟩:=hrel;have BL:=JE (R:=R) (k:=k) HE.out.2.2.2.1 (P:=P) (Q:=((2^(32-sv):Nat):Int));have ft:(2:Int)^sv=P:=by rw[<- HP.out.1]; simp
      obtain⟨u,hu⟩:∃x,R.getD k 0=x:=⟨_,rfl⟩;obtain⟨v,hv⟩:∃x,R.getD (k+1) 0=x:=⟨_,rfl⟩;have u0:=zF HE.out.2.2.2.1 k;have v0:=zF HE.out.2.2.2.1 (k+1);rw[hu]at u0;rw[hv]at v0
      have S0:k<m+2->Hid ((u+v*4294967296) / 2^sv%4294967296=W / bp k%4294967296):=fun h=>by
       have:=BL (by have:=HE.out.2.2.2.2.1; omega) P0 HP.out.2;rw[HE.out.2.2.2.2.2,Int.mul_ediv_cancel _ B_,hu,hv]at this;rw[ft];exact this
      clear BL ft
      rcases Cm k (m+2)with bq | bq
      .
       have S:=S0 bq;have g2:=(E.cell (p:=⟨gu,k,none⟩) eM).trans (cR k bq);rw[hu]at g2
       rcases Cm (k+1) (m+2)with dl | dl
       focus
        have g3:=(E.cell (p:=⟨gu,k+1,none⟩) eM).trans (cR (k+1) dl);rw[hv]at g3
       rotate_left
       focus
        have g9:v=0:=by rw[<- hv]; have:=HE.out.2.2.2.2.1; simp[List.getD,List.getElem?_eq_none (show R.length<=k+1 by omega)]
        subst g9;rw[Int.zero_mul,Int.add_zero]at S
       rotate_left
       all_goals
        clear cR hu hv S0
        go_wp2_with (at_builtin; refine z' rfl (.tmp 101) (.tmp 106) 24 rfl w4.heap.size 172 i0 Tryz.underlying24 hi gp gt gg _ k (Yc k W) rfl (b9.alloc _) _ [_] rfl (aA.one (Int.emod_nonneg _ C0) (Int.emod_lt_of_pos _ C0)) (by simp; omega) (by rw[World.size_alloc]; have:=E.size; omega) ?_)
        intro v' w5 a9 g8 gk
        go_wp2
        go_roundw
        case rel=>
         rw[S.out]at a9;exact⟨k+1,by omega,by go_num,by rw[Kl]; exact a9,(E.alloc E.size _).grown g8 (by rw[World.size_alloc]; have:=E.size; omega) gk⟩
        case measure=>simp[intOf]; omega
      .
       clear cR hu hv S0;have gj:k=m+2:=B_
       subst gj
       have vW:zj (Yc (m+2) W)=W:=by
        refine Zj ?_ ?_
        . rw[<- HW.out]; exact Int.emod_nonneg _ B_
        .
         have Z:=Int.emod_lt_of_pos A (show 0<D by omega);rw[HW.out]at Z;have h2:=yF M.out.2.2.1;rw[M.out.1,M.out.2.2.2.2.1]at h2;omega
       have fZ:=Zi (m+2) W;have f9:=C5 (C6 vW (YG (m+2) W));have Lr:=aA.own b9 (YG (m+2) W);have Lq:=f8.ae E;have lq:qs.length<=aE:=by have:=HE.out.2.2.1; unfold aE; omega
       have lr:(Yc (m+2) W).length<=aE:=by unfold aE; omega
       clear vW fZ f8 b9
       go_wp2_with (first
        | (go_at_call 170; refine(Zo _ Lq lq).mono ?_; clear Lq; rintro e w6 ⟨v6,rfl,gi,ek⟩; have dk:=Lr.ae ek)
        | (go_at_call 170; refine(Zo _ dk lr).mono ?_; clear dk; rintro e w7 ⟨v7,rfl,gn,dP⟩))
       go_returns
       have dd:=HE.out;refine⟨_,_,rfl,?_,?_,zp (zp (zp ci (Cl _) E) (Cl _) ek) (Cl _) dP⟩
       .
        rw[dd.1,ye dd.2.1];exact gi.ae dP
       .
        rw[HW.out];have:=ye f9.out.2;rw[f9.out.1]at this;rw[this];exact gn
    .
     obtain⟨j,rfl⟩:∃j,k=j+1:=⟨k-1,by omega⟩;subst cx;have gA:¬capu=j:=B_
     have HU:=C5 (C6 oU (C6 lU (C6 oq (C6 lq (C6 vq dq)))));clear oU lU oq lq vq dq
     have dc:Cb Ch 183 #[Cq (some ⟨gu,j,none⟩) (j+(m+2)+1-j) (capu-j),Cq (some ⟨gv,0,none⟩) (m+2) capv] wr fun e T=>∃ (x:Int) (Un:List Int),e = Cg (Cz Cw x)/\0<=x/\x<4294967296/\
       Hid (yn Un/\Un.length=K+(m+2)/\zj Un+zj J*(bp j*zj (x::qs))=zj Al*P/\zj (Un.drop j)<zj J)/\
       ai T gu 172 (xC [] Un I)/\wr.grownBy T (some gu):=by
      obtain⟨o1,o2,o3,o4,o5,o6⟩:=HU.out;have S:=Ye (m:=m) o1 B_ HS.out.2.2.2.2 o6;have lT:(H.take j).length=j:=by rw[List.length_take]; omega
      have gr:=HS.out.1.2.1
      have C:=Wi (m:=m) (pre:=zH (H.take j)) (post:=zH (H.drop (j+(m+3)))++I) (U:=(H.drop j).take (m+3)) (V:=J) (g:=gu) (j:=j) (b:=gv) (o:=0) (capu:=capu-j) (capv:=capv) wr
       (by rw[<- Yh]; exact Y) (by rw[yG]; exact lT) (by rw[List.length_take,List.length_drop]; omega) (zY (xD o1 _) _) cy HS.out.2.2.2.1 HS.out.2.2.1 (Nat.lt_trans B_ Y.lt) B_ (by unfold aE; omega) gr S.1
      rw[show j+(m+2)+1-j=m+3 by omega];refine C.mono ?_;rintro e T ⟨U',rfl,k1,k2,k3,k4,k5⟩;rw[S.2.1]at k3|-;have p1:=xu (m+1);have dx:0<zj J:=by rw[HS.out.1.1]; have:=HS.out.1.2.2; omega
      have e0:=Int.mul_ediv_add_emod (zj (H.drop j)) (zj J);have n0:=zD (xD o1 j);have q0:0<=zj (H.drop j) / zj J:=Int.ediv_nonneg n0 B_;have q1:zj (H.drop j) / zj J<4294967296:=Int.ediv_lt_of_lt_mul dx (by have:=S.1; rw[S.2.1,Int.mul_comm]at this; exact this);have m1:=Int.emod_lt_of_pos (zj (H.drop j)) dx;have N:=Yf (m:=m) (j:=j) (U:=H) (S:=U') (qs:=qs) (q:=zj (H.drop j) / zj J) (V:=zj J) k1 B_ S.2.2 o5 (by rw[k3,Int.mul_comm (zj (H.drop j) / zj J)]; omega) (by rw[k3]; exact m1);refine⟨_,H.take j++(U'++H.drop (j+(m+3))),rfl,q0,q1,⟨?_,?_,N.1,N.2⟩,?_,k5⟩
      . exact xv.2 ⟨zY o1 _,xv.2 ⟨k2,xD o1 _⟩⟩
      . rw[List.length_append,List.length_append,lT,k1,List.length_drop]; omega
      . rw[<- Xj]; exact k4
     go_wp2_with (go_at_call 183; refine dc.mono ?_; clear dc; rintro e wd ⟨x,Un,rfl,x0,x1,HN,cN,cg⟩; have bf:ai wd X.heap.size 172 (zH (List.replicate (j+1) 0++qs)).toArray:=(cg.block _ bh.lt (fun e=>by have:=Option.some.inj e; omega)).trans bh; have g2:wd.cell? ⟨X.heap.size,j,none⟩=some (Cz Cw 0):=bf.c _ (by simp[zH,List.getElem?_append,List.getElem?_replicate]); have g3:wd.frozen? ⟨X.heap.size,j,none⟩=false:=bf.fr _)
     go_roundw
     case rel=>
      obtain⟨o1,o2,o3,o4,o5,o6⟩:=HU.out;refine⟨j,Un,x::qs,by omega,rfl,HN.out.1,HN.out.2.1,zU.2 ⟨⟨x0,x1⟩,o3⟩,by rw[List.length_cons]; omega,HN.out.2.2.1,HN.out.2.2.2,cN.aG B_,bf.aR (Zp j _ qs),(cy.grown cg (Nat.lt_trans B_ Y.lt) B_).set B_,?_⟩;exact(ci.grown cg ci.size (fun k hk=>by have:=Option.some.inj hk; omega)).setCell (p:=⟨X.heap.size,j,none⟩) (show w.heap.size<=X.heap.size by omega) _
     case measure=>simp[intOf]
end
end Go.Proofs.YtffmbepfbienaaaGreat
