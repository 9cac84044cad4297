import Derived.Test.YtffmbepfbienaaaGreatZQc
import Derived.Test.YtffmbepfbienaaaGreatZRow
set_option linter.unusedVariables false
set_option linter.unusedSimpArgs false
set_option maxHeartbeats 6400000
set_option maxRecDepth 1000000
open Go.Value renaming slice->Cq,bool->Cx,int->Cz,agg->Cy,pointer->Cj,tuple->Ck
open Go.IntKind renaming i64->Cv
open Go.Ending renaming returned->Cg
open Go.Proofs.Tryz renaming prog->Ch
open Go renaming Calls->Cb,World->Cc,Value->Cd,undef->Cf
open Nat renaming le_refl->Cl
namespace Go.Proofs.YtffmbepfbienaaaGreat
section
open Go.RowKit Go.Shelf
def qj (a:aT):Array Cd:=#[Cz Cv a.k0,Cz Cv a.k1,Cz Cv a.k2,Cz Cv a.k3,Cz Cv a.a1,Cz Cv a.a2,Cz Cv a.b1,Cz Cv a.b2,Cz Cv a.n]
theorem Uy (a b:aT) (g:Nat) (w:Cc) (Y:ai w g 160 (qj b)) (oa:V7 a) (Z:V7 b) :
  Cb Ch 142 #[J3 a,Cj (some ⟨g,0,none⟩)] w fun e w'=>e = Cg (Cx (a.aO b))/\zf w w':=by
 have hc:∀w',Cb Ch 143 #[J3 a,J3 b] w' fun e w2=>e = Cg (Cz Cv (YW a b))/\zf w' w2:=fun w'=>Vo a b w' oa Z;obtain⟨c,H⟩:∃c,YW a b=c:=⟨_,rfl⟩;rw[H]at hc;have T:b.n<a.n->Hid (a.aO b=true):=fun h=>yR.2 (.inl h)
 have I:a.n<b.n->Hid (a.aO b=false):=fun h=>by
  show a.aO b=false
  cases hq:a.aO b
  . rfl
  . rw[yR]at hq; omega
 have J:a.n=b.n->¬0<a.n->Hid (a.aO b=false):=fun h h2=>by
  show a.aO b=false
  cases hq:a.aO b
  . rfl
  . rw[yR]at hq; omega
 have X:a.n=b.n->0<a.n->Hid (a.aO b=decide (c<0)):=fun h h2=>by
  show a.aO b=_
  rw[Bool.eq_iff_iff,yR,decide_eq_true_eq,H];omega
 clear H oa Z;obtain⟨k0,k1,k2,k3,A1,A2,B1,B2,N⟩:=a;obtain⟨l0,l1,l2,l3,C1,C2,D1,D2,M⟩:=b;unfold J3 at *;unfold qj at Y;dsimp only at hc Y T I J X|-;have lb:=Y.lt;have fb:=Y.fr;have ah:=Y.q8
 rcases(show M<N\/N<M\/N=M by omega)with h | h | h
 .
  have E:=T h;clear T I J X hc
  go_enter Tryz.func142,Tryz.ntmps142
  go_wp2
  go_returns
  exact⟨Xw E.out.symm,zi⟩
 .
  have E:=I h;have h1:¬M<N:=B_
  have h2:(N==M)=false:=by simp; omega
  clear T I J X hc
  go_enter Tryz.func142,Tryz.ntmps142
  go_wp2
  go_returns
  exact⟨Xw E.out.symm,zi⟩
 .
  subst h
  by_cases h0:0<N
  .
   have E:=X rfl h0;clear T I J X;obtain⟨bi,bf,bh,bl,be,a9,b9,bg⟩:=Y.r7
   go_enter Tryz.func142,Tryz.ntmps142
   go_wp2_with fail
   refine(hc _).mono ?_;rintro e w1 ⟨rfl,st⟩;have B:=bA w st;have oa:ai w1 w.heap.size 160 #[Cz Cv k0,Cz Cv k1,Cz Cv k2,Cz Cv k3,Cz Cv A1,Cz Cv A2,Cz Cv B1,Cz Cv B2,Cz Cv N]:=ai.ak st;have Z:ai w1 (g) 160 #[Cz Cv l0,Cz Cv l1,Cz Cv l2,Cz Cv l3,Cz Cv C1,Cz Cv C2,Cz Cv D1,Cz Cv D2,Cz Cv N]:=ai.ak st;clear st
   go_wp2
   go_returns
   exact⟨Xw E.out.symm,zi⟩
  .
   have E:=J rfl h0;clear T I J X hc
   go_enter Tryz.func142,Tryz.ntmps142
   go_wp2
   go_returns
   exact⟨Xw E.out.symm,zi⟩
end
section
open Go.RowKit Go.Shelf
attribute [local go_sem] Oper.semAt_some
def Vp (K:Nat->Nat) (p:P4):Cd:= Cy #[Cz Cv (K p.1),Cz Cv (K p.2.1),Cz Cv (K p.2.2.1),Cz Cv (K p.2.2.2)]
def Uz (K:Nat->Nat) (p:P4):Array Cd:=#[Vp K p]
theorem J5:∀a,a<4->∀b,b<4->∀c,c<4->a≠b/\a≠c/\b≠c->(xK a b c).length<24:=by
 intro a E b H c hc
 rcases(show a=0\/a=1\/a=2\/a=3 by omega)with rfl | rfl | rfl | rfl<;>rcases(show b=0\/b=1\/b=2\/b=3 by omega)with rfl | rfl | rfl | rfl<;>rcases(show c=0\/c=1\/c=2\/c=3 by omega)with rfl | rfl | rfl | rfl<;>decide
theorem J6 (F:Fence) (n:Nat) (J:F.fn 144) (E:F.round=none) (I H x2 x3:Cd) (w:Cc) :
  CallsIn F n Ch 144 #[Cy #[I,H,x2,x3]] w fun e w'=>e = Cg (.func (.func 176) #[] #[Cj (some ⟨w.heap.size,0,none⟩)])/\w'=w.alloc (.cells #[I,H,x2,x3] 80):=by
 refine callsIn_of_wp Tryz.func144 rfl J ?_ E;simp only[Tryz.ntmps144,List.size_toArray,List.length_cons,List.length_nil,Nat.reduceAdd,Nat.reduceSub,Array.replicate_succ,Array.replicate_zero,List.push_toArray,List.append_toArray,List.nil_append,List.cons_append]
 gi_wp2
 go_ret
 exact⟨rfl,rfl⟩
theorem QO (n l Bs n₀ B0 k0 k1 k2 k3:Nat) (J Jx:List P4->Cc->Prop) (hJ:AbidesFrom B0 J)
  (hY:∀pre (x:P4) W,J pre W->pre.length<24->YieldAt Fence.wide (n-1) Ch l (Uz (Xd k0 k1 k2 k3) x) W fun e I=>
   (e = Cg (Cx true)/\J (pre ++ [x]) I/\KD n₀ Bs W I)\/(e = Cg (Cx false)/\Jx (pre ++ [x]) I))
  (W:Cc) (ce:ai W Bs 80 #[Cz Cv k0,Cz Cv k1,Cz Cv k2,Cz Cv k3]) (h0:J [] W) :
  CallsIn Fence.wide n Ch 176 #[.func (.yield l) #[] #[],Cj (some ⟨Bs,0,none⟩)] W fun e I=>(∃v,e = Cg v)/\
   ((∃ys,ys=bQ/\J ys I)\/(∃pre:List P4,True/\Jx pre I)):=by
 have ci:Fence.wide.round=none:=rfl;have a9:∀i,i<4->(#[Cz Cv k0,Cz Cv k1,Cz Cv k2,Cz Cv k3]:Array Cd)[i]? = some (Cz Cv (Xd k0 k1 k2 k3 i:Nat)):=fun i hi=>by rcases(show i=0\/i=1\/i=2\/i=3 by omega)with rfl | rfl | rfl | rfl<;>rfl
 refine callsIn_of_wp Tryz.func176 rfl trivial ?_ ci;simp only[Tryz.ntmps176,List.size_toArray,List.length_cons,List.length_nil,Nat.reduceAdd,Nat.reduceSub,Array.replicate_succ,Array.replicate_zero,List.push_toArray,List.append_toArray,List.nil_append,List.cons_append]
 gi_wp2
 gi_loopw [6] (fun i wr=>∃a:Nat,a<=4/\i = Cz Cv a/\J (xK a 0 0) wr/\KD n₀ Bs W wr) (fun i _=>4-(intOf i).toNat)
 case atStart=>exact⟨0,by omega,rfl,by rw[Uk]; exact h0,KD.refl _ _ _⟩
 case round=>
  obtain⟨a,ha,rfl,be,cx⟩:=hrel
  rcases Nat.lt_or_ge a 4 with a4 | a4
  .
   have cN:decide ((a:Int)<4)=true:=C9 B_
   gi_wp2
   gi_loopw [9] (fun i wr=>∃b:Nat,b<=4/\i = Cz Cv b/\J (xK a b 0) wr/\KD n₀ Bs W wr) (fun i _=>4-(intOf i).toNat)
   case atStart=>exact⟨0,by omega,rfl,be,cx⟩
   case round=>
    obtain⟨b,hb,rfl,b9,bf⟩:=hrel
    rcases Nat.lt_or_ge b 4 with b4 | b4
    .
     have cy:decide ((b:Int)<4)=true:=C9 B_
     gi_wp2
     gi_loopw [12] (fun i wr=>∃c:Nat,c<=4/\i = Cz Cv c/\J (xK a b c) wr/\KD n₀ Bs W wr) (fun i _=>4-(intOf i).toNat)
     case atStart=>exact⟨0,by omega,rfl,b9,bf⟩
     case round=>
      obtain⟨c,hc,rfl,Y,Z⟩:=hrel
      rcases Nat.lt_or_ge c 4 with c4 | c4
      .
       have cY:decide ((c:Int)<4)=true:=C9 B_;have N:=Uh a a4 b b4 c c4
       by_cases e1:a=b
       .
        have q1:((a:Int) != (b:Int))=false:=by simp[e1]
        rw[C8 (fun h=>h.1 e1)]at N;replace N:=C5 N;clear e1
        gi_wp2_with fail
        refine aP.bK (fun D _ I=>∃m,I=wr.drewN m) (aj.inl []) (aj.gv []) aj.aU (fun _=>aj.Any) (fun _ _=>False) (aj.pl []) (aj.pl [])
         B' B' B' (aj.dK _) (fun _=>⟨1,rfl⟩) (fun _ _ _ _ _ h=>h) (fun _ _ _ _ _ _ _ _ _ _ _ _ _=>aj.none_) (fun _ _ _ _ h=>h.elim) (fun H Q' E X=> ?_)
        repeat (first | refine aP.RY E _ ?_ | (refine aP.sk E ?_; refine aP.aD (b:=⟨#[_,_,_,_,_,_,_,_,_,_,_,_,_,_,_,_,_,_,_,_,_,_,_,_,_,_,_,_,_,_,_,_,_,_,_,_,_,_,_,_,_,_,_,_,_,_,_,_,_,_,_,_,_,_],_⟩) rfl ?_))
        refine aP.aH (fun Dn v' W4 hd M T=> ?_);obtain⟨m,rfl⟩:=M;clear hd T;refine X _ _ ?_;clear X E Q' H
        gi_wp2
        go_roundw
        case rel=>exact⟨c+1,by omega,by go_num,by rw[N.out]; exact hJ _ _ _ none Y ⟨rfl,rfl,rfl,Cl _,fun _ _ _=>rfl⟩ (fun _ e=>by cases e),Z.trans ⟨⟨rfl,rfl,rfl,Cl _,fun _ _=>rfl⟩,rfl⟩⟩
        case measure=>simp[intOf]; omega
       have q1:((a:Int) != (b:Int))=true:=by simp; omega
       by_cases e2:a=c
       .
        have q2:((a:Int) != (c:Int))=false:=by simp[e2]
        rw[C8 (fun h=>h.2.1 e2)]at N;replace N:=C5 N;clear e1 e2
        gi_wp2_with fail
        refine aP.bK (fun D _ I=>∃m,I=wr.drewN m) (aj.inl []) (aj.gv []) aj.aU (fun _=>aj.Any) (fun _ _=>False) (aj.pl []) (aj.pl [])
         B' B' B' (aj.dK _) (fun _=>⟨1,rfl⟩) (fun _ _ _ _ _ h=>h) (fun _ _ _ _ _ _ _ _ _ _ _ _ _=>aj.none_) (fun _ _ _ _ h=>h.elim) (fun H Q' E X=> ?_)
        repeat (first | refine aP.RY E _ ?_ | (refine aP.sk E ?_; refine aP.aD (b:=⟨#[_,_,_,_,_,_,_,_,_,_,_,_,_,_,_,_,_,_,_,_,_,_,_,_,_,_,_,_,_,_,_,_,_,_,_,_,_,_,_,_,_,_,_,_,_,_,_,_,_,_,_,_,_,_],_⟩) rfl ?_))
        refine aP.aH (fun Dn v' W4 hd M T=> ?_);obtain⟨m,rfl⟩:=M;clear hd T;refine X _ _ ?_;clear X E Q' H
        gi_wp2
        go_roundw
        case rel=>exact⟨c+1,by omega,by go_num,by rw[N.out]; exact hJ _ _ _ none Y ⟨rfl,rfl,rfl,Cl _,fun _ _ _=>rfl⟩ (fun _ e=>by cases e),Z.trans ⟨⟨rfl,rfl,rfl,Cl _,fun _ _=>rfl⟩,rfl⟩⟩
        case measure=>simp[intOf]; omega
       have q2:((a:Int) != (c:Int))=true:=by simp; omega
       by_cases e3:b=c
       .
        have q3:((b:Int) != (c:Int))=false:=by simp[e3]
        rw[C8 (fun h=>h.2.2 e3)]at N;replace N:=C5 N;clear e1 e2 e3
        gi_wp2_with fail
        refine aP.bK (fun D _ I=>∃m,I=wr.drewN m) (aj.inl []) (aj.gv []) aj.aU (fun _=>aj.Any) (fun _ _=>False) (aj.pl []) (aj.pl [])
         B' B' B' (aj.dK _) (fun _=>⟨1,rfl⟩) (fun _ _ _ _ _ h=>h) (fun _ _ _ _ _ _ _ _ _ _ _ _ _=>aj.none_) (fun _ _ _ _ h=>h.elim) (fun H Q' E X=> ?_)
        repeat (first | refine aP.RY E _ ?_ | (refine aP.sk E ?_; refine aP.aD (b:=⟨#[_,_,_,_,_,_,_,_,_,_,_,_,_,_,_,_,_,_,_,_,_,_,_,_,_,_,_,_,_,_,_,_,_,_,_,_,_,_,_,_,_,_,_,_,_,_,_,_,_,_,_,_,_,_],_⟩) rfl ?_))
        refine aP.aH (fun Dn v' W4 hd M T=> ?_);obtain⟨m,rfl⟩:=M;clear hd T;refine X _ _ ?_;clear X E Q' H
        gi_wp2
        go_roundw
        case rel=>exact⟨c+1,by omega,by go_num,by rw[N.out]; exact hJ _ _ _ none Y ⟨rfl,rfl,rfl,Cl _,fun _ _ _=>rfl⟩ (fun _ e=>by cases e),Z.trans ⟨⟨rfl,rfl,rfl,Cl _,fun _ _=>rfl⟩,rfl⟩⟩
        case measure=>simp[intOf]; omega
       have q3:((b:Int) != (c:Int))=true:=by simp; omega
       have bl:=J5 a a4 b b4 c c4 ⟨e1,e2,e3⟩;rw[C7 ⟨e1,e2,e3⟩]at N;obtain⟨d,hd⟩:∃d,6-a-b-c=d:=⟨_,rfl⟩;have d9:(6:Int)-a-b-c=(d:Int):=B_
       have d4:d<4:=B_
       rw[hd]at N;replace N:=C5 N;have bP:ai wr Bs 80 #[Cz Cv k0,Cz Cv k1,Cz Cv k2,Cz Cv k3]:=(Z.2).trans ce;have ca:=bP.c a (a9 a a4);have cb:=bP.c b (a9 b b4);have cc:=bP.c c (a9 c c4);have cd:=bP.c d (a9 d d4);obtain⟨ka,bh⟩:∃z,Xd k0 k1 k2 k3 a=z:=⟨_,rfl⟩;obtain⟨kb,br⟩:∃z,Xd k0 k1 k2 k3 b=z:=⟨_,rfl⟩;obtain⟨kc,bi⟩:∃z,Xd k0 k1 k2 k3 c=z:=⟨_,rfl⟩;obtain⟨kd,bq⟩:∃z,Xd k0 k1 k2 k3 d=z:=⟨_,rfl⟩;rw[bh]at ca;rw[br]at cb;rw[bi]at cc;rw[bq]at cd;clear hd e1 e2 e3 bP a9
       gi_wp2_with fail
       refine aP.bK (fun D _ I=>D 33=false->∃m,I=wr.drewN m) (aj.inl [33]) (aj.gv [(33,fun x=>x = Cx true\/x = Cx false)])
        (gw [(33,fun x I=>(x = Cx true/\J (xK a b c ++ [(a,b,c,d)]) I/\KD n₀ Bs wr I)\/(x = Cx false/\Jx (xK a b c ++ [(a,b,c,d)]) I))]) (fun _=>aj.Any) (fun _ _=>False) (aj.pl [(36,[(33,some 48)])]) (aj.pl [(17,[33]),(20,[33]),(23,[33]),(31,[33])])
        B' B' B' (aj.bk _ (by intro p hp; simp only[List.mem_cons,List.not_mem_nil,or_false]at hp; rcases hp with rfl; exact⟨_,.inl rfl⟩)) (fun _ _=>⟨1,rfl⟩) (fun _ _ _ _ _ h=>h)
        (fun D v k j W I x cg M hk _ _ _=>absurd ((by simpa[aj.inl]using M:j=33).trans (by simpa[aj.inl]using hk:k=33).symm) cg) (fun _ _ _ _ h=>h.elim) (fun H Q' E X=> ?_)
       repeat refine aP.RY E _ ?_
       apply aP.bm (hc:=rfl) (hst:=rfl) (hw:=by rw[E]; rfl) (t:=32) (hd:=rfl) (ht:=Ca rfl)
       .
        intro D v' I hc M T K hK;obtain⟨m,rfl⟩:=M (hc.2 33 C0);go_step;exact hK.out
       . rfl
       repeat refine aP.RY E _ ?_
       apply aP.bm (hc:=rfl) (hst:=rfl) (hw:=by rw[E]; rfl) (t:=35) (hd:=rfl) (ht:=Ca rfl)
       .
        intro D v' I hc M T K hK;obtain⟨m,rfl⟩:=M (hc.2 33 C0);go_step;exact hK.out
       . rfl
       repeat refine aP.RY E _ ?_
       apply aP.bm (hc:=rfl) (hst:=rfl) (hw:=by rw[E]; rfl) (t:=38) (hd:=rfl) (ht:=Ca rfl)
       .
        intro D v' I hc M T K hK;obtain⟨m,rfl⟩:=M (hc.2 33 C0);go_step;exact hK.out
       . rfl
       repeat refine aP.RY E _ ?_
       apply aP.bm (hc:=rfl) (hst:=rfl) (hw:=by rw[E]; rfl) (t:=46) (hd:=rfl) (ht:=Ca rfl)
       .
        intro D v' I hc M T K hK;obtain⟨m,rfl⟩:=M (hc.2 33 C0);go_step;exact hK.out
       . rfl
       refine aP.RY E _ ?_;refine aP.aB (n:=n) rfl (by intro t ht; cases ht; exact Ca rfl) (by rw[E]; rfl) (fun D v' I hc M T K hK=> ?_) ?_
       .
        obtain⟨m,rfl⟩:=M hc.1;obtain⟨fn,tmps,assign,body,hy,hR⟩:=hY _ (a,b,c,d) (wr.drewN m) (hJ _ _ _ none Y ⟨rfl,rfl,rfl,Cl _,fun _ _ _=>rfl⟩ (fun _ e=>by cases e)) bl;unfold Uz Vp at hy;dsimp only at hy;rw[bh,br,bi,bq]at hy;unfold Oper.wpIn;refine⟨fun _ _=>trivial,?_⟩;rw[show Oper.semAt Fence.wide.round _ _=execOp _ _ from rfl];have bg:∀x y,x=Sem.run Ch (Instr.yield l #[Cy #[Cz Cv ka,Cz Cv kb,Cz Cv kc,Cz Cv kd]]) (wr.drewN m)->y=x->y = .ok (.round l fn tmps assign body) (wr.drewN m):=fun x y e1 e2=>by rw[e2,e1]; exact hy
        rw[bg _ (Sem.run _ _ _) rfl (by simp[execOp,go_sem,Act.eval]),Oper.uponIn_round];refine⟨fun h=>(by cases h),qK (hR.mono ?_)⟩;rintro e W3 (⟨rfl,hJ3,hk3⟩ | ⟨rfl,hJx3⟩)
        . exact hK.out _ _ aj.any (fun h=>by cases h) (.inl ⟨rfl,hJ3,⟨⟨hk3.1.os,hk3.1.tape,hk3.1.output,hk3.1.size,hk3.1.block⟩,hk3.2⟩⟩) (.inl rfl)
        . exact hK.out _ _ aj.any (fun h=>by cases h) (.inr ⟨rfl,hJx3⟩) (.inr rfl)
       rintro _ (rfl | rfl)
       .
        refine aP.aD (b:=⟨#[_,_,_,_,_,_,_,_,_,_,_,_,_,_,_,_,_,_,_,_,_,_,_,_,_,_,_,_,_,_,_,_,_,_,_,_,_,_,_,_,_,_,_,_,_,_,_,_,_,_,_,_,_,_],_⟩) rfl ?_
        repeat refine aP.RY E _ ?_
        refine aP.aH (fun Dn v' W4 hd M T=> ?_);have hg:=(T (33,some 48) (.head _) rfl).2.2;clear hd T M;obtain⟨ah,bt⟩:J (xK a b c ++ [(a,b,c,d)]) W4/\KD n₀ Bs wr W4:=hg.elim (fun h=>h.2) (fun h=>by cases h.1);clear hg;refine X _ _ ?_;clear X E Q' H
        gi_wp2
        go_roundw
        case rel=>exact⟨c+1,by omega,by go_num,by rw[N.out]; exact ah,Z.trans bt⟩
        case measure=>simp[intOf]; omega
       .
        refine aP.aD (b:=⟨#[_,_,_,_,_,_,_,_,_,_,_,_,_,_,_,_,_,_,_,_,_,_,_,_,_,_,_,_,_,_,_,_,_,_,_,_,_,_,_,_,_,_,_,_,_,_,_,_,_,_,_,_,_,_],_⟩) rfl ?_
        repeat refine aP.RY E _ ?_
        refine aP.aH (fun Dn v' W4 hd M T=> ?_);have hg:=(T (33,some 48) (.head _) rfl).2.2;clear hd T M;obtain ah:Jx (xK a b c ++ [(a,b,c,d)]) W4:=hg.elim (fun h=>by cases h.1) (fun h=>h.2);clear hg;refine X _ _ ?_;clear X E Q' H
        gi_wp2
        refine bodyPost_ret (results_none rfl _ _ _) rfl ?_;exact⟨⟨_,rfl⟩,.inr ⟨_,trivial,ah⟩⟩
      .
       obtain rfl:c=4:=B_
       rw[Ui a a4 b b4]at Y
       gi_wp2
       go_roundw
       case rel=>exact⟨b+1,by omega,by go_num,Y,Z⟩
       case measure=>simp[intOf]; omega
    .
     obtain rfl:b=4:=B_
     rw[Uj a a4]at b9
     gi_wp2
     go_roundw
     case rel=>exact⟨a+1,by omega,by go_num,b9,bf⟩
     case measure=>simp[intOf]; omega
  .
   obtain rfl:a=4:=B_
   rw[JV]at be
   gi_wp2
   go_end0
   exact⟨⟨_,rfl⟩,.inl ⟨_,rfl,be⟩⟩
theorem Y3 (n Bs n₀ k0 k1 k2 k3:Nat) (w:Cc) (E:ai w Bs 80 #[Cz Cv k0,Cz Cv k1,Cz Cv k2,Cz Cv k3]) :
  SeqStopsK Fence.wide n Ch 176 #[Cj (some ⟨Bs,0,none⟩)] (Uz (Xd k0 k1 k2 k3)) (KD n₀ Bs) (fun M=>M=bQ) (fun _=>True) 24 w:=fun l J T W H I _ N h0=>
 QO n l Bs n₀ W.heap.size k0 k1 k2 k3 J T I N W ((H.block Bs E.lt).trans E) h0
end
section
open Go.RowKit Go.Shelf
variable {K:Nat->Nat} {l:PL} {v:Cd}
theorem ZS {P:Program} {w:Cc} {a:Addr} {m:Mode} (f:Fn) (H E:_):(store a (.func f H E) m).run P w=stored P w a (.func f H E) m:=run_store P w a _ m rfl
attribute [local go_sem] Oper.semAt_some ZS
theorem Jr {p q r s:Int×Int} (k0 k1 k2 k3:Nat) (h0:vX p.1 p.2) (E:vX q.1 q.2) (I:vX r.1 r.2) (H:vX s.1 s.2):V7 (K8 k0 k1 k2 k3 p q r s):=by
 have a:=kh (xR I h0) (xR E h0);have b:=kh (xR H h0) (xR E h0);unfold V7 K8 kN;dsimp only;omega
theorem WG (x:P4) (w:Cc) (h:bJ w v l) (E:∀i,K i<l.length) (H:∀i,vX (pt l (K i)).1 (pt l (K i)).2) :
  Cb Ch 145 #[v,Vp K x] w fun e w'=>e = Cg (Cy (qj (jt l K x)))/\zf w w':=
 Vj (K x.1) (K x.2.1) (K x.2.2.1) (K x.2.2.2) (pt l (K x.1)).1 (pt l (K x.1)).2 (pt l (K x.2.1)).1 (pt l (K x.2.1)).2 (pt l (K x.2.2.1)).1 (pt l (K x.2.2.1)).2 (pt l (K x.2.2.2)).1 (pt l (K x.2.2.2)).2 w
  ⟨h,⟨E _,E _,E _,E _⟩,rfl,rfl,rfl,rfl⟩ (H _) (H _) (H _) (H _)
theorem kK (A:aT):(qj A).all (·.oneCell')=true:=by simp[qj,Value.oneCell']
def qO (l:PL) (K:Nat->Nat) (pre:List P4):aT:=qG (pre.map (jt l K))
theorem ZT (l:PL) (K:Nat->Nat) (pre:List P4) (x:P4):qO l K (pre ++ [x])=if(jt l K x).aO (qO l K pre)then jt l K x else qO l K pre:=by
 unfold qO; rw[List.map_append]; exact vG _ _
theorem Vq (E:∀i,vX (pt l (K i)).1 (pt l (K i)).2) (pre:List P4):V7 (qO l K pre):=by
 have key:∀r:List P4,V7 (qO l K r.reverse):=by
  intro r
  induction r with
  | nil=>exact(show V7 zM from⟨by decide,by decide,by decide,by decide⟩)
  | cons x r ih=>
   rw[List.reverse_cons,ZT]
   split
   . exact Jr _ _ _ _ (E _) (E _) (E _) (E _)
   . exact ih
 have:=key pre.reverse
 rwa[List.reverse_reverse]at this
set_option maxHeartbeats 6400000 in
set_option maxRecDepth 1000000 in
theorem UA (k0 k1 k2 k3:Nat) (K:Nat->Nat) (hK:Xd k0 k1 k2 k3=K) (w:Cc) (h:bJ w v l) (hk:∀i,K i<l.length) (hp:∀i,vX (pt l (K i)).1 (pt l (K i)).2) :
  Cb Ch 107 #[v,Cy #[Cz Cv k0,Cz Cv k1,Cz Cv k2,Cz Cv k3]] w fun e w'=>e = Cg (Ck #[Cy (qj (qO l K bQ)),Cx (decide (0<(qO l K bQ).n))])/\zf w w':=by
 have bi:Fence.wide.round=none:=rfl;have HP:=C5 h;obtain⟨ao,cap,rfl⟩:=h.au;clear h;obtain⟨len,bt⟩:∃n,l.length=n:=⟨_,rfl⟩;rw[bt]at HP|-;refine(callsIn_wide (n:=3)).1 ?_;refine callsIn_of_wp_marks Tryz.func107 rfl trivial ?_ bi;simp only[Tryz.ntmps107,List.size_toArray,List.length_cons,List.length_nil,Nat.reduceAdd,Nat.reduceSub,Array.replicate_succ,Array.replicate_zero,List.push_toArray,List.append_toArray,List.nil_append,List.cons_append]
 gi_wp2_with (refine⟨trivial,?_⟩; gi_at_call 144; refine(J6 Fence.wide 2 trivial bi _ _ _ _ _).mono ?_; rintro e w' ⟨rfl,rfl⟩)
 obtain⟨Z,H⟩:∃Z,(((((w.alloc (.cells #[Cq ao len cap] 55)).alloc (.cells #[Cz Cv k0,Cz Cv k1,Cz Cv k2,Cz Cv k3] 80)).alloc (.cells #[Cz Cv 0,Cz Cv 0,Cz Cv 0,Cz Cv 0,Cz Cv 0,Cz Cv 0,Cz Cv 0,Cz Cv 0,Cz Cv 0] 160)).alloc (.cells #[Cz Cv 0,Cz Cv 0,Cz Cv 0,Cz Cv 0,Cz Cv 0,Cz Cv 0,Cz Cv 0,Cz Cv 0,Cz Cv 0] 160)).alloc (.cells #[.func (.func 142) #[] #[Cj (some ⟨w.heap.size+1+1+1,0,none⟩)]] 190)).alloc (.cells #[Cz Cv k0,Cz Cv k1,Cz Cv k2,Cz Cv k3] 80)=Z:=⟨_,rfl⟩;rw[H];have M:ai Z w.heap.size 55 #[Cq ao len cap]:=by rw[<- H]; exact zw
 have b2:ai Z (w.heap.size+1+1) 160 Km:=by rw[<- H]; exact zw
 have b3:ai Z (w.heap.size+1+1+1) 160 Km:=by rw[<- H]; exact zw
 have b4:ai Z (w.heap.size+1+1+1+1) 190 #[.func (.func 142) #[] #[Cj (some ⟨w.heap.size+1+1+1,0,none⟩)]]:=by rw[<- H]; exact zw
 have b5:ai Z (w.heap.size+1+1+1+1+1) 80 #[Cz Cv k0,Cz Cv k1,Cz Cv k2,Cz Cv k3]:=by rw[<- H]; exact ai.bO C3
 have cg:Below w.heap.size w Z:=by rw[<- H]; exact zi
 have dc:Z.heap.size=w.heap.size+1+1+1+1+1+1:=by rw[<- H]; simp
 clear H;have OS:=Y3 2 (w.heap.size+1+1+1+1+1) w.heap.size k0 k1 k2 k3 Z b5;rw[hK]at OS
 refine wpIn_rangeFunc_ownH bi (show 1<=3 by omega) (gf:=176) (lb:=#[Cj (some ⟨w.heap.size+1+1+1+1+1,0,none⟩)]) rfl trivial (enters_of Tryz.func176 B' rfl)
  OS KD.trans (Wo B_ B_) (Below.refl _ _) (fun _=>rfl)
  (fun(pre:List P4) W=>(ai W w.heap.size 55 #[Cq ao len cap]/\ai W (w.heap.size+1+1) 160 Km/\ai W (w.heap.size+1+1+1) 160 (qj (qO l K pre))/\ai W (w.heap.size+1+1+1+1) 190 #[.func (.func 142) #[] #[Cj (some ⟨w.heap.size+1+1+1,0,none⟩)]]/\ai W (w.heap.size+1+1+1+1+1) 80 #[Cz Cv k0,Cz Cv k1,Cz Cv k2,Cz Cv k3])/\Below w.heap.size w W)
  (fun _ _ _=>False)
  (OwnFrom.and (Own.from (fun s A B row hs hg hr=>⟨zZ hs.1 hg hr,zZ hs.2.1 hg hr,zZ hs.2.2.1 hg hr,zZ hs.2.2.2.1 hg hr,zZ hs.2.2.2.2 hg hr⟩) _) (ownFrom_below (Cl _) B_))
  (fun _ _ _ _ _ hs _ _=>hs)
  ⟨⟨M,b2,b3,b4,b5⟩,cg⟩
  (fun(x:P4) a' W=>∃p,a' = { tmps:=#[Cq ao len cap,Cy #[Cz Cv k0,Cz Cv k1,Cz Cv k2,Cz Cv k3],Cj (some ⟨w.heap.size,0,none⟩),Cj (some ⟨w.heap.size+1,0,none⟩),Cj (some ⟨w.heap.size+1+1,0,none⟩),Cx false,Cj (some ⟨w.heap.size+1+1+1,0,none⟩),Cj (some ⟨w.heap.size+1+1+1+1,0,none⟩),Cj (some ⟨p,0,none⟩),Cf,.func (.func 142) #[] #[Cj (some ⟨w.heap.size+1+1+1,0,none⟩)],Cy #[Cz Cv k0,Cz Cv k1,Cz Cv k2,Cz Cv k3],.func (.func 176) #[] #[Cj (some ⟨w.heap.size+1+1+1+1+1,0,none⟩)],Cy #[Cz Cv (K x.1:Nat),Cz Cv (K x.2.1:Nat),Cz Cv (K x.2.2.1:Nat),Cz Cv (K x.2.2.2:Nat)],Cf,Cf,Cf,Cf,Cf,Cf,Cf,Cf,Cf,Cf,Cf],defers:= [] }/\ai W p 80 #[Cz Cv (K x.1:Nat),Cz Cv (K x.2.1:Nat),Cz Cv (K x.2.2.1:Nat),Cz Cv (K x.2.2.2:Nat)])
  (fun x a' s A B row hs hg hr=>by obtain⟨p,e,hb⟩:=hs; exact⟨p,e,zZ hb hg (fun r e=>(hr r e).2)⟩) ?assign ?body ?done ?stop
 case assign=>
  rintro l' pre x W K' ⟨⟨M,b2,b3,b4,b5⟩,T⟩ E;have Y:=b5.lt;have N:=T.size;unfold Uz Vp;dsimp only;generalize K x.1=ka at E|-;generalize K x.2.1=kb at E|-;generalize K x.2.2.1=kc at E|-;generalize K x.2.2.2=kd at E|-
  gi_wp2
  have AL:=Al.alloc (n₀:=w.heap.size) (Bs:=w.heap.size+1+1+1+1+1) (W:=W) (.cells #[Cz Cv ka,Cz Cv kb,Cz Cv kc,Cz Cv kd] 80) N Y;exact E _ _ (AL.others.from _) AL.kd ⟨⟨zw,zw,zw,zw,zw⟩,T.trans AL.kd.1⟩ ⟨_,rfl,ai.new _ _ _⟩
 case body=>
  rintro l' pre x a' W hl ⟨dk,dd⟩ ⟨⟨M,b2,b3,b4,b5⟩,T⟩ ⟨p,rfl,bo⟩ _;have br:bJ W (Cq ao len cap) l:=HP.out.ae T;have Y:=b5.lt;have N:=T.size;have HA:Hid (qO l K (pre ++ [x])=if(jt l K x).aO (qO l K pre)then jt l K x else qO l K pre):=ZT l K pre x;have ah:=WG (K:=K) x W br hk hp;have bf:V7 (jt l K x):=Jr _ _ _ _ (hp _) (hp _) (hp _) (hp _);have bg:=Vq hp pre;obtain⟨A,hA⟩:∃A,jt l K x=A:=⟨_,rfl⟩;obtain⟨B,b9⟩:∃B,qO l K pre=B:=⟨_,rfl⟩;rw[hA]at ah HA bf;rw[b9]at b3 HA bg;unfold Vp at ah;generalize K x.1=ka at *;generalize K x.2.1=kb at *;generalize K x.2.2.1=kc at *;generalize K x.2.2.2=kd at *;clear hA b9 br hk hp dc cg OS;have cY:W.cell? ⟨w.heap.size,0,none⟩=some (Cq ao len cap):=M.c 0 rfl;have ci:W.cell? ⟨p,0,none⟩=some (Cz Cv ka):=bo.c 0 rfl;have cx:W.cell? ⟨p,1,none⟩=some (Cz Cv kb):=bo.c 1 rfl;have cy:W.cell? ⟨p,2,none⟩=some (Cz Cv kc):=bo.c 2 rfl;have d9:W.cell? ⟨p,3,none⟩=some (Cz Cv kd):=bo.c 3 rfl
  gi_upto_region 5 with fail
  refine yo B' ?_
  repeat' (first | go_values | go_skip | go_guarded | go_step | go_upon)
  refine ah.mono ?_;rintro e W1 ⟨rfl,J⟩;have bq:Al w.heap.size (w.heap.size+1+1+1+1+1) W W1:=Al.ae J N Y;replace M:=M.ae J;replace b2:=b2.ae J;replace b3:=b3.ae J;replace b4:=b4.ae J;replace b5:=b5.ae J;replace N:=Nat.le_trans N J.size;clear cY ci cx cy d9 bo ah Y J;have Y:=b5.lt;dsimp only
  repeat' (first | (refine zE rfl 160 (.tmp 9) (.tmp 16) rfl W1.heap.size (qj A) rfl rfl 160 #[Cz Cv 0,Cz Cv 0,Cz Cv 0,Cz Cv 0,Cz Cv 0,Cz Cv 0,Cz Cv 0,Cz Cv 0,Cz Cv 0] zw B' rfl (kK A) (fun W2 r2=> ?_)) | go_values | go_skip | go_guarded | go_step | go_upon)
  have n5:∀g,g<=w.heap.size+1+1+1+1+1->g≠W1.heap.size:=fun g hg=>by omega
  have bh:Al w.heap.size (w.heap.size+1+1+1+1+1) W W2:=(bq.trans (Al.alloc _ N Y)).trans (Al.row r2 N (n5 _ (Cl _)));replace M:=r2.a_ (M.alloc _) (n5 _ B_);replace b2:=r2.a_ (b2.alloc _) (n5 _ B_);replace b3:=r2.a_ (b3.alloc _) (n5 _ B_);replace b4:=r2.a_ (b4.alloc _) (n5 _ B_);replace b5:=r2.a_ (b5.alloc _) (n5 _ B_);have ba:=r2.bP;have cN:W2.cell? ⟨w.heap.size+1+1+1+1,0,none⟩=some (.func (.func 142) #[] #[Cj (some ⟨w.heap.size+1+1+1,0,none⟩)]):=b4.c 0 rfl;have cb:Cb Ch 142 #[Cy (qj A),Cj (some ⟨w.heap.size+1+1+1,0,none⟩)] W2 fun e w2=>e = Cg (Cx (A.aO B))/\zf W2 w2:=Uy A B _ W2 b3 bf bg;replace N:=T.size;replace N:=Nat.le_trans N bh.others.size;have za:=ba.lt;clear bq r2 Y bf bg;have Y:=b5.lt;have n9:=n5 (w.heap.size+1+1+1) B_;clear n5;generalize W1.heap.size=pa at *;dsimp only[yM,Act.put]
  gi_upto_region 6 with fail
  refine yo B' ?_
  repeat' (first | (refine zP rfl 160 (.tmp 9) rfl pa rfl 160 (qj A) _ ba Tryz.underlying160 rfl B' ?_) | go_values | go_skip | go_guarded | go_step | go_upon)
  refine cb.mono ?_;rintro e W3 ⟨rfl,I⟩;have a9:=bh.trans (Al.ae I N Y);replace M:=M.ae I;replace b2:=b2.ae I;replace b3:=b3.ae I;replace b4:=b4.ae I;replace b5:=b5.ae I;replace ba:=ba.ae I;clear cN cb bh I Y za N
  cases hb:A.aO B
  .
   dsimp only
   repeat' (first | go_values | go_skip | go_guarded | go_step | go_upon)
   dsimp only[yM,Act.put]
   gi_wp2
   exact⟨a9.others.from _,a9.kd,⟨M,b2,by rw[HA.out,C8 (by rw[hb]; simp)]; exact b3,b4,b5⟩,T.trans a9.kd.1⟩
  .
   dsimp only
   repeat' (first | go_values | go_skip | go_guarded | go_step | go_upon)
   dsimp only[yM,Act.put]
   gi_upto_region 7 with fail
   refine yo B' ?_
   repeat' (first | (refine zP rfl 160 (.tmp 9) rfl pa rfl 160 (qj A) _ ba Tryz.underlying160 rfl B' ?_) | (refine zE rfl 160 (.tmp 6) (.tmp 20) rfl (w.heap.size+1+1+1) (qj A) rfl rfl 160 (qj B) b3 B' rfl (kK A) (fun W4 r4=> ?_)) | go_values | go_skip | go_guarded | go_step | go_upon)
   have be:=a9.trans (Al.row r4 B_ B_);dsimp only[yM,Act.put]
   gi_wp2
   exact⟨be.others.from _,be.kd,⟨r4.a_ M B_,r4.a_ b2 B_,by rw[HA.out,C7 hb]; exact r4.bP,r4.a_ b4 B_,r4.a_ b5 B_⟩,T.trans be.kd.1⟩
 case done=>
  rintro Dk ys W hD rfl ⟨⟨M,b2,b3,b4,b5⟩,T⟩ hKd;obtain⟨C,hC⟩:∃C,qO l K bQ=C:=⟨_,rfl⟩;rw[hC]at b3;have HC:=C5 hC;clear hC M b4 b5
  gi_upto_region 8 with fail
  refine wpIn_wide.2 ?_
  refine aj.aM (fun D _ X=>Below w.heap.size w X/\ai X (w.heap.size+1+1+1) 160 (qj C)/\(D 4=false->ai X (w.heap.size+1+1) 160 Km)/\(D 4=true->ai X (w.heap.size+1+1) 160 (qj C))/\X.heap[Dk]? = some (.deferred (some [])))
   (aj.inl [4]) (aj.ge []) aj.aU (fun _=>aj.Any) (fun _ _=>False) (aj.pl []) (aj.pl [])
   B' B' B' (aj.bX _) (fun v=>⟨T.drew,b3.drew,fun _=>b2.drew,(fun h=>by cases h),hKd⟩) (fun _ _ _ _ _ h=>h) (fun _ _ _ _ _ _ _ _ _ _ _ _ _=>aj.none_) (fun _ _ _ _ h=>h.elim) (fun ce Q' bl hQ=> ?_)
  apply aj.RP rfl rfl rfl 21 rfl rfl
  .
   intro D v' X hc hj hf K' E;obtain⟨j0,j3,-,-,-⟩:=hj;exact wp_load_row 160 (.tmp 6) rfl (w.heap.size+1+1+1) rfl 160 (qj C) (0,0) _ j3 Tryz.underlying160 rfl B' E.out
  . rfl
  refine aj.aK 22 ?_;apply aj.RP rfl rfl rfl 23 rfl rfl
  .
   intro D v' X hc hj hf K' E;obtain⟨j0,j3,-,-,-⟩:=hj;have c8:X.cell? ⟨w.heap.size+1+1+1,8,none⟩=some (Cz Cv C.n):=j3.c 8 rfl;go_step;exact E.out
  . rfl
  refine aj.aK 24 ?_;refine aj.aB rfl (by intro t ht; cases ht) rfl (fun D v' X hc hj hf K' E=> ?_) (fun _ _=>aj.aD (b:=⟨#[_,_,_,_,_,_,_,_,_,_,_,_,_,_,_,_,_,_,_,_,_,_,_,_,_],_⟩) rfl ?_)
  .
   obtain⟨j0,j3,ja,-,jd⟩:=hj;have r:=bD.eT (cs:=qj C) (ja hc.1);refine wp_store_row 160 (.tmp 4) (.tmp 21) rfl (w.heap.size+1+1) (qj C) rfl rfl 160 #[Cz Cv 0,Cz Cv 0,Cz Cv 0,Cz Cv 0,Cz Cv 0,Cz Cv 0,Cz Cv 0,Cz Cv 0,Cz Cv 0] (ja hc.1) B' rfl (kK C) ?_;exact E.out Cf _ aj.any ⟨r.below j0 B_,r.a_ j3 B_,(fun h=>Bool.noConfusion h),fun _=>r.bP,(r.only.2 Dk B_).trans jd⟩ aj.none_ trivial
  refine aj.aK 5 ?_;refine aj.aH (fun D v' X hd hj hf=> ?_);obtain⟨j0,-,-,jb,jd⟩:=hj;replace jb:=jb (hd 4 C0);clear hd hf;refine hQ _ _ ?_;clear hQ bl Q' ce
  gi_wp2
  refine⟨by simp,.inl ⟨_,_,rfl,run_takeDeferred jd,?_⟩⟩;refine⟨Ck #[Cy (qj C),Cx (decide (0<C.n))],?_,by rw[HC.out],j0.trans (belowK_b (w:=w) (Cl _) _ Dk _ _ B_ jd rfl rfl)⟩;refine z8 (p:=4) (q:=5) (ty:=160) (t:=160) (cs:=qj C) rfl _ _ (w.heap.size+1+1) ?_ ?_ Tryz.underlying160 rfl B'
  . rfl
  . exact zZ jb (grownBy_putObj' _ Dk (.deferred none)) (fun r e=>by cases e; exact⟨_,jd,rfl⟩)
 case stop=>exact fun _ _ _ _ _ _ h _=>h.elim
theorem WH (k0 k1 k2 k3:Nat) (w:Cc) (h:bJ w v l) (E:∀i,Xd k0 k1 k2 k3 i<l.length) (H:∀i,vX (pt l (Xd k0 k1 k2 k3 i)).1 (pt l (Xd k0 k1 k2 k3 i)).2) :
  Cb Ch 107 #[v,Cy #[Cz Cv k0,Cz Cv k1,Cz Cv k2,Cz Cv k3]] w fun e w'=>e = Cg (Ck #[Cy (qj (yB l (Xd k0 k1 k2 k3))),Cx (decide (0<(yB l (Xd k0 k1 k2 k3)).n))])/\zf w w':=
 UA k0 k1 k2 k3 _ rfl w h E H
end
section
open Go.RowKit
variable {k0 k1 k2 k3:Int} {r0 r1 r2 r3:Rat} {v:Cd} {w w':Cc}
def QD (w:Cc) (v:Cd) (k0 k1 k2 k3:Int) (r0 r1 r2 r3:Rat):Prop:=
 ∃a b c d e f g h i j k l m n o p,v = Cy #[Cz Cv k0,Cz Cv k1,Cz Cv k2,Cz Cv k3,a,b,c,d,e,f,g,h,i,j,k,l,m,n,o,p]/\
  FR w (Cy #[a,b,c,d]) r0/\FR w (Cy #[e,f,g,h]) r1/\FR w (Cy #[i,j,k,l]) r2/\FR w (Cy #[m,n,o,p]) r3
theorem QD.af (h:QD w v k0 k1 k2 k3 r0 r1 r2 r3) (k:av w w'):QD w' v k0 k1 k2 k3 r0 r1 r2 r3:=by
 obtain⟨a,b,c,d,e,f,g,h,i,j,J,l,m,n,o,p,M,I,H,N,E⟩:=h;exact⟨a,b,c,d,e,f,g,h,i,j,J,l,m,n,o,p,M,I.af k,H.af k,N.af k,E.af k⟩
theorem QD.ae (h:QD w v k0 k1 k2 k3 r0 r1 r2 r3) (k:zf w w'):QD w' v k0 k1 k2 k3 r0 r1 r2 r3:=h.af (av.ae k)
set_option maxHeartbeats 6400000 in
set_option maxRecDepth 1000000 in
theorem GN (k0 k1 k2 k3 A1 A2 B1 B2 N:Int) (w:Cc) (gG : -9223372036854775808<=A1/\A1<=9223372036854775807) (gE : -9223372036854775808<=A2/\A2<=9223372036854775807) (gH : -9223372036854775808<=B1/\B1<=9223372036854775807) (gF : -9223372036854775808<=B2/\B2<=9223372036854775807) (hN:0<N/\N<=9223372036854775807) :
  Cb Ch 108 #[Cy #[Cz Cv k0,Cz Cv k1,Cz Cv k2,Cz Cv k3,Cz Cv A1,Cz Cv A2,Cz Cv B1,Cz Cv B2,Cz Cv N]] w fun e w'=>
   ∃v,e = Cg (Ck #[v,Cz Cv 0])/\QD w' v k0 k1 k2 k3 ((A1:Rat) / (N:Rat)) ((A2:Rat) / (N:Rat)) ((B1:Rat) / (N:Rat)) ((B2:Rat) / (N:Rat))/\zf w w':=by
 have o0:=fun w'=>XI A1 N w' gG.1 gG.2 B_ hN.2 B_;have o1:=fun w'=>XI A2 N w' gE.1 gE.2 B_ hN.2 B_;have o2:=fun w'=>XI B1 N w' gH.1 gH.2 B_ hN.2 B_;have o3:=fun w'=>XI B2 N w' gF.1 gF.2 B_ hN.2 B_;clear gG gE gH gF hN;have gT:∀w':Cc,(Instr.index 158 (Cy #[Cz Cv A1,Cz Cv A2,Cz Cv B1,Cz Cv B2]) (Cz Cv 0)).run Ch w' = .ok (Cz Cv A1) w':=fun w'=>by kernel_rfl
 have ig:∀w':Cc,(Instr.index 158 (Cy #[Cz Cv A1,Cz Cv A2,Cz Cv B1,Cz Cv B2]) (Cz Cv 1)).run Ch w' = .ok (Cz Cv A2) w':=fun w'=>by kernel_rfl
 have gY:∀w':Cc,(Instr.index 158 (Cy #[Cz Cv A1,Cz Cv A2,Cz Cv B1,Cz Cv B2]) (Cz Cv 2)).run Ch w' = .ok (Cz Cv B1) w':=fun w'=>by kernel_rfl
 have h9:∀w':Cc,(Instr.index 158 (Cy #[Cz Cv A1,Cz Cv A2,Cz Cv B1,Cz Cv B2]) (Cz Cv 3)).run Ch w' = .ok (Cz Cv B2) w':=fun w'=>by kernel_rfl
 go_enter Tryz.func108,Tryz.ntmps108
 go_wp2_with (first
  | (
    refine yi rfl 83 #[(0,.tmp 10)] rfl #[Cz Cv k0,Cz Cv k1,Cz Cv k2,Cz Cv k3,Cx false,Cq none 0 0,Cx false,Cq none 0 0,Cx false,Cq none 0 0,Cx false,Cq none 0 0,Cx false,Cq none 0 0,Cx false,Cq none 0 0,Cx false,Cq none 0 0,Cx false,Cq none 0 0] B' ?_
    skip)
  | (
    refine zE rfl 83 (.tmp 4) (.tmp 11) rfl (w.heap.size+1+1) #[Cz Cv k0,Cz Cv k1,Cz Cv k2,Cz Cv k3,Cx false,Cq none 0 0,Cx false,Cq none 0 0,Cx false,Cq none 0 0,Cx false,Cq none 0 0,Cx false,Cq none 0 0,Cx false,Cq none 0 0,Cx false,Cq none 0 0,Cx false,Cq none 0 0] rfl rfl 83 #[Cz Cv 0,Cz Cv 0,Cz Cv 0,Cz Cv 0,Cx false,Cq none 0 0,Cx false,Cq none 0 0,Cx false,Cq none 0 0,Cx false,Cq none 0 0,Cx false,Cq none 0 0,Cx false,Cq none 0 0,Cx false,Cq none 0 0,Cx false,Cq none 0 0] zw B' rfl (by simp[Value.oneCell']) (fun w1 E=> ?_);have Bn:Below w.heap.size w w1:=E.below zi B_;have oa:ai w1 w.heap.size 160 #[Cz Cv k0,Cz Cv k1,Cz Cv k2,Cz Cv k3,Cz Cv A1,Cz Cv A2,Cz Cv B1,Cz Cv B2,Cz Cv N]:=E.a_ zw (show w.heap.size≠w.heap.size+1+1 by omega);have or:ai w1 (w.heap.size+1) 83 Jf:=E.a_ zw (show w.heap.size+1≠w.heap.size+1+1 by omega);have oq:ai w1 (w.heap.size+1+1) 83 #[Cz Cv k0,Cz Cv k1,Cz Cv k2,Cz Cv k3,Cx false,Cq none 0 0,Cx false,Cq none 0 0,Cx false,Cq none 0 0,Cx false,Cq none 0 0,Cx false,Cq none 0 0,Cx false,Cq none 0 0,Cx false,Cq none 0 0,Cx false,Cq none 0 0]:=E.bP;have B:=Bn;clear Bn E;obtain⟨ft,gz,fd,fm,g9,fW,g8,fe,gg⟩:=oa.r8;have la:=oa.lt;have lr:=or.lt;have lq:=oq.lt
    skip)
  )
 skip
 refine wp_loop_rounds 5 ?_;rw[rounds_succ];go_wp2_with fail
 refine(o0 _).mono ?_;rintro e w2 ⟨gQ,rfl,gt,st⟩;have sk:=bA w1 st;replace B:=bS B sk;replace oa:=oa.ae sk;replace or:=or.ae sk;replace oq:=oq.ae sk;clear st sk ft gz fd fm g9 fW g8 fe gg la lr lq;obtain⟨ft,gz,fd,fm,g9,fW,g8,fe,gg⟩:=oa.r8;have la:=oa.lt;have lr:=or.lt;obtain⟨gn,gi,gj,fV,gp,gr,fl,gd,gk,fX,dy,dl,cY,dk,cN,dP,d9,dc,dx,ec,fq,lq⟩:=oq.eS;obtain⟨M,I,Z,X,J,T,H,Y,rfl⟩:=gt.au;have bf:=C5 gt;clear gt;clear o0;have gP:w.heap.size+1+1<w2.heap.size:=oq.lt;have gV:=B.size;go_wp2_with fail
 rw[rounds_succ];go_wp2_with fail
 refine(o1 _).mono ?_;rintro e w3 ⟨gO,rfl,fZ,st⟩;have Bn:=bA w st;have kp:=kB w2 st;replace oa:ai w3 w.heap.size 160 #[Cz Cv k0,Cz Cv k1,Cz Cv k2,Cz Cv k3,Cz Cv A1,Cz Cv A2,Cz Cv B1,Cz Cv B2,Cz Cv N]:=ai.ak st;replace or:ai w3 (w.heap.size+1) 83 Jf:=ai.ak st;replace oq:ai w3 (w.heap.size+1+1) 83 #[Cz Cv k0,Cz Cv k1,Cz Cv k2,Cz Cv k3,Cx M,Cq I Z X,Cx J,Cq T H Y,Cx false,Cq none 0 0,Cx false,Cq none 0 0,Cx false,Cq none 0 0,Cx false,Cq none 0 0,Cx false,Cq none 0 0,Cx false,Cq none 0 0]:=ai.ae kX st;have gA:ai w3 w2.heap.size 28 #[Cx M,Cq I Z X,Cx J,Cq T H Y]:=ai.ak st;clear ft gz fd fm g9 fW g8 fe gg la lr gn gi gj fV gp gr fl gd gk fX dy dl cY dk cN dP d9 dc dx ec fq lq;replace B:=Bn;replace bf:=C5 (bf.out.af kp);clear kp;clear st;obtain⟨ft,gz,fd,fm,g9,fW,g8,fe,gg⟩:=oa.r8;have la:=oa.lt;have lr:=or.lt;obtain⟨gn,gi,gj,fV,gp,gr,fl,gd,gk,fX,dy,dl,cY,dk,cN,dP,d9,dc,dx,ec,fq,lq⟩:=oq.eS;obtain⟨bi,bh,a9,bl,bg,be,b9,ah,rfl⟩:=fZ.au;have dd:=C5 fZ;clear fZ;clear o1;have gM:w2.heap.size<w3.heap.size:=gA.lt;have gX:=B.size;go_wp2_with fail
 rw[rounds_succ];go_wp2_with fail
 refine(o2 _).mono ?_;rintro e w4 ⟨gR,rfl,gh,st⟩;have Bn:=bA w st;have kp:=kB w3 st;have na:=oa.ey st;have nr:=or.ey st;replace oq:ai w4 (w.heap.size+1+1) 83 #[Cz Cv k0,Cz Cv k1,Cz Cv k2,Cz Cv k3,Cx M,Cq I Z X,Cx J,Cq T H Y,Cx bi,Cq bh a9 bl,Cx bg,Cq be b9 ah,Cx false,Cq none 0 0,Cx false,Cq none 0 0,Cx false,Cq none 0 0,Cx false,Cq none 0 0]:=ai.ae kX st;have gC:=gA.ey st;have gD:ai w4 w3.heap.size 28 #[Cx bi,Cq bh a9 bl,Cx bg,Cq be b9 ah]:=ai.ak st;clear ft gz fd fm g9 fW g8 fe gg la lr gn gi gj fV gp gr fl gd gk fX dy dl cY dk cN dP d9 dc dx ec fq lq;replace B:=Bn;replace oa:=na;clear na;replace or:=nr;clear nr;replace gA:=gC;clear gC;replace bf:=C5 (bf.out.af kp);replace dd:=C5 (dd.out.af kp);clear kp;clear st;obtain⟨ft,gz,fd,fm,g9,fW,g8,fe,gg⟩:=oa.r8;have la:=oa.lt;have lr:=or.lt;obtain⟨gn,gi,gj,fV,gp,gr,fl,gd,gk,fX,dy,dl,cY,dk,cN,dP,d9,dc,dx,ec,fq,lq⟩:=oq.eS;obtain⟨cg,cx,cy,ce,bq,bt,ci,br,rfl⟩:=gh.au;have f9:=C5 gh;clear gh;clear o2;have gL:w3.heap.size<w4.heap.size:=gD.lt;have gZ:=B.size;go_wp2_with fail
 rw[rounds_succ];go_wp2_with fail
 refine(o3 _).mono ?_;rintro e w5 ⟨gN,rfl,fY,st⟩;have Bn:=bA w st;have kp:=kB w4 st;have na:=oa.ey st;have nr:=or.ey st;replace oq:ai w5 (w.heap.size+1+1) 83 #[Cz Cv k0,Cz Cv k1,Cz Cv k2,Cz Cv k3,Cx M,Cq I Z X,Cx J,Cq T H Y,Cx bi,Cq bh a9 bl,Cx bg,Cq be b9 ah,Cx cg,Cq cx cy ce,Cx bq,Cq bt ci br,Cx false,Cq none 0 0,Cx false,Cq none 0 0]:=ai.ae kX st;have gC:=gA.ey st;have gJ:=gD.ey st;have gI:ai w5 w4.heap.size 28 #[Cx cg,Cq cx cy ce,Cx bq,Cq bt ci br]:=ai.ak st;clear ft gz fd fm g9 fW g8 fe gg la lr gn gi gj fV gp gr fl gd gk fX dy dl cY dk cN dP d9 dc dx ec fq lq;replace B:=Bn;replace oa:=na;clear na;replace or:=nr;clear nr;replace gA:=gC;clear gC;replace gD:=gJ;clear gJ;replace bf:=C5 (bf.out.af kp);replace dd:=C5 (dd.out.af kp);replace f9:=C5 (f9.out.af kp);clear kp;clear st;have la:=oa.lt;have lr:=or.lt;obtain⟨gn,gi,gj,fV,gp,gr,fl,gd,gk,fX,dy,dl,cY,dk,cN,dP,d9,dc,dx,ec,fq,lq⟩:=oq.eS;obtain⟨eF,em,ek,er,eM,f7,eW,f8,rfl⟩:=fY.au;have gB:=C5 fY;clear fY;clear o3;have gK:w4.heap.size<w5.heap.size:=gI.lt;have gW:=B.size;go_wp2_with fail
 rw[rounds_succ]
 go_wp2_with (first
  | (
    refine zP rfl 83 (.tmp 4) rfl (w.heap.size+1+1) rfl 83 #[Cz Cv k0,Cz Cv k1,Cz Cv k2,Cz Cv k3,Cx M,Cq I Z X,Cx J,Cq T H Y,Cx bi,Cq bh a9 bl,Cx bg,Cq be b9 ah,Cx cg,Cq cx cy ce,Cx bq,Cq bt ci br,Cx eF,Cq em ek er,Cx eM,Cq f7 eW f8] _ kX Tryz.underlying83 rfl B' ?_
    skip)
  | (
    refine zE rfl 83 (.tmp 2) (.tmp 34) rfl (w.heap.size+1) #[Cz Cv k0,Cz Cv k1,Cz Cv k2,Cz Cv k3,Cx M,Cq I Z X,Cx J,Cq T H Y,Cx bi,Cq bh a9 bl,Cx bg,Cq be b9 ah,Cx cg,Cq cx cy ce,Cx bq,Cq bt ci br,Cx eF,Cq em ek er,Cx eM,Cq f7 eW f8] rfl rfl 83 #[Cz Cv 0,Cz Cv 0,Cz Cv 0,Cz Cv 0,Cx false,Cq none 0 0,Cx false,Cq none 0 0,Cx false,Cq none 0 0,Cx false,Cq none 0 0,Cx false,Cq none 0 0,Cx false,Cq none 0 0,Cx false,Cq none 0 0,Cx false,Cq none 0 0] zw B' rfl (by simp[Value.oneCell']) (fun w6 E=> ?_);have Bn:Below w.heap.size w w6:=E.below zi B_;have kp:av w5 w6:=av.trans zo (E.af rfl);replace oa:ai w6 w.heap.size 160 #[Cz Cv k0,Cz Cv k1,Cz Cv k2,Cz Cv k3,Cz Cv A1,Cz Cv A2,Cz Cv B1,Cz Cv B2,Cz Cv N]:=E.a_ zw (show w.heap.size≠w.heap.size+1 by omega);replace or:ai w6 (w.heap.size+1) 83 #[Cz Cv k0,Cz Cv k1,Cz Cv k2,Cz Cv k3,Cx M,Cq I Z X,Cx J,Cq T H Y,Cx bi,Cq bh a9 bl,Cx bg,Cq be b9 ah,Cx cg,Cq cx cy ce,Cx bq,Cq bt ci br,Cx eF,Cq em ek er,Cx eM,Cq f7 eW f8]:=E.bP;replace oq:ai w6 (w.heap.size+1+1) 83 #[Cz Cv k0,Cz Cv k1,Cz Cv k2,Cz Cv k3,Cx M,Cq I Z X,Cx J,Cq T H Y,Cx bi,Cq bh a9 bl,Cx bg,Cq be b9 ah,Cx cg,Cq cx cy ce,Cx bq,Cq bt ci br,Cx eF,Cq em ek er,Cx eM,Cq f7 eW f8]:=E.a_ kX (show w.heap.size+1+1≠w.heap.size+1 by omega);replace gA:ai w6 w2.heap.size 28 #[Cx M,Cq I Z X,Cx J,Cq T H Y]:=E.a_ zw (show w2.heap.size≠w.heap.size+1 by omega);replace gD:ai w6 w3.heap.size 28 #[Cx bi,Cq bh a9 bl,Cx bg,Cq be b9 ah]:=E.a_ zw (show w3.heap.size≠w.heap.size+1 by omega);replace gI:ai w6 w4.heap.size 28 #[Cx cg,Cq cx cy ce,Cx bq,Cq bt ci br]:=E.a_ zw (show w4.heap.size≠w.heap.size+1 by omega);have hZ:ai w6 w5.heap.size 28 #[Cx eF,Cq em ek er,Cx eM,Cq f7 eW f8]:=E.a_ zw (show w5.heap.size≠w.heap.size+1 by omega);clear la lr gn gi gj fV gp gr fl gd gk fX dy dl cY dk cN dP d9 dc dx ec fq lq;replace B:=Bn;clear Bn E;replace bf:=C5 (bf.out.af kp);replace dd:=C5 (dd.out.af kp);replace f9:=C5 (f9.out.af kp);replace gB:=C5 (gB.out.af kp);clear kp
    skip)
  )
 skip
 refine bodyPost_ret (z8 rfl _ _ (w.heap.size+1) rfl (cs:=#[Cz Cv k0,Cz Cv k1,Cz Cv k2,Cz Cv k3,Cx M,Cq I Z X,Cx J,Cq T H Y,Cx bi,Cq bh a9 bl,Cx bg,Cq be b9 ah,Cx cg,Cq cx cy ce,Cx bq,Cq bt ci br,Cx eF,Cq em ek er,Cx eM,Cq f7 eW f8]) zw Tryz.underlying83 rfl B') rfl ?_;exact⟨_,rfl,⟨_,_,_,_,_,_,_,_,_,_,_,_,_,_,_,_,rfl,bf.out.af zo,dd.out.af zo,f9.out.af zo,gB.out.af zo⟩,zi⟩
end
section
open Go.RowKit
variable {a:aT} {l:PL} {v:Cd} {w w':Cc}
def cP (x n:Int):Int:=if n=0 then 0 else((x:Rat) / (n:Rat)).num
def cQ (x n:Int):Int:=if n=0 then 0 else(((x:Rat) / (n:Rat)).den:Int)
def QN (w:Cc) (v:Cd) (a:aT):Prop:=
 ∃c0 Z X c3 c4 c5 Y T c8 c9 J M I N H E,v = Cy #[Cz Cv a.k0,Cz Cv a.k1,Cz Cv a.k2,Cz Cv a.k3,c0,Z,X,c3,c4,c5,Y,T,c8,c9,J,M,I,N,H,E]/\
  (az w (Cy #[c0,Z]) (cP a.a1 a.n)/\az w (Cy #[X,c3]) (cQ a.a1 a.n))/\(az w (Cy #[c4,c5]) (cP a.a2 a.n)/\az w (Cy #[Y,T]) (cQ a.a2 a.n))/\
  (az w (Cy #[c8,c9]) (cP a.b1 a.n)/\az w (Cy #[J,M]) (cQ a.b1 a.n))/\(az w (Cy #[I,N]) (cP a.b2 a.n)/\az w (Cy #[H,E]) (cQ a.b2 a.n))
theorem QN.af (h:QN w v a) (k:av w w'):QN w' v a:=by
 obtain⟨c0,T,c2,c3,c4,c5,c6,c7,c8,c9,E,H,J,N,M,I,e,⟨h0,Y⟩,⟨h2,Z⟩,⟨h4,h5⟩,⟨X,h7⟩⟩:=h;exact⟨c0,T,c2,c3,c4,c5,c6,c7,c8,c9,E,H,J,N,M,I,e,⟨h0.af k,Y.af k⟩,⟨h2.af k,Z.af k⟩,⟨h4.af k,h5.af k⟩,⟨X.af k,h7.af k⟩⟩
theorem QN.ae (h:QN w v a) (k:zf w w'):QN w' v a:=h.af (av.ae k)
theorem az.cU (w:Cc):az w (Cy #[Cx false,Cq none 0 0]) 0:=⟨_,rfl,by
 have e:zn (zh 0) = []:=(zT (zt _)).2 (by unfold zh; omega)
 rw[e]; exact aA.nil w⟩
theorem QN.zero (w:Cc):QN w (Cy Jf) zM:=
 ⟨_,_,_,_,_,_,_,_,_,_,_,_,_,_,_,_,rfl,⟨az.cU w,az.cU w⟩,⟨az.cU w,az.cU w⟩,⟨az.cU w,az.cU w⟩,⟨az.cU w,az.cU w⟩⟩
theorem FR.dB {a b c d:Cd} {x n:Int} (N:0<n) (h:FR w (Cy #[a,b,c,d]) ((x:Rat) / (n:Rat))):az w (Cy #[a,b]) (cP x n)/\az w (Cy #[c,d]) (cQ x n):=by
 obtain⟨a2,T,X,I,M,J,e,E,H,-⟩:=h.cj;unfold cP cQ;rw[C8 B_,C8 B_];simp only[Value.agg.injEq,Array.mk.injEq,List.cons.injEq,and_true]at e;obtain⟨rfl,rfl,rfl,rfl⟩:=e;exact⟨E,H⟩
theorem QD.qn (E:0<a.n) (h:QD w v a.k0 a.k1 a.k2 a.k3 ((a.a1:Rat) / (a.n:Rat)) ((a.a2:Rat) / (a.n:Rat)) ((a.b1:Rat) / (a.n:Rat)) ((a.b2:Rat) / (a.n:Rat))):QN w v a:=by
 obtain⟨c0,X,c2,Z,c4,c5,c6,c7,c8,c9,H,I,M,T,N,J,e,h0,Y,h2,h3⟩:=h;exact⟨c0,X,c2,Z,c4,c5,c6,c7,c8,c9,H,I,M,T,N,J,e,h0.dB E,Y.dB E,h2.dB E,h3.dB E⟩
def Hk (n:Nat) (k:Nat->Int) (i:Nat):Prop:=(0<=k i/\k i<n)/\∀m,m<i->k m≠k i
def GO (n:Nat) (k:Nat->Int):Prop:=∀i,i<4->Hk n k i
def KK (k:Nat->Int):Nat->Nat:=Xd (k 0).toNat (k 1).toNat (k 2).toNat (k 3).toNat
open Classical in
noncomputable def codeS (l:PL) (k:Nat->Int):Int×aT:=
 if zQ l≠0 then(zQ l,zM)else if ¬GO l.length k then(2,zM)else if jT l (KK k)=0 then(18,zM)else(0,yB l (KK k))
def ep (w:Cc) (l:PL) (k:Nat->Int) (e:Ending) (w':Cc):Prop:=∃u,e = Cg (Ck #[u,Cz Cv (codeS l k).1])/\QN w' u (codeS l k).2/\zf w w'
theorem ep.none {k:Nat->Int} {c:Int} (h:codeS l k=(c,zM)) (st:zf w w'):ep w l k (Cg (Ck #[Cy Jf,Cz Cv c])) w':=
 ⟨_,by rw[h],by rw[h]; exact QN.zero w',st⟩
structure dp (a:aT):Prop where
 a1 : -35184372088832<=a.a1/\a.a1<=35184372088832
 a2 : -35184372088832<=a.a2/\a.a2<=35184372088832
 b1 : -35184372088832<=a.b1/\a.b1<=35184372088832
 b2 : -35184372088832<=a.b2/\a.b2<=35184372088832
 n:0<=a.n/\a.n<=35184372088832
theorem Vr {p q r s:Int×Int} (k0 k1 k2 k3:Nat) (h0:vX p.1 p.2) (E:vX q.1 q.2) (I:vX r.1 r.2) (H:vX s.1 s.2):dp (K8 k0 k1 k2 k3 p q r s):=by
 have a:=kh (xR I h0) (xR E h0);have b:=kh (xR H h0) (xR E h0);have c:=kh (xR E h0) (xR E h0);have d:=qC (q.1-p.1) (q.2-p.2);refine⟨?_,?_,?_,?_,?_⟩<;>(unfold K8 ; try unfold kN; try unfold vU; try unfold U1)<;>dsimp only
 . omega
 . omega
 . omega
 . omega
 . unfold jw at *; omega
theorem ZU {K:Nat->Nat} (E:∀i,vX (pt l (K i)).1 (pt l (K i)).2) (h:0<jT l K):dp (yB l K):=by
 obtain⟨H,-,-⟩:=qd l K h;obtain⟨p,-,e⟩:=List.mem_map.1 H;rw[<- e];exact Vr _ _ _ _ (E _) (E _) (E _) (E _)
theorem QD.cells {k0 k1 k2 k3:Int} {r0 r1 r2 r3:Rat} (h:QD w v k0 k1 k2 k3 r0 r1 r2 r3):∃cs,v = Cy cs/\cs.size=20/\cs.all (·.oneCell')=true:=by
 obtain⟨c0,c1,c2,c3,c4,c5,c6,c7,c8,c9,N,T,Z,ah,a9,Y,e,h0,M,h2,X⟩:=h;obtain⟨_,_,_,_,_,_,_,_,H⟩:=h0.au;obtain⟨_,_,_,_,_,_,_,_,I⟩:=M.au;obtain⟨_,_,_,_,_,_,_,_,E⟩:=h2.au;obtain⟨_,_,_,_,_,_,_,_,J⟩:=X.au;simp only[Value.agg.injEq,Array.mk.injEq,List.cons.injEq,and_true]at H I E J;obtain⟨rfl,rfl,rfl,rfl⟩:=H;obtain⟨rfl,rfl,rfl,rfl⟩:=I;obtain⟨rfl,rfl,rfl,rfl⟩:=E;obtain⟨rfl,rfl,rfl,rfl⟩:=J;exact⟨_,e,rfl,by simp[Value.oneCell']⟩
theorem WI (a:aT) (w:Cc) (h:dp a) (H:0<a.n):Cb Ch 108 #[Cy (qj a)] w fun e w'=>∃cs,e = Cg (Ck #[Cy cs,Cz Cv 0])/\QN w' (Cy cs) a/\(cs.size=20/\cs.all (·.oneCell')=true)/\zf w w':=by
 refine Calls.mono (GN a.k0 a.k1 a.k2 a.k3 a.a1 a.a2 a.b1 a.b2 a.n w ⟨by have:=h.a1; omega,by have:=h.a1; omega⟩ ⟨by have:=h.a2; omega,by have:=h.a2; omega⟩ ⟨by have:=h.b1; omega,by have:=h.b1; omega⟩ ⟨by have:=h.b2; omega,by have:=h.b2; omega⟩ ⟨H,by have:=h.n; omega⟩) ?_;rintro e w' ⟨v,rfl,E,M⟩;obtain⟨cs,rfl,I,J⟩:=E.cells;exact⟨cs,rfl,E.qn H,⟨I,J⟩,M⟩
theorem Y4 (h:zQ l=0) (k:Nat) (E:k<l.length):vX (pt l k).1 (pt l k).2:=by
 unfold zQ at h
 split at h
 . cases h
 .
  split at h
  .
   rename_i hq
   have H:pt l k∈l:=by
    unfold pt;simp only[List.getD,List.getElem?_eq_getElem E,Option.getD_some];exact List.getElem_mem E
   obtain⟨q1,q2,q3,q4⟩:=hq _ H;exact⟨q1,q2,q3,q4⟩
  . cases h
open Go.RowKit
theorem Hl (x y:Int) (w:Cc) (T : -9223372036854775808<=x) (H:x<=9223372036854775807) (I : -9223372036854775808<=y) (M:y<=9223372036854775807) (E:y≠0) :
  Cb Ch 69 #[Cz Cv x,Cz Cv y] w fun e w'=>∃v,e = Cg (Ck #[v,Cz Cv 0])/\FR w' v ((x:Rat) / (y:Rat))/\zf w w':=by
 refine(Bh x y w T H I M E).mono ?_;rintro e w' ⟨v,rfl,J,N⟩;exact⟨v,rfl,FR.ev E J,N⟩
open Go.RowKit
def GP (l:PL) (K:Nat->Nat) (i:Nat) (b:Int):Nat->Int
 | 0=>b
 | k+1=>max (GP l K i b k) (dst l K i k)
def Hm (l:PL) (K:Nat->Nat):Nat->Int
 | 0=>0
 | i+1=>GP l K i (Hm l K i) i
theorem bJ.at {w:Cc} {ao:Option Addr} {len cap:Nat} {l:PL} (h:bJ w (Cq ao len cap) l) {a:Nat} (E:a<l.length):∃b o,ao=some ⟨b,o,none⟩/\b<w.heap.size/\w.cell? ⟨b,o+a*2,none⟩=some (Cz Cv (pt l a).1)/\w.cell? ⟨b,o+a*2+1,none⟩=some (Cz Cv (pt l a).2):=by
 obtain⟨e,-,I⟩:=h.cells;obtain⟨b,o,H,J,hc⟩:=I B_;exact⟨b,o,H,J,(hc a E).1,(hc a E).2⟩
open Go.RowKit
variable {cs:Array Cd} {k:Nat->Int} {r:Nat->Rat} {w w':Cc}
def QF (w:Cc) (cs:Array Cd) (k:Nat->Int) (r:Nat->Rat):Prop:=cs.size=20/\cs.all (·.oneCell')=true/\(∀i,i<4->cs[i]? = some (Cz Cv (k i)))/\
 ∀i,i<4->∃a1 a2 M N E H J I,cs[4+i*4]? = some (Cx a1)/\cs[4+i*4+1]? = some (Cq a2 M N)/\cs[4+i*4+2]? = some (Cx E)/\cs[4+i*4+3]? = some (Cq H J I)/\FR w (Cy #[Cx a1,Cq a2 M N,Cx E,Cq H J I]) (r i)
theorem QF.af (h:QF w cs k r) (kp:av w w'):QF w' cs k r:=by
 obtain⟨Z,h2,H,J⟩:=h;refine⟨Z,h2,H,fun i I=> ?_⟩;obtain⟨a1,a2,a3,a4,N,X,a7,Y,c0,T,M,E,f⟩:=J i I;exact⟨a1,a2,a3,a4,N,X,a7,Y,c0,T,M,E,f.af kp⟩
theorem QF.ae (h:QF w cs k r) (s:zf w w'):QF w' cs k r:=h.af (av.ae s)
open Go.RowKit
variable {r s:Rat}
def kA (a:aT) (i:Nat):Int:=match i with | 0=>a.k0 | 1=>a.k1 | 2=>a.k2 | _=>a.k3
def cA (a:aT) (i:Nat):Int:=match i with | 0=>a.a1 | 1=>a.a2 | 2=>a.b1 | _=>a.b2
def rA (a:aT) (i:Nat):Rat:=(cA a i:Rat) / (a.n:Rat)
def Bq (x:Cd):Prop:=∃u v,y_ u/\y_ v/\x = Ck #[u,v]
def eI (r s:Rat) (x:Cd) (W:Cc):Prop:=∃u v,x = Ck #[u,v]/\FR W u r/\FR W v s
theorem eI.af (x:Cd) (W E:Cc) (k:av W E) (h:eI r s x W):eI r s x E:=by obtain⟨u,v,e,I,H⟩:=h; exact⟨u,v,e,I.af k,H.af k⟩
theorem eI.get {u v:Cd} {W:Cc} (h:eI r s (Ck #[u,v]) W):FR W u r/\FR W v s:=by
 obtain⟨J,I,e,H,E⟩:=h;simp only[Value.tuple.injEq,Array.mk.injEq,List.cons.injEq,and_true]at e;obtain⟨rfl,rfl⟩:=e;exact⟨H,E⟩
open Go.RowKit
def d_ (x y:Int):Prop:=(x<0↔y<0)/\(x=0↔y=0)
theorem d_.sub (x y:Int):d_ (x-y) (zI x y):=by
 unfold d_ zI
 split
 . omega
 . split<;>omega
theorem d_.refl (x:Int):d_ x x:=⟨Iff.rfl,Iff.rfl⟩
def Hn (a c:aT):Nat->Int
 | 0=>yJ (rA a 0+rA a 2) (rA c 0+rA c 2)
 | n+1=>kO (Hn a c n) (if n<4 then yJ (rA a n) (rA c n)else kA a (n-4)-kA c (n-4))
theorem Js {x m:Int} (h0 : -m<=x) (E:x<=m):zh x<=m:=by unfold zh; omega
theorem U7 {a:aT} (h:dp a) (E:0<a.n) (i:Nat):sz (rA a i) 2:=by
 have e:bp 2=18446744073709551616:=by decide
 unfold rA;refine xV B_ ?_ ?_
 .
  have : -35184372088832<=cA a i/\cA a i<=35184372088832:=by
   unfold cA; split
   . exact h.a1
   . exact h.a2
   . exact h.b1
   . exact h.b2
  rw[e]; exact Js B_ B_
 .
  have:=h.n;rw[e]; exact Js B_ B_
def H4 (l:PL) (K:Nat->Nat) (N:Int) (a b c:Nat):Option aT:=Gr N ((xK a b c).map (jt l K))
open Go.RowKit
variable {cs:Array Cd} {g:Nat} {k:Nat->Int} {r:Nat->Rat} {o:Option aT} {ff:Cd} {w:Cc}
def cX (wr:Cc) (g:Nat) (ff:Cd):Option aT->Prop
 | none=>ff = Cx false/\ai wr g 83 Jf
 | some x=>ff = Cx true/\∃cs,ai wr g 83 cs/\QF wr cs (kA x) (rA x)
theorem cX.ae {w':Cc} (h:cX w g ff o) (s:zf w w'):cX w' g ff o:=by
 cases o with
 | none=>exact⟨h.1,h.2.ae s⟩
 | some x=>obtain⟨e,cs,H,E⟩:=h; exact⟨e,cs,H.ae s,E.ae s⟩
theorem cX.lt (h:cX w g ff o):g<w.heap.size:=by
 cases o with
 | none=>exact h.2.lt
 | some x=>obtain⟨e,cs,E,H⟩:=h; exact E.lt
def BQ (x:Cd):Prop:=∃cs:Array Cd,x = Cy cs/\cs.size=20/\cs.all (·.oneCell')=true
def GQ (k:Nat->Int) (r:Nat->Rat) (x:Cd) (W:Cc):Prop:=∃cs,x = Cy cs/\QF W cs k r
theorem GQ.af (x:Cd) (W E:Cc) (H:av W E) (h:GQ k r x W):GQ k r x E:=by obtain⟨cs,e,h⟩:=h; exact⟨cs,e,h.af H⟩
theorem GQ.get {W:Cc} (h:GQ k r (Cy cs) W):QF W cs k r:=by obtain⟨cs',e,h⟩:=h; injection e with e; subst e; exact h
theorem QF.eD (h:QF w cs k r):zL cs=true:=by
 obtain⟨T,-,X,Z⟩:=h;unfold zL;rw[List.all_eq_true];intro x N;obtain⟨j,H,e⟩:=List.getElem_of_mem N;have I:j<20:=by simpa[T]using H
 have E:cs[j]? = some x:=by rw[<- e]; simp at H|-
 have key:∀i,i<4->∀m,m<4->cs[4+i*4+m]? = some x->(match x with | Cz .u32 _=>false | _=>true)=true:=fun i J m hm h=>by
  obtain⟨a1,a2,a3,a4,a5,a6,a7,a8,c0,M,Y,c3,-⟩:=Z i J
  rcases(show m=0\/m=1\/m=2\/m=3 by omega)with rfl | rfl | rfl | rfl
  . rw[Nat.add_zero,c0]at h; injection h with h; subst h; rfl
  . rw[M]at h; injection h with h; subst h; rfl
  . rw[Y]at h; injection h with h; subst h; rfl
  . rw[c3]at h; injection h with h; subst h; rfl
 rcases Nat.lt_or_ge j 4 with g | g
 . rw[X j g]at E; injection E with E; subst E; rfl
 .
  refine key ((j-4) / 4) B_ ((j-4)%4) B_ ?_;rw[show 4+(j-4) / 4*4+(j-4)%4=j by omega]; exact E
open Go.RowKit
theorem QF.qn {w:Cc} {cs:Array Cd} {a:aT} (E:0<a.n) (h:QF w cs (kA a) (rA a)):QN w (Cy cs) a:=by
 obtain⟨J,-,H,I⟩:=h;obtain⟨l⟩:=cs;replace J:l.length=20:=by simpa using J
 match l,J with
 | [x0,x1,x2,x3,x4,x5,x6,x7,x8,x9,x10,x11,x12,x13,x14,x15,x16,x17,x18,x19],_=>
  obtain⟨a1,a2,a3,a4,Y,a6,a7,a8,p0,p1,p2,p3,X⟩:=I 0 B_;obtain⟨b1,b2,b3,b4,b5,b6,b7,b8,p4,p5,p6,p7,M⟩:=I 1 B_;obtain⟨Z,c2,c3,c4,c5,c6,c7,c8,p8,p9,p10,p11,T⟩:=I 2 B_;obtain⟨d1,d2,d3,d4,d5,d6,d7,d8,p12,p13,p14,p15,N⟩:=I 3 B_;have k0:=H 0 B_;have k1:=H 1 B_;have k2:=H 2 B_;have k3:=H 3 B_;replace k0:some x0=some _:=k0
  injection k0 with k0
  replace k1:some x1=some _:=k1
  injection k1 with k1
  replace k2:some x2=some _:=k2
  injection k2 with k2
  replace k3:some x3=some _:=k3
  injection k3 with k3
  replace p0:some x4=some _:=p0
  injection p0 with p0
  replace p1:some x5=some _:=p1
  injection p1 with p1
  replace p2:some x6=some _:=p2
  injection p2 with p2
  replace p3:some x7=some _:=p3
  injection p3 with p3
  replace p4:some x8=some _:=p4
  injection p4 with p4
  replace p5:some x9=some _:=p5
  injection p5 with p5
  replace p6:some x10=some _:=p6
  injection p6 with p6
  replace p7:some x11=some _:=p7
  injection p7 with p7
  replace p8:some x12=some _:=p8
  injection p8 with p8
  replace p9:some x13=some _:=p9
  injection p9 with p9
  replace p10:some x14=some _:=p10
  injection p10 with p10
  replace p11:some x15=some _:=p11
  injection p11 with p11
  replace p12:some x16=some _:=p12
  injection p12 with p12
  replace p13:some x17=some _:=p13
  injection p13 with p13
  replace p14:some x18=some _:=p14
  injection p14 with p14
  replace p15:some x19=some _:=p15
  injection p15 with p15
  subst k0 k1 k2 k3 p0 p1 p2 p3 p4 p5 p6 p7 p8 p9 p10 p11 p12 p13 p14 p15;exact⟨_,_,_,_,_,_,_,_,_,_,_,_,_,_,_,_,rfl,X.dB E,M.dB E,T.dB E,N.dB E⟩
end
end Go.Proofs.YtffmbepfbienaaaGreat
