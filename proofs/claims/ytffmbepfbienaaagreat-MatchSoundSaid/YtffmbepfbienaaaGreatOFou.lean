import Derived.Test.YtffmbepfbienaaaGreatOMb
import Derived.Deep.Upon
set_option linter.unusedVariables false
set_option linter.unusedSimpArgs false
set_option maxHeartbeats 6400000
set_option maxRecDepth 1000000
open Go.Value renaming slice->Ex,int->Ey,pointer->Ek
open Go.IntKind renaming i64->Ew
open Go.Ending renaming returned->Eh
open Go.Proofs.Tryz renaming prog->Ed
open Go renaming Calls->Ee,World->Ef,Value->Ei,undef->En
open Nat renaming le_refl->Ep,lt_or_ge->Er
open Go.World renaming cell?->Es
open Go.RowKit.Below renaming refl->Fz
namespace Go.Proofs.YtffmbepfbienaaaGreat
section
open Go.RowKit Go.Shelf
attribute [local go_sem] Oper.semAt_some
def Ka (x:P4):Ei:= .agg #[Ey Ew (x.1:Nat),Ey Ew (x.2.1:Nat),Ey Ew (x.2.2.1:Nat),Ey Ew (x.2.2.2:Nat)]
def Kb (x:P4):Array Ei:=#[Ka x]
def KF (Bs G:Nat) (A B:Ef):Prop:=B.heap[Bs]? = A.heap[Bs]?/\B.heap[G]? = A.heap[G]?
def rk (w:Ef) (g:Nat):Nat:=
 512*(intOf ((w.cell? ⟨g,0,none⟩).getD En)).toNat+64*(intOf ((w.cell? ⟨g,1,none⟩).getD En)).toNat+8*(intOf ((w.cell? ⟨g,2,none⟩).getD En)).toNat+(intOf ((w.cell? ⟨g,3,none⟩).getD En)).toNat
theorem Jd {w:Ef} {g:Nat} {t:TypeId} {a b c d:Int} (h:ai w g t #[Ey Ew a,Ey Ew b,Ey Ew c,Ey Ew d]):rk w g=512*a.toNat+64*b.toNat+8*c.toNat+d.toNat:=by
 unfold rk;have H:w.cell? ⟨g,0,none⟩=_:=h.c 0 rfl;have E:w.cell? ⟨g,1,none⟩=_:=h.c 1 rfl;have J:w.cell? ⟨g,2,none⟩=_:=h.c 2 rfl;have I:w.cell? ⟨g,3,none⟩=_:=h.c 3 rfl;rw[H,E,J,I]; rfl
theorem Wm (F:Fence) (n:Nat) (H:F.fn 106) (E:F.round=none) (x:Int) (w:Ef) :
  CallsIn F n Ed 106 #[Ey Ew x] w fun e w'=>e = Eh (.func (.func 141) #[] #[Ek (some ⟨w.heap.size,0,none⟩)])/\w'=w.alloc (.cells #[Ey Ew x] 3):=by
 refine callsIn_of_wp Tryz.func106 rfl H ?_ E;simp only[Tryz.ntmps106,List.size_toArray,List.length_cons,List.length_nil,Nat.reduceAdd,Nat.reduceSub,Array.replicate_succ,Array.replicate_zero,List.push_toArray,List.append_toArray,List.nil_append,List.cons_append]
 gi_wp2
 go_ret
 exact⟨rfl,rfl⟩
theorem Je (m Bs G n:Nat) (hn:n<=7) (dl:Bs<G) :
  Vg Fence.wide m Ed 141 #[Ek (some ⟨Bs,0,none⟩)] Kb (KF Bs G) (fun xs=>xs=yr n) (fun pre x=>vY n x=true/\pre.length<36/\pre=(yr n).take pre.length) G (fun A=>ai A Bs 3 #[Ey Ew (n:Nat)]):=by
 intro l J W0 cg hG hC hY h0;obtain⟨N,hN⟩:∃N:Int,(n:Int)=N:=⟨_,rfl⟩;rw[hN]at cg;obtain⟨dt,cn,dk⟩:=KW n hn;have HI:=E7 cn;clear cn;have cy:Fence.wide.round=none:=rfl;have ah:wrap64 (N-4)=N-4:=by unfold wrap64; omega
 obtain⟨n4,d9⟩:∃x,N-4=x:=⟨_,rfl⟩;rw[d9]at ah;have bg:wrap64 (n4+3)=n4+3:=by unfold wrap64; omega
 have br:wrap64 (n4+2)=n4+2:=by unfold wrap64; omega
 have ci:wrap64 (n4+1)=n4+1:=by unfold wrap64; omega
 refine callsIn_of_wp Tryz.func141 rfl trivial ?_ cy;simp only[Tryz.ntmps141,List.size_toArray,List.length_cons,List.length_nil,Nat.reduceAdd,Nat.reduceSub,Array.replicate_succ,Array.replicate_zero,List.push_toArray,List.append_toArray,List.nil_append,List.cons_append]
 gi_wp2
 gi_loopw [4] (fun _ wr=>∃i:Nat,i<=(yr n).length/\J ((yr n).take i) wr/\ai wr G 80 #[Ey Ew ((XR n i).1:Nat),Ey Ew ((XR n i).2.1:Nat),Ey Ew ((XR n i).2.2.1:Nat),Ey Ew ((XR n i).2.2.2:Nat)]/\ai wr Bs 3 #[Ey Ew N])
  (fun _ wr=>10000-rk wr G)
 case atStart=>
  refine⟨0,Nat.zero_le _,?_,?_,?_⟩
  .
   rw[List.take_zero];exact hC.al _ (fun _=>⟨_,_,rfl,rfl⟩) h0
  . subst hG; exact(show ai _ _ _ #[Ey Ew 0,Ey Ew 1,Ey Ew 2,Ey Ew 3] from zC)
  . exact zC
 case round=>
  obtain⟨i,hi,hJ,T,Y⟩:=hrel;have cN:Es wr ⟨Bs,0,none⟩=_:=Y.c 0 rfl;have c3:Es wr ⟨G,3,none⟩=_:=T.c 3 rfl
  rcases Er i (yr n).length with bf | bf
  .
   have g4:=Zo (HI.out i bf).2;have bl:=(HI.out i bf).1;have HT:Hid ((yr n).take (i+1)=(yr n).take i ++ [XR n i]):=E7 (by rw[List.take_add_one,bl]; rfl);have HX:Hid (XR n (i+1)=JP n (XR n i)):=E7 rfl;have bi:((yr n).take i).length<36:=by rw[List.length_take]; omega
   obtain⟨fn,tmps,assign,body,hy,hR⟩:=hY _ (XR n i) wr hJ ⟨(HI.out i bf).2,bi,by rw[List.length_take,Nat.min_eq_left hi]⟩ T.lt;unfold Kb Ka at hy;have cx:decide (((XR n i).2.2.2:Int)<N)=true:=E' D6;have c0:Es wr ⟨G,0,none⟩=_:=T.c 0 rfl;have c1:Es wr ⟨G,1,none⟩=_:=T.c 1 rfl;have c2:Es wr ⟨G,2,none⟩=_:=T.c 2 rfl;obtain⟨a,ha⟩:∃a,(XR n i).1=a:=⟨_,rfl⟩;obtain⟨b,hb⟩:∃a,(XR n i).2.1=a:=⟨_,rfl⟩;obtain⟨c,hc⟩:∃a,(XR n i).2.2.1=a:=⟨_,rfl⟩;obtain⟨d,hd⟩:∃a,(XR n i).2.2.2=a:=⟨_,rfl⟩;rw[ha,hb,hc,hd]at hy T g4;rw[ha]at c0;rw[hb]at c1;rw[hc]at c2;rw[hd]at c3 cx;have bh:Hid (XR n (i+1)=JP n (a,b,c,d)):=E7 (by rw[HX.out,<- ha,<- hb,<- hc,<- hd]);clear ha hb hc hd bl HX bi
   gi_wp2
   refine⟨fun h=>(by cases h),hR.mono ?_⟩;rintro e w0 ⟨rfl,ce,kp⟩;have R0:Hid (rk wr G=512*a+64*b+8*c+d):=E7 (Jd T);have T:=(show ai w0 G _ _ from kp.2.trans T);have Y:=(show ai w0 Bs _ _ from kp.1.trans Y);rw[<- HT.out]at ce;have HJ:=ce;clear hJ ce hR hy kp c0 c1 c2 c3 cN;obtain⟨A,hA⟩:∃x:Int,(a:Int)=x:=⟨_,rfl⟩;obtain⟨B,hB⟩:∃x:Int,(b:Int)=x:=⟨_,rfl⟩;obtain⟨C,cZ⟩:∃x:Int,(c:Int)=x:=⟨_,rfl⟩;obtain⟨D,hD⟩:∃x:Int,(d:Int)=x:=⟨_,rfl⟩;rw[hA,hB,cZ,hD]at T;have hJ:=HJ;clear HJ
   by_cases g3:d+1<n
   .
    have t3:(D==n4+3)=false:=by simpa using (show D≠n4+3 by omega)
    obtain⟨P0,b9⟩:∃x,D+1=x:=⟨_,rfl⟩;have s0:wrap64 (D+1)=P0:=by rw[b9]; unfold wrap64; omega
    gi_wp2_with fail
    refine wpIn_loop_rounds 5 ?_;rw[roundsIn_succ]
    gi_upto_region 4 with fail
    refine wpIn_wide.2 ?_
    refine aj.aJ (fun D v W=>∃m,W=w0.drewN m) (aj.inl []) (aj.gv []) aj.aQ (fun _=>aj.Any) (fun _ _=>False) (aj.pl []) (aj.pl [])
     D7 D7 D7 (aj.dB _) (fun _=>⟨1,rfl⟩) (fun _ _ _ _ _ h=>h) (fun _ _ _ _ _ _ _ _ _ _ _ _ _=>aj.none_) (fun _ _ _ _ h=>h.elim) (fun X Q' E Z=> ?_)
    repeat refine aj.aG _ ?_
    refine aj.bG E 18 ?_;refine aj.bG E 19 ?_;apply aj.RP rfl rfl (by rw[E]; rfl) 20 rfl rfl
    .
     intro D v W hc I M K' H;obtain⟨m,rfl⟩:=I;have c0:Es _ ⟨G,3,none⟩=_:=(T.drewN m).c 3 rfl;go_step;exact H.out
    . rfl
    apply aj.RP rfl rfl (by rw[E]; rfl) 21 rfl rfl
    .
     intro D v W hc I M K' H;obtain⟨m,rfl⟩:=I;have c0:Es _ ⟨Bs,0,none⟩=_:=(Y.drewN m).c 0 rfl;go_step;exact H.out
    . rfl
    apply aj.RP rfl rfl (by rw[E]; rfl) 22 rfl rfl
    .
     intro D v W hc I M K' H;go_step
     try rw[ah]
     exact H.out
    . rfl
    refine aj.bG E 23 ?_;apply aj.RP rfl rfl (by rw[E]; rfl) 24 rfl rfl
    .
     intro D v W hc I M K' H;go_step
     try rw[bg]
     exact H.out
    . rfl
    apply aj.RP rfl rfl (by rw[E]; rfl) 25 rfl rfl
    .
     intro D v W hc I M K' H;go_step
     try rw[t3]
     exact H.out
    . rfl
    refine aj.aG 26 ?_;refine aj.aE (fun D v w9 hd I M=> ?_);obtain⟨m,rfl⟩:=I;clear hd M;refine Z _ _ ?_;clear Z E Q' X;have T:=T.drewN m;have Y:=Y.drewN m;have hJ:=hC.dr m hJ;generalize hw_:w0.drewN m=w1 at *;clear hw_;have c0:Es w1 ⟨G,0,none⟩=_:=T.c 0 rfl;have c1:Es w1 ⟨G,1,none⟩=_:=T.c 1 rfl;have c2:Es w1 ⟨G,2,none⟩=_:=T.c 2 rfl;have c3:Es w1 ⟨G,3,none⟩=_:=T.c 3 rfl;have fG:=T.fr;have lG:=T.lt
    gi_wp2_with fail
    refine wpIn_loop_rounds 5 ?_;rw[roundsIn_succ]
    gi_wp2
    go_roundw
    case rel=>
     refine⟨i+1,by omega,(hC.st _ _ hJ),?_,zC⟩;rw[bh.out];unfold JP;dsimp only;rw[E9 g3];dsimp only;rw[show ((a:Nat):Int)=A by omega];rw[show ((b:Nat):Int)=B by omega];rw[show ((c:Nat):Int)=C by omega];rw[show ((d+1:Nat):Int)=P0 by omega];exact Zq
    case measure=>
     have R1:rk (w1.setCell ⟨G,3,none⟩ (Ey Ew P0)) G=_:=Jd (t:=80) (a:=A) (b:=B) (c:=C) (d:=P0) Zq;have R2:=R0.out;omega
   by_cases g2:c+2<n
   .
    have t3:(D==n4+3)=true:=by simpa using (show D=n4+3 by omega)
    have t2:(C==n4+2)=false:=by simpa using (show C≠n4+2 by omega)
    obtain⟨P0,b9⟩:∃x,C+1=x:=⟨_,rfl⟩;have s0:wrap64 (C+1)=P0:=by rw[b9]; unfold wrap64; omega
    obtain⟨P1,be⟩:∃x,P0+1=x:=⟨_,rfl⟩;have s1:wrap64 (P0+1)=P1:=by rw[be]; unfold wrap64; omega
    gi_wp2_with fail
    refine wpIn_loop_rounds 5 ?_;rw[roundsIn_succ]
    gi_upto_region 4 with fail
    refine wpIn_wide.2 ?_
    refine aj.aJ (fun D v W=>∃m,W=w0.drewN m) (aj.inl []) (aj.gv []) aj.aQ (fun _=>aj.Any) (fun _ _=>False) (aj.pl []) (aj.pl [])
     D7 D7 D7 (aj.dB _) (fun _=>⟨1,rfl⟩) (fun _ _ _ _ _ h=>h) (fun _ _ _ _ _ _ _ _ _ _ _ _ _=>aj.none_) (fun _ _ _ _ h=>h.elim) (fun X Q' E Z=> ?_)
    repeat refine aj.aG _ ?_
    refine aj.bG E 18 ?_;refine aj.bG E 19 ?_;apply aj.RP rfl rfl (by rw[E]; rfl) 20 rfl rfl
    .
     intro D v W hc I M K' H;obtain⟨m,rfl⟩:=I;have c0:Es _ ⟨G,3,none⟩=_:=(T.drewN m).c 3 rfl;go_step;exact H.out
    . rfl
    apply aj.RP rfl rfl (by rw[E]; rfl) 21 rfl rfl
    .
     intro D v W hc I M K' H;obtain⟨m,rfl⟩:=I;have c0:Es _ ⟨Bs,0,none⟩=_:=(Y.drewN m).c 0 rfl;go_step;exact H.out
    . rfl
    apply aj.RP rfl rfl (by rw[E]; rfl) 22 rfl rfl
    .
     intro D v W hc I M K' H;go_step
     try rw[ah]
     exact H.out
    . rfl
    refine aj.bG E 23 ?_;apply aj.RP rfl rfl (by rw[E]; rfl) 24 rfl rfl
    .
     intro D v W hc I M K' H;go_step
     try rw[bg]
     exact H.out
    . rfl
    apply aj.RP rfl rfl (by rw[E]; rfl) 25 rfl rfl
    .
     intro D v W hc I M K' H;go_step
     try rw[t3]
     exact H.out
    . rfl
    refine aj.aG 26 ?_;refine aj.aE (fun D v w9 hd I M=> ?_);obtain⟨m,rfl⟩:=I;clear hd M;refine Z _ _ ?_;clear Z E Q' X;have T:=T.drewN m;have Y:=Y.drewN m;have hJ:=hC.dr m hJ;generalize hw_:w0.drewN m=w1 at *;clear hw_
    gi_wp2_with fail
    rw[roundsIn_succ]
    gi_upto_region 4 with fail
    refine wpIn_wide.2 ?_
    refine aj.aJ (fun D v W=>∃m,W=w1.drewN m) (aj.inl []) (aj.gv []) aj.aQ (fun _=>aj.Any) (fun _ _=>False) (aj.pl []) (aj.pl [])
     D7 D7 D7 (aj.dB _) (fun _=>⟨1,rfl⟩) (fun _ _ _ _ _ h=>h) (fun _ _ _ _ _ _ _ _ _ _ _ _ _=>aj.none_) (fun _ _ _ _ h=>h.elim) (fun X Q' E Z=> ?_)
    repeat refine aj.aG _ ?_
    refine aj.bG E 18 ?_;refine aj.bG E 19 ?_;apply aj.RP rfl rfl (by rw[E]; rfl) 20 rfl rfl
    .
     intro D v W hc I M K' H;obtain⟨m,rfl⟩:=I;have c0:Es _ ⟨G,2,none⟩=_:=(T.drewN m).c 2 rfl;go_step;exact H.out
    . rfl
    apply aj.RP rfl rfl (by rw[E]; rfl) 21 rfl rfl
    .
     intro D v W hc I M K' H;obtain⟨m,rfl⟩:=I;have c0:Es _ ⟨Bs,0,none⟩=_:=(Y.drewN m).c 0 rfl;go_step;exact H.out
    . rfl
    apply aj.RP rfl rfl (by rw[E]; rfl) 22 rfl rfl
    .
     intro D v W hc I M K' H;go_step
     try rw[ah]
     exact H.out
    . rfl
    refine aj.bG E 23 ?_;apply aj.RP rfl rfl (by rw[E]; rfl) 24 rfl rfl
    .
     intro D v W hc I M K' H;go_step
     try rw[br]
     exact H.out
    . rfl
    apply aj.RP rfl rfl (by rw[E]; rfl) 25 rfl rfl
    .
     intro D v W hc I M K' H;go_step
     try rw[t2]
     exact H.out
    . rfl
    refine aj.aG 26 ?_;refine aj.aE (fun D v w9 hd I M=> ?_);obtain⟨m,rfl⟩:=I;clear hd M;refine Z _ _ ?_;clear Z E Q' X;have T:=T.drewN m;have Y:=Y.drewN m;have hJ:=hC.dr m hJ;generalize hw_:w1.drewN m=w2 at *;clear hw_;have c0:Es w2 ⟨G,0,none⟩=_:=T.c 0 rfl;have c1:Es w2 ⟨G,1,none⟩=_:=T.c 1 rfl;have c2:Es w2 ⟨G,2,none⟩=_:=T.c 2 rfl;have c3:Es w2 ⟨G,3,none⟩=_:=T.c 3 rfl;have fG:=T.fr;have lG:=T.lt
    gi_wp2_with fail
    refine wpIn_loop_rounds 5 ?_;rw[roundsIn_succ]
    gi_wp2_with fail
    rw[roundsIn_succ]
    gi_wp2
    go_roundw
    case rel=>
     refine⟨i+1,by omega,(hC.st _ _ (hC.st _ _ hJ)),?_,zC⟩;rw[bh.out];unfold JP;dsimp only;rw[E_ g3,E9 g2];dsimp only;rw[show ((a:Nat):Int)=A by omega];rw[show ((b:Nat):Int)=B by omega];rw[show ((c+1:Nat):Int)=P0 by omega];rw[show ((c+2:Nat):Int)=P1 by omega];exact Zq
    case measure=>
     have R1:rk ((w2.setCell ⟨G,2,none⟩ (Ey Ew P0)).setCell ⟨G,3,none⟩ (Ey Ew P1)) G=_:=Jd (t:=80) (a:=A) (b:=B) (c:=P0) (d:=P1) Zq;have R2:=R0.out;omega
   by_cases g1:b+3<n
   .
    have t3:(D==n4+3)=true:=by simpa using (show D=n4+3 by omega)
    have t2:(C==n4+2)=true:=by simpa using (show C=n4+2 by omega)
    have t1:(B==n4+1)=false:=by simpa using (show B≠n4+1 by omega)
    obtain⟨P0,b9⟩:∃x,B+1=x:=⟨_,rfl⟩;have s0:wrap64 (B+1)=P0:=by rw[b9]; unfold wrap64; omega
    obtain⟨P1,be⟩:∃x,P0+1=x:=⟨_,rfl⟩;have s1:wrap64 (P0+1)=P1:=by rw[be]; unfold wrap64; omega
    obtain⟨P2,bt⟩:∃x,P1+1=x:=⟨_,rfl⟩;have s2:wrap64 (P1+1)=P2:=by rw[bt]; unfold wrap64; omega
    gi_wp2_with fail
    refine wpIn_loop_rounds 5 ?_;rw[roundsIn_succ]
    gi_upto_region 4 with fail
    refine wpIn_wide.2 ?_
    refine aj.aJ (fun D v W=>∃m,W=w0.drewN m) (aj.inl []) (aj.gv []) aj.aQ (fun _=>aj.Any) (fun _ _=>False) (aj.pl []) (aj.pl [])
     D7 D7 D7 (aj.dB _) (fun _=>⟨1,rfl⟩) (fun _ _ _ _ _ h=>h) (fun _ _ _ _ _ _ _ _ _ _ _ _ _=>aj.none_) (fun _ _ _ _ h=>h.elim) (fun X Q' E Z=> ?_)
    repeat refine aj.aG _ ?_
    refine aj.bG E 18 ?_;refine aj.bG E 19 ?_;apply aj.RP rfl rfl (by rw[E]; rfl) 20 rfl rfl
    .
     intro D v W hc I M K' H;obtain⟨m,rfl⟩:=I;have c0:Es _ ⟨G,3,none⟩=_:=(T.drewN m).c 3 rfl;go_step;exact H.out
    . rfl
    apply aj.RP rfl rfl (by rw[E]; rfl) 21 rfl rfl
    .
     intro D v W hc I M K' H;obtain⟨m,rfl⟩:=I;have c0:Es _ ⟨Bs,0,none⟩=_:=(Y.drewN m).c 0 rfl;go_step;exact H.out
    . rfl
    apply aj.RP rfl rfl (by rw[E]; rfl) 22 rfl rfl
    .
     intro D v W hc I M K' H;go_step
     try rw[ah]
     exact H.out
    . rfl
    refine aj.bG E 23 ?_;apply aj.RP rfl rfl (by rw[E]; rfl) 24 rfl rfl
    .
     intro D v W hc I M K' H;go_step
     try rw[bg]
     exact H.out
    . rfl
    apply aj.RP rfl rfl (by rw[E]; rfl) 25 rfl rfl
    .
     intro D v W hc I M K' H;go_step
     try rw[t3]
     exact H.out
    . rfl
    refine aj.aG 26 ?_;refine aj.aE (fun D v w9 hd I M=> ?_);obtain⟨m,rfl⟩:=I;clear hd M;refine Z _ _ ?_;clear Z E Q' X;have T:=T.drewN m;have Y:=Y.drewN m;have hJ:=hC.dr m hJ;generalize hw_:w0.drewN m=w1 at *;clear hw_
    gi_wp2_with fail
    rw[roundsIn_succ]
    gi_upto_region 4 with fail
    refine wpIn_wide.2 ?_
    refine aj.aJ (fun D v W=>∃m,W=w1.drewN m) (aj.inl []) (aj.gv []) aj.aQ (fun _=>aj.Any) (fun _ _=>False) (aj.pl []) (aj.pl [])
     D7 D7 D7 (aj.dB _) (fun _=>⟨1,rfl⟩) (fun _ _ _ _ _ h=>h) (fun _ _ _ _ _ _ _ _ _ _ _ _ _=>aj.none_) (fun _ _ _ _ h=>h.elim) (fun X Q' E Z=> ?_)
    repeat refine aj.aG _ ?_
    refine aj.bG E 18 ?_;refine aj.bG E 19 ?_;apply aj.RP rfl rfl (by rw[E]; rfl) 20 rfl rfl
    .
     intro D v W hc I M K' H;obtain⟨m,rfl⟩:=I;have c0:Es _ ⟨G,2,none⟩=_:=(T.drewN m).c 2 rfl;go_step;exact H.out
    . rfl
    apply aj.RP rfl rfl (by rw[E]; rfl) 21 rfl rfl
    .
     intro D v W hc I M K' H;obtain⟨m,rfl⟩:=I;have c0:Es _ ⟨Bs,0,none⟩=_:=(Y.drewN m).c 0 rfl;go_step;exact H.out
    . rfl
    apply aj.RP rfl rfl (by rw[E]; rfl) 22 rfl rfl
    .
     intro D v W hc I M K' H;go_step
     try rw[ah]
     exact H.out
    . rfl
    refine aj.bG E 23 ?_;apply aj.RP rfl rfl (by rw[E]; rfl) 24 rfl rfl
    .
     intro D v W hc I M K' H;go_step
     try rw[br]
     exact H.out
    . rfl
    apply aj.RP rfl rfl (by rw[E]; rfl) 25 rfl rfl
    .
     intro D v W hc I M K' H;go_step
     try rw[t2]
     exact H.out
    . rfl
    refine aj.aG 26 ?_;refine aj.aE (fun D v w9 hd I M=> ?_);obtain⟨m,rfl⟩:=I;clear hd M;refine Z _ _ ?_;clear Z E Q' X;have T:=T.drewN m;have Y:=Y.drewN m;have hJ:=hC.dr m hJ;generalize hw_:w1.drewN m=w2 at *;clear hw_
    gi_wp2_with fail
    rw[roundsIn_succ]
    gi_upto_region 4 with fail
    refine wpIn_wide.2 ?_
    refine aj.aJ (fun D v W=>∃m,W=w2.drewN m) (aj.inl []) (aj.gv []) aj.aQ (fun _=>aj.Any) (fun _ _=>False) (aj.pl []) (aj.pl [])
     D7 D7 D7 (aj.dB _) (fun _=>⟨1,rfl⟩) (fun _ _ _ _ _ h=>h) (fun _ _ _ _ _ _ _ _ _ _ _ _ _=>aj.none_) (fun _ _ _ _ h=>h.elim) (fun X Q' E Z=> ?_)
    repeat refine aj.aG _ ?_
    refine aj.bG E 18 ?_;refine aj.bG E 19 ?_;apply aj.RP rfl rfl (by rw[E]; rfl) 20 rfl rfl
    .
     intro D v W hc I M K' H;obtain⟨m,rfl⟩:=I;have c0:Es _ ⟨G,1,none⟩=_:=(T.drewN m).c 1 rfl;go_step;exact H.out
    . rfl
    apply aj.RP rfl rfl (by rw[E]; rfl) 21 rfl rfl
    .
     intro D v W hc I M K' H;obtain⟨m,rfl⟩:=I;have c0:Es _ ⟨Bs,0,none⟩=_:=(Y.drewN m).c 0 rfl;go_step;exact H.out
    . rfl
    apply aj.RP rfl rfl (by rw[E]; rfl) 22 rfl rfl
    .
     intro D v W hc I M K' H;go_step
     try rw[ah]
     exact H.out
    . rfl
    refine aj.bG E 23 ?_;apply aj.RP rfl rfl (by rw[E]; rfl) 24 rfl rfl
    .
     intro D v W hc I M K' H;go_step
     try rw[ci]
     exact H.out
    . rfl
    apply aj.RP rfl rfl (by rw[E]; rfl) 25 rfl rfl
    .
     intro D v W hc I M K' H;go_step
     try rw[t1]
     exact H.out
    . rfl
    refine aj.aG 26 ?_;refine aj.aE (fun D v w9 hd I M=> ?_);obtain⟨m,rfl⟩:=I;clear hd M;refine Z _ _ ?_;clear Z E Q' X;have T:=T.drewN m;have Y:=Y.drewN m;have hJ:=hC.dr m hJ;generalize hw_:w2.drewN m=w3 at *;clear hw_;have c0:Es w3 ⟨G,0,none⟩=_:=T.c 0 rfl;have c1:Es w3 ⟨G,1,none⟩=_:=T.c 1 rfl;have c2:Es w3 ⟨G,2,none⟩=_:=T.c 2 rfl;have c3:Es w3 ⟨G,3,none⟩=_:=T.c 3 rfl;have fG:=T.fr;have lG:=T.lt
    gi_wp2_with fail
    refine wpIn_loop_rounds 5 ?_;rw[roundsIn_succ]
    gi_wp2_with fail
    rw[roundsIn_succ]
    gi_wp2_with fail
    rw[roundsIn_succ]
    gi_wp2
    go_roundw
    case rel=>
     refine⟨i+1,by omega,(hC.st _ _ (hC.st _ _ (hC.st _ _ hJ))),?_,zC⟩;rw[bh.out];unfold JP;dsimp only;rw[E_ g3,E_ g2,E9 g1];dsimp only;rw[show ((a:Nat):Int)=A by omega];rw[show ((b+1:Nat):Int)=P0 by omega];rw[show ((b+2:Nat):Int)=P1 by omega];rw[show ((b+3:Nat):Int)=P2 by omega];exact Zq
    case measure=>
     have R1:rk (((w3.setCell ⟨G,1,none⟩ (Ey Ew P0)).setCell ⟨G,2,none⟩ (Ey Ew P1)).setCell ⟨G,3,none⟩ (Ey Ew P2)) G=_:=Jd (t:=80) (a:=A) (b:=P0) (c:=P1) (d:=P2) Zq;have R2:=R0.out;omega
   have t3:(D==n4+3)=true:=by simpa using (show D=n4+3 by omega)
   have t2:(C==n4+2)=true:=by simpa using (show C=n4+2 by omega)
   have t1:(B==n4+1)=true:=by simpa using (show B=n4+1 by omega)
   obtain⟨P0,b9⟩:∃x,A+1=x:=⟨_,rfl⟩;have s0:wrap64 (A+1)=P0:=by rw[b9]; unfold wrap64; omega
   obtain⟨P1,be⟩:∃x,P0+1=x:=⟨_,rfl⟩;have s1:wrap64 (P0+1)=P1:=by rw[be]; unfold wrap64; omega
   obtain⟨P2,bt⟩:∃x,P1+1=x:=⟨_,rfl⟩;have s2:wrap64 (P1+1)=P2:=by rw[bt]; unfold wrap64; omega
   obtain⟨P3,dc⟩:∃x,P2+1=x:=⟨_,rfl⟩;have s3:wrap64 (P2+1)=P3:=by rw[dc]; unfold wrap64; omega
   gi_wp2_with fail
   refine wpIn_loop_rounds 5 ?_;rw[roundsIn_succ]
   gi_upto_region 4 with fail
   refine wpIn_wide.2 ?_
   refine aj.aJ (fun D v W=>∃m,W=w0.drewN m) (aj.inl []) (aj.gv []) aj.aQ (fun _=>aj.Any) (fun _ _=>False) (aj.pl []) (aj.pl [])
    D7 D7 D7 (aj.dB _) (fun _=>⟨1,rfl⟩) (fun _ _ _ _ _ h=>h) (fun _ _ _ _ _ _ _ _ _ _ _ _ _=>aj.none_) (fun _ _ _ _ h=>h.elim) (fun X Q' E Z=> ?_)
   repeat refine aj.aG _ ?_
   refine aj.bG E 18 ?_;refine aj.bG E 19 ?_;apply aj.RP rfl rfl (by rw[E]; rfl) 20 rfl rfl
   .
    intro D v W hc I M K' H;obtain⟨m,rfl⟩:=I;have c0:Es _ ⟨G,3,none⟩=_:=(T.drewN m).c 3 rfl;go_step;exact H.out
   . rfl
   apply aj.RP rfl rfl (by rw[E]; rfl) 21 rfl rfl
   .
    intro D v W hc I M K' H;obtain⟨m,rfl⟩:=I;have c0:Es _ ⟨Bs,0,none⟩=_:=(Y.drewN m).c 0 rfl;go_step;exact H.out
   . rfl
   apply aj.RP rfl rfl (by rw[E]; rfl) 22 rfl rfl
   .
    intro D v W hc I M K' H;go_step
    try rw[ah]
    exact H.out
   . rfl
   refine aj.bG E 23 ?_;apply aj.RP rfl rfl (by rw[E]; rfl) 24 rfl rfl
   .
    intro D v W hc I M K' H;go_step
    try rw[bg]
    exact H.out
   . rfl
   apply aj.RP rfl rfl (by rw[E]; rfl) 25 rfl rfl
   .
    intro D v W hc I M K' H;go_step
    try rw[t3]
    exact H.out
   . rfl
   refine aj.aG 26 ?_;refine aj.aE (fun D v w9 hd I M=> ?_);obtain⟨m,rfl⟩:=I;clear hd M;refine Z _ _ ?_;clear Z E Q' X;have T:=T.drewN m;have Y:=Y.drewN m;have hJ:=hC.dr m hJ;generalize hw_:w0.drewN m=w1 at *;clear hw_
   gi_wp2_with fail
   rw[roundsIn_succ]
   gi_upto_region 4 with fail
   refine wpIn_wide.2 ?_
   refine aj.aJ (fun D v W=>∃m,W=w1.drewN m) (aj.inl []) (aj.gv []) aj.aQ (fun _=>aj.Any) (fun _ _=>False) (aj.pl []) (aj.pl [])
    D7 D7 D7 (aj.dB _) (fun _=>⟨1,rfl⟩) (fun _ _ _ _ _ h=>h) (fun _ _ _ _ _ _ _ _ _ _ _ _ _=>aj.none_) (fun _ _ _ _ h=>h.elim) (fun X Q' E Z=> ?_)
   repeat refine aj.aG _ ?_
   refine aj.bG E 18 ?_;refine aj.bG E 19 ?_;apply aj.RP rfl rfl (by rw[E]; rfl) 20 rfl rfl
   .
    intro D v W hc I M K' H;obtain⟨m,rfl⟩:=I;have c0:Es _ ⟨G,2,none⟩=_:=(T.drewN m).c 2 rfl;go_step;exact H.out
   . rfl
   apply aj.RP rfl rfl (by rw[E]; rfl) 21 rfl rfl
   .
    intro D v W hc I M K' H;obtain⟨m,rfl⟩:=I;have c0:Es _ ⟨Bs,0,none⟩=_:=(Y.drewN m).c 0 rfl;go_step;exact H.out
   . rfl
   apply aj.RP rfl rfl (by rw[E]; rfl) 22 rfl rfl
   .
    intro D v W hc I M K' H;go_step
    try rw[ah]
    exact H.out
   . rfl
   refine aj.bG E 23 ?_;apply aj.RP rfl rfl (by rw[E]; rfl) 24 rfl rfl
   .
    intro D v W hc I M K' H;go_step
    try rw[br]
    exact H.out
   . rfl
   apply aj.RP rfl rfl (by rw[E]; rfl) 25 rfl rfl
   .
    intro D v W hc I M K' H;go_step
    try rw[t2]
    exact H.out
   . rfl
   refine aj.aG 26 ?_;refine aj.aE (fun D v w9 hd I M=> ?_);obtain⟨m,rfl⟩:=I;clear hd M;refine Z _ _ ?_;clear Z E Q' X;have T:=T.drewN m;have Y:=Y.drewN m;have hJ:=hC.dr m hJ;generalize hw_:w1.drewN m=w2 at *;clear hw_
   gi_wp2_with fail
   rw[roundsIn_succ]
   gi_upto_region 4 with fail
   refine wpIn_wide.2 ?_
   refine aj.aJ (fun D v W=>∃m,W=w2.drewN m) (aj.inl []) (aj.gv []) aj.aQ (fun _=>aj.Any) (fun _ _=>False) (aj.pl []) (aj.pl [])
    D7 D7 D7 (aj.dB _) (fun _=>⟨1,rfl⟩) (fun _ _ _ _ _ h=>h) (fun _ _ _ _ _ _ _ _ _ _ _ _ _=>aj.none_) (fun _ _ _ _ h=>h.elim) (fun X Q' E Z=> ?_)
   repeat refine aj.aG _ ?_
   refine aj.bG E 18 ?_;refine aj.bG E 19 ?_;apply aj.RP rfl rfl (by rw[E]; rfl) 20 rfl rfl
   .
    intro D v W hc I M K' H;obtain⟨m,rfl⟩:=I;have c0:Es _ ⟨G,1,none⟩=_:=(T.drewN m).c 1 rfl;go_step;exact H.out
   . rfl
   apply aj.RP rfl rfl (by rw[E]; rfl) 21 rfl rfl
   .
    intro D v W hc I M K' H;obtain⟨m,rfl⟩:=I;have c0:Es _ ⟨Bs,0,none⟩=_:=(Y.drewN m).c 0 rfl;go_step;exact H.out
   . rfl
   apply aj.RP rfl rfl (by rw[E]; rfl) 22 rfl rfl
   .
    intro D v W hc I M K' H;go_step
    try rw[ah]
    exact H.out
   . rfl
   refine aj.bG E 23 ?_;apply aj.RP rfl rfl (by rw[E]; rfl) 24 rfl rfl
   .
    intro D v W hc I M K' H;go_step
    try rw[ci]
    exact H.out
   . rfl
   apply aj.RP rfl rfl (by rw[E]; rfl) 25 rfl rfl
   .
    intro D v W hc I M K' H;go_step
    try rw[t1]
    exact H.out
   . rfl
   refine aj.aG 26 ?_;refine aj.aE (fun D v w9 hd I M=> ?_);obtain⟨m,rfl⟩:=I;clear hd M;refine Z _ _ ?_;clear Z E Q' X;have T:=T.drewN m;have Y:=Y.drewN m;have hJ:=hC.dr m hJ;generalize hw_:w2.drewN m=w3 at *;clear hw_
   gi_wp2_with fail
   rw[roundsIn_succ]
   gi_upto_region 4 with fail
   refine wpIn_wide.2 ?_
   refine aj.aJ (fun D v W=>∃m,W=w3.drewN m) (aj.inl []) (aj.gv []) aj.aQ (fun _=>aj.Any) (fun _ _=>False) (aj.pl []) (aj.pl [])
    D7 D7 D7 (aj.dB _) (fun _=>⟨1,rfl⟩) (fun _ _ _ _ _ h=>h) (fun _ _ _ _ _ _ _ _ _ _ _ _ _=>aj.none_) (fun _ _ _ _ h=>h.elim) (fun X Q' E Z=> ?_)
   repeat (first | refine aj.bG E _ ?_ | (refine aj.sk E ?_; refine aj.aB (b:=⟨#[_,_,_,_,_,_,_,_,_,_,_,_,_,_,_,_,_,_,_,_,_,_,_,_,_,_,_,_,_,_,_,_,_,_,_,_,_,_,_,_,_,_,_,_,_,_,_],_⟩) rfl ?_))
   refine aj.aE (fun D v w9 hd I M=> ?_);obtain⟨m,rfl⟩:=I;clear hd M;refine Z _ _ ?_;clear Z E Q' X;have T:=T.drewN m;have Y:=Y.drewN m;have hJ:=hC.dr m hJ;generalize hw_:w3.drewN m=w4 at *;clear hw_;have c0:Es w4 ⟨G,0,none⟩=_:=T.c 0 rfl;have c1:Es w4 ⟨G,1,none⟩=_:=T.c 1 rfl;have c2:Es w4 ⟨G,2,none⟩=_:=T.c 2 rfl;have c3:Es w4 ⟨G,3,none⟩=_:=T.c 3 rfl;have fG:=T.fr;have lG:=T.lt
   gi_wp2_with fail
   refine wpIn_loop_rounds 5 ?_;rw[roundsIn_succ]
   gi_wp2_with fail
   rw[roundsIn_succ]
   gi_wp2_with fail
   rw[roundsIn_succ]
   gi_wp2_with fail
   rw[roundsIn_succ]
   gi_wp2
   go_roundw
   case rel=>
    refine⟨i+1,by omega,(hC.st _ _ (hC.st _ _ (hC.st _ _ (hC.st _ _ hJ)))),?_,zC⟩;rw[bh.out];unfold JP;dsimp only;rw[E_ g3,E_ g2,E_ g1];dsimp only;rw[show ((a+1:Nat):Int)=P0 by omega];rw[show ((a+2:Nat):Int)=P1 by omega];rw[show ((a+3:Nat):Int)=P2 by omega];rw[show ((a+4:Nat):Int)=P3 by omega];exact Zq
   case measure=>
    have R1:rk ((((w4.setCell ⟨G,0,none⟩ (Ey Ew P0)).setCell ⟨G,1,none⟩ (Ey Ew P1)).setCell ⟨G,2,none⟩ (Ey Ew P2)).setCell ⟨G,3,none⟩ (Ey Ew P3)) G=_:=Jd (t:=80) (a:=P0) (b:=P1) (c:=P2) (d:=P3) Zq;have R2:=R0.out;omega
  .
   obtain rfl:i=(yr n).length:=D6
   have cx:decide (((XR n (yr n).length).2.2.2:Int)<N)=false:=Ea D6
   gi_wp2
   go_end0
   exact⟨⟨_,rfl⟩,_,rfl,by rw[List.take_length]at hJ; exact hJ⟩
end
section
open Go.RowKit Go.Shelf
variable {cs:Array Ei} {qa:List aU} {Bs G a9 g i:Nat} {l:PL} {t:TypeId} {ow v:Ei} {A B C W W' w w':Ef}
theorem Jf {P:Program} (E:Array TypeId) (t:TypeId) (x y:Int) (w:Ef):(Builtin.min_ E t #[Ey Ew x,Ey Ew y]).run P w = .ok (Ey Ew (min x y)) w:=by
 have e:min x y=if y<x then y else x:=by split<;>omega
 rw[e]
 by_cases h1:y<x<;>simp[Builtin.min_,Builtin.min2,go_sem,h1]
attribute [local go_sem] Oper.semAt_some
attribute [local go_sem high] Jf
def cG (w:Ef) (l:PL) (most:Int) (e:Ending) (w':Ef):Prop:=∃u,e = Eh (.tuple #[u,Ey Ew (zO l most).1])/\dJ w' u (zO l most).2/\zf w w'
theorem cG.none {most c:Int} (h:zO l most=(c,[])) (st:zf w w'):cG w l most (Eh (.tuple #[Ex none 0 0,Ey Ew c])) w':=
 ⟨_,by rw[h],by rw[h]; exact dJ.nil w',st⟩
theorem Wn (most:Int) (w:Ef) (hv:bT w v l) (hl:l.length<=1000) (h:zP l≠0\/most<0\/12<most) :
  Ee Ed 71 #[v,Ey Ew most] w (cG w l most):=by
 have ck:∀w',zf w w'->Ee Ed 37 #[v] w' fun e w2=>e = Eh (Ey Ew (zP l))/\zf w' w2:=fun w' hs=>qX w' (hv.ae hs) hl;obtain⟨ao,cap,rfl⟩:=hv.ak;have E:zP l≠0->Hid (zO l most=(zP l,[])):=fun h=>E7 (by unfold zO; rw[E9 h]);have I:zP l=0->Hid (zO l most=(2,[])):=fun h0=>E7 (by unfold zO; rw[E_ (by rw[h0]; simp),E9 (h.resolve_left (by rw[h0]; simp))]);have J:zP l=0->most<0\/12<most:=fun h0=>h.resolve_left (by rw[h0]; simp);generalize l.length=n at *;obtain⟨c,M⟩:∃c,zP l=c:=⟨_,rfl⟩;rw[M]at ck E I J;clear hv M h
 go_enter Tryz.func71,Tryz.ntmps71
 go_wp2_with fail
 refine(ck _ zh).mono ?_;rintro e w1 ⟨rfl,H⟩;have B:Below w.heap.size w w1:=yI H;have N:ai w1 (w.heap.size+1) 76 #[Ex none 0 0]:=ai.au H;have T:ai w1 (w.heap.size+1+1) 32 #[Ey Ew 0]:=ai.au H;clear H ck;have c4:=N.c 0 rfl;have X:=T.c 0 rfl;have f4:=N.fr;have Z:=T.fr;have l4:=N.lt;have Y:=T.lt
 by_cases hc:c=0
 .
  have h2:=I hc;replace J:=J hc;clear E I;subst hc
  by_cases g1:most<0
  .
   go_wp2_with fail
   refine bodyPost_ret (by simp[results,Tryz.results71,go_sem,c4,X,f4,Z,l4,Y]; rfl) rfl ?_;exact cG.none h2.out zh
  .
   have g2:12<most:=J.resolve_left g1;go_wp2_with fail
   refine bodyPost_ret (by simp[results,Tryz.results71,go_sem,c4,X,f4,Z,l4,Y]; rfl) rfl ?_;exact cG.none h2.out zh
 .
  have h1:=E hc;have ah:(c==0)=false:=by simpa using hc
  clear E I J;go_wp2_with fail
  refine bodyPost_ret (by simp[results,Tryz.results71,go_sem,c4,X,f4,Z,l4,Y]; rfl) rfl ?_;exact cG.none h1.out zh
theorem KF.trans (h:KF Bs G A B) (k:KF Bs G B C):KF Bs G A C:=⟨k.1.trans h.1,k.2.trans h.2⟩
def NA (W:Ef) (G:Nat):Prop:=W.heap.size<=G\/∃t cs,ai W G t cs/\zV cs=true
structure AK (Bs G:Nat) (W W':Ef):Prop where
 others:KeepsOthers W W'
 kf:KF Bs G W W'
theorem AK.trans (h:AK Bs G A B) (k:AK Bs G B C):AK Bs G A C:=⟨h.others.trans k.others,KF.trans h.kf k.kf⟩
theorem AK.ae (h:zf W W') (h0:Bs<W.heap.size) (H:G<W.heap.size):AK Bs G W W':=
 ⟨⟨h.size,fun k o E _=>(h.block k (Array.getElem?_eq_some_iff.1 E).1).trans E⟩,h.block _ h0,h.block _ H⟩
theorem AK.alloc (o:Obj) (h0:Bs<W.heap.size) (E:G<W.heap.size):AK Bs G W (W.alloc o):=AK.ae ((Fz _ _).alloc (Ep _) o) h0 E
theorem AK.row {old:Array Ei} (h:bz g t old cs W W') (h0:Bs≠g) (H:G≠g):AK Bs G W W':=by
 refine⟨⟨Nat.le_of_eq h.only.1.symm,fun k o E hc=> ?_⟩,h.only.2 _ h0,h.only.2 _ H⟩;rw[h.only.2 k (fun e=>by subst e; rw[show W.heap[k]? = _ from h.was]at E; cases E; cases hc)]; exact E
theorem bk.cells (h:bk W a9 ow qa):∀g,ow.ownBlock=some g->∃cs t,W.heap[g]? = some (.cells cs t (0,0)):=by
 obtain⟨cs,E,_⟩:=h;intro g hg
 rcases E.own.2 with⟨rfl,_⟩ | ⟨g',cap,cur,rfl,hbg,hh,_⟩
 . cases hg
 . cases hg; exact⟨_,_,hh⟩
theorem bk.bI {b:Nat} (h:bk w a9 ow qa) (hg:w.grownBy w' ow.ownBlock) (E:ai w b t cs) (I:b<a9):ai w' b t cs:=
 (hg.block b E.lt fun H=>by have:=(h.lt b H.symm).1; omega).trans E
theorem bk.below {E:Ef} (h:bk w a9 ow qa) (hg:w.grownBy w' ow.ownBlock) (I:Below E.heap.size E w) (H:E.heap.size<=a9):Below E.heap.size E w':=
 I.grown hg I.size fun k J=>Nat.le_trans H (h.lt k J).1
theorem AK.grow (h:bk W a9 ow qa) (hg:W.grownBy W' ow.ownBlock) (h0:Bs<a9) (M:G<a9) (J:Bs<W.heap.size) (I:G<W.heap.size):AK Bs G W W':=by
 refine⟨KeepsOthers.of_grownBy hg fun j o H E=> ?_,hg.block _ J fun e=> ?_,hg.block _ I fun e=> ?_⟩
 .
  obtain⟨cs,t,e⟩:=h.cells j H;rw[e]at E; cases E; rfl
 . have:=(h.lt _ e.symm).1; omega
 . have:=(h.lt _ e.symm).1; omega
theorem AK.cell (h0:Bs≠g) (E:G≠g):AK Bs G W (W.setCell ⟨g,i,none⟩ v):=
 ⟨KeepsOthers.setCell _ _ _,Below.heap_setCell _ _ _ _ h0,Below.heap_setCell _ _ _ _ E⟩
theorem NA.alloc (h:NA W G) (o:Obj) (H:W.heap.size=G->∃cs t,o = .cells cs t/\zV cs=true):NA (W.alloc o) G:=by
 rcases h with h | ⟨t,cs,h,E⟩
 .
  rcases Er W.heap.size G with g | g
  . exact .inl E6
  .
   have e:W.heap.size=G:=D6
   obtain⟨cs,t,rfl,E⟩:=H e;exact .inr ⟨t,cs,ai.bK e,E⟩
 . exact .inr ⟨t,cs,h.alloc o,E⟩
theorem NA.kept (h:NA W G) (k:W'.heap[G]? = W.heap[G]?):NA W' G:=by
 rcases h with h | ⟨t,cs,h,E⟩
 .
  left
  rw[Array.getElem?_eq_none h]at k;exact Array.getElem?_eq_none_iff.1 k
 . exact .inr ⟨t,cs,k.trans h,E⟩
theorem NA.set {x:Int} (h:NA W G):NA (W.setCell ⟨G,i,none⟩ (Ey Ew x)) G/\av W (W.setCell ⟨G,i,none⟩ (Ey Ew x)):=by
 rcases h with h | ⟨t,cs,h,I⟩
 .
  have H:(W.setCell ⟨G,i,none⟩ (Ey Ew x)).heap.size=W.heap.size:=World.size_setCell ..;refine⟨.inl (by rw[H]; exact h),fun v l X=> ?_⟩;obtain⟨h0,ao,cap,rfl,N,T,J⟩:=X;refine⟨h0,ao,cap,rfl,N,T,fun E=> ?_⟩;obtain⟨b,o,rfl,M,hc⟩:=J E;refine⟨b,o,rfl,by rw[H]; exact M,fun t ht=> ?_⟩;have e:=Below.heap_setCell W ⟨G,i,none⟩ (Ey Ew x) b (show b≠G by omega);have:=hc t ht;unfold Es at this|-;rw[e]; exact this
 . exact⟨.inr ⟨t,_,h.bH i _,qZ I rfl⟩,av.only h I ((bJ.refl _ _).set)⟩
theorem Gz (most:Int) (w:Ef) (hv:bT w v l) (hl:l.length<=1000) (hc:zP l=0) (h0:0<=most) (h1:most<=12) (h7:(min most (l.length:Int)).toNat<=7) :
  Ee Ed 71 #[v,Ey Ew most] w (cG w l most):=by
 have ci:Fence.wide.round=none:=rfl
 have ck:∀w',zf w w'->Ee Ed 37 #[v] w' fun e w2=>e = Eh (Ey Ew 0)/\zf w' w2:=fun w' hs=>by
  have:=qX w' (hv.ae hs) hl
  rwa[hc]at this
 have HS:Hid (zO l most=(0,qs l (yr (min most (l.length:Int)).toNat))):=E7 (by unfold zO; rw[E_ (by rw[hc]; simp),E_ D6]);have HP:=E7 hv;have gr:=E7 hc;obtain⟨ao,cap,rfl⟩:=hv.ak;obtain⟨len,bg⟩:∃n,l.length=n:=⟨_,rfl⟩;have HL:=E7 bg;rw[bg]at HP HS h7 ck|-;obtain⟨n,hn⟩:∃n,(min most (len:Int)).toNat=n:=⟨_,rfl⟩;rw[hn]at HS h7;have gC:min most (len:Int)=(n:Int):=D6
 have gD:n<=len:=D6
 clear hv bg hc hn;have g1:decide (most<0)=false:=Ea D6;have g2:decide (12<most)=false:=Ea D6;refine(callsIn_wide (n:=3)).1 ?_;refine callsIn_of_wp_marks Tryz.func71 rfl trivial ?_ ci;simp only[Tryz.ntmps71,List.size_toArray,List.length_cons,List.length_nil,Nat.reduceAdd,Nat.reduceSub,Array.replicate_succ,Array.replicate_zero,List.push_toArray,List.append_toArray,List.nil_append,List.cons_append]
 gi_wp2_with fail
 refine⟨trivial,?_⟩
 gi_at_call 37
 refine(callsIn_wide (n:=2)).2 ?_;refine(ck _ zh).mono ?_;rintro e E ⟨rfl,be⟩;have B:Below w.heap.size w E:=yI be;have o2:ai E w.heap.size 55 #[Ex ao len cap]:=ai.au be;have o4:ai E (w.heap.size+1) 76 #[Ex none 0 0]:=ai.au be;have o5:ai E (w.heap.size+1+1) 32 #[Ey Ew 0]:=ai.au be;clear be ck;have c2:Es E ⟨w.heap.size,0,none⟩=_:=o2.c 0 rfl;have l2:=o2.lt;have f2:=o2.fr
 gi_wp2_with (refine⟨trivial,?_⟩; gi_at_call 106; refine(Wm Fence.wide 2 trivial ci _ _).mono ?_; rintro e w' ⟨rfl,rfl⟩)
 obtain⟨W0,N⟩:∃W0,(E.alloc (.cells #[Ex none 0 0] 76)).alloc (.cells #[Ey Ew (n:Nat)] 3)=W0:=⟨_,rfl⟩;rw[N];have zB:=B.size;have b2:ai W0 w.heap.size 55 #[Ex ao len cap]:=by rw[<- N]; exact zC
 have b4:ai W0 (w.heap.size+1) 76 #[Ex none 0 0]:=by rw[<- N]; exact zC
 have b5:ai W0 (w.heap.size+1+1) 32 #[Ey Ew 0]:=by rw[<- N]; exact zC
 have b7:ai W0 E.heap.size 76 #[Ex none 0 0]:=by rw[<- N]; exact zC
 have bn:ai W0 (E.heap.size+1) 3 #[Ey Ew (n:Nat)]:=by rw[<- N]; exact ai.bK D9
 have gj:Below w.heap.size w W0:=by rw[<- N]; exact zh
 have gI:W0.heap.size=E.heap.size+2:=by rw[<- N]; simp
 have l5:=o5.lt;clear N o2 o4 o5 c2 l2 f2 B;have hG:W0.heap.size+2=E.heap.size+4:=D6
 have hL:W0.heap.size+1=E.heap.size+3:=D6
 refine J' ci (show 1<=3 by omega) (gf:=141) (lb:=#[Ek (some ⟨E.heap.size+1,0,none⟩)]) rfl trivial (enters_of Tryz.func141 D7 rfl)
  (Kp:=KF (E.heap.size+1) (E.heap.size+4)) (S:=fun xs=>xs=yr n) (El:=fun pre x=>vY n x=true/\pre.length<36/\pre=(yr n).take pre.length) (Pr:=fun A=>ai A (E.heap.size+1) 3 #[Ey Ew (n:Nat)])
  (by rw[hG]; exact Je 2 (E.heap.size+1) (E.heap.size+4) n h7 D6) (fun o o'=>(bn.alloc o).alloc o') (fun _=>rfl) KF.trans
  (fun A o o' ho hc=>⟨World.putObj_heap_other D6,World.putObj_heap_other D6⟩)
  (fun(pre:List P4) W=>ai W w.heap.size 55 #[Ex ao len cap]/\ai W (w.heap.size+1) 76 #[Ex none 0 0]/\ai W (w.heap.size+1+1) 32 #[Ey Ew 0]/\(∃ow,ai W E.heap.size 76 #[ow]/\bk W (E.heap.size+5) ow (qs l pre))/\Below w.heap.size w W/\NA W (E.heap.size+4))
  ⟨?al,?dr,?st⟩ ?io ?h0
  (fun(x:P4) a' W=>∃p,a' = { tmps:=#[Ex ao len cap,Ey Ew most,Ek (some ⟨w.heap.size,0,none⟩),En,Ek (some ⟨w.heap.size+1,0,none⟩),Ek (some ⟨w.heap.size+1+1,0,none⟩),Ey Ew 0,Ek (some ⟨E.heap.size,0,none⟩),Ek (some ⟨p,0,none⟩),En,En,En,En,Ex ao len cap,Ey Ew 0,Ey Ew 0,.bool false,En,Ey Ew most,.bool false,.bool false,Ey Ew most,.bool false,.bool false,Ey Ew most,Ex ao len cap,Ey Ew (len:Nat),Ey Ew (n:Nat),.func (.func 141) #[] #[Ek (some ⟨E.heap.size+1,0,none⟩)],.agg #[Ey Ew (x.1:Nat),Ey Ew (x.2.1:Nat),Ey Ew (x.2.2.1:Nat),Ey Ew (x.2.2.2:Nat)],En,En,En,En,En,En,En,En,En,En,En,En,En,En,En,En,En,En,En,En,En],defers:= [] }/\ai W p 80 #[Ey Ew (x.1:Nat),Ey Ew (x.2.1:Nat),Ey Ew (x.2.2.1:Nat),Ey Ew (x.2.2.2:Nat)])
  ?ao ?assign ?body ?done
 case al=>
  rintro pre W o ho ⟨a2,I,J,⟨ow,H,hc⟩,Y,hN⟩;rw[hG]at ho;exact⟨a2.alloc o,I.alloc o,J.alloc o,⟨ow,H.alloc o,hc.ae ((Fz _ _).alloc (Ep _) o)⟩,Y.alloc Y.size o,hN.alloc o ho⟩
 case dr=>
  rintro pre W m ⟨a2,I,J,⟨ow,H,hc⟩,Y,hN⟩;exact⟨a2.drewN m,I.drewN m,J.drewN m,⟨ow,H.drewN m,hc.bO (fun _ _=>rfl) ((av.refl _).drewN m)⟩,yS Y m,hN.kept rfl⟩
 case st=>
  rintro pre W i x ⟨a2,I,J,⟨ow,H,hc⟩,Y,hN⟩;rw[hG];exact⟨a2.aK D6,I.aK D6,J.aK D6,⟨ow,H.aK D6,hc.bO (fun g hg=>Below.heap_setCell _ _ _ g (show g≠E.heap.size+4 by have:=(hc.lt g hg).1; omega)) (hN.set).2⟩,Y.setCell (p:=⟨E.heap.size+4,i,none⟩) (show w.heap.size<=E.heap.size+4 by omega) _,(hN.set).1⟩
 case io=>
  rintro pre W o o' ⟨a2,I,J,⟨ow,H,hc⟩,Y,hN⟩ ho Z;rw[hL]at ho|-;have nb:∀g t cs,ai W g t cs->g≠E.heap.size+3:=fun g t cs h e=>by subst e; rw[show W.heap[E.heap.size+3]? = _ from h]at ho; cases ho; cases Z
  have kp:av W (W.putObj (E.heap.size+3) o'):=fun v l h=>j_ h (grownBy_putObj' W _ o') (fun r e=>by cases e; exact⟨o,ho,Z⟩);refine⟨?_,?_,?_,⟨ow,?_,hc.bO (fun g hg=>World.putObj_heap_other (by have:=(hc.lt g hg).1; omega)) kp⟩,?_,hN.kept (World.putObj_heap_other D6)⟩
  . exact z' a2 (grownBy_putObj' W _ o') (fun r e=>by cases e; exact⟨o,ho,Z⟩)
  . exact z' I (grownBy_putObj' W _ o') (fun r e=>by cases e; exact⟨o,ho,Z⟩)
  . exact z' J (grownBy_putObj' W _ o') (fun r e=>by cases e; exact⟨o,ho,Z⟩)
  . exact z' H (grownBy_putObj' W _ o') (fun r e=>by cases e; exact⟨o,ho,Z⟩)
  . exact Y.grown (grownBy_putObj' W _ o') Y.size (fun k hk=>by cases hk; omega)
 case h0=>exact⟨b2,b4,b5,⟨_,b7,bk.nil _ _⟩,gj,.inl D6⟩
 case ao=>
  rintro x a' W o o' ⟨p,e,hb⟩ ho Z;exact⟨p,e,z' hb (grownBy_putObj' W _ o') (fun r e=>by cases e; exact⟨o,ho,Z⟩)⟩
 case assign=>
  rintro pre x W K' ⟨a2,I,J,⟨ow,H,hc⟩,Y,hN⟩ cN bf;have z:=H.lt;unfold Kb Ka;dsimp only;generalize x.1=ka at bf|-;generalize x.2.1=kb at bf|-;generalize x.2.2.1=kc at bf|-;generalize x.2.2.2=kd at bf|-
  gi_wp2
  have st:zf W (W.alloc (.cells #[Ey Ew (ka:Nat),Ey Ew (kb:Nat),Ey Ew (kc:Nat),Ey Ew (kd:Nat)] 80)):=(Fz _ _).alloc (Ep _) _;exact bf _ _ (KeepsOthers.alloc _ _) ⟨st.block _ D6,st.block _ D6⟩ ⟨a2.alloc _,I.alloc _,J.alloc _,⟨ow,H.alloc _,hc.ae st⟩,Y.alloc Y.size _,hN.kept (st.block _ D6)⟩ ⟨_,rfl,ai.new _ _ _⟩
 case body=>
  rintro pre x a' W ⟨gA,eM⟩ ⟨a2,I,J,⟨ow,H,hc⟩,Y,hN⟩ ⟨p,rfl,bo⟩ ⟨bl,f9,ce⟩ cN;rw[hG]at cN;have ec:bT W (Ex ao len cap) l:=HP.out.ae Y;have dx:∀i,K4 x i<l.length:=Vf bl (by have:=HL.out; omega);have dk:∀i,ku (pt l (K4 x i)).1 (pt l (K4 x i)).2:=fun i=>Zc gr.out _ (dx i);have HA:Hid (qs l (pre ++ [x])=if 0<jp l (K4 x)then qs l pre ++ [yt l (K4 x)]else qs l pre):=E7 (KX l pre x)
  have g8:(qs l pre).length<=100000:=by
   rw[ce];have:=Gy (l:=l) n pre.length;have:=(KW n h7).1;omega
  have cf:Ee Ed 107 #[Ex ao len cap,.agg #[Ey Ew (x.1:Nat),Ey Ew (x.2.1:Nat),Ey Ew (x.2.2.1:Nat),Ey Ew (x.2.2.2:Nat)]] W fun e w'=>e = Eh (.tuple #[.agg (qS (yt l (K4 x))),.bool (decide (0<(yt l (K4 x)).n))])/\zf W w':=Hy x.1 x.2.1 x.2.2.1 x.2.2.2 W ec dx dk;have hz:jp l (K4 x)=0->(yt l (K4 x)).n=0:=fun h=>by rw[QE _ _ h]; rfl
  have hp:0<jp l (K4 x)->0<(yt l (K4 x)).n/\cW (yt l (K4 x)):=fun h=>⟨by rw[(qO l _ h).2.1]; exact h,YK dk h⟩;have hw:=JN l (K4 x);obtain⟨A,hA⟩:∃A,yt l (K4 x)=A:=⟨_,rfl⟩;rw[hA]at cf HA hz hp;obtain⟨wd,er⟩:∃z,jp l (K4 x)=z:=⟨_,rfl⟩;rw[er]at HA hz hp hw;generalize x.1=ka at *;generalize x.2.1=kb at *;generalize x.2.2.1=kc at *;generalize x.2.2.2=kd at *;clear hA er ec dx dk bl ce eM gA;have l7:=H.lt;have zW:=Y.size;obtain⟨oa,oc,rfl⟩:=hc.len;have HC:=E7 hc;clear hc;have gd:W.cell? ⟨w.heap.size,0,none⟩=some (Ex ao len cap):=a2.c 0 rfl;have gk:W.cell? ⟨p,0,none⟩=some (Ey Ew (ka:Nat)):=bo.c 0 rfl;have gn:W.cell? ⟨p,1,none⟩=some (Ey Ew (kb:Nat)):=bo.c 1 rfl;have gi:W.cell? ⟨p,2,none⟩=some (Ey Ew (kc:Nat)):=bo.c 2 rfl;have fl:W.cell? ⟨p,3,none⟩=some (Ey Ew (kd:Nat)):=bo.c 3 rfl
  gi_upto_region 9 with fail
  refine yD D7 ?_
  repeat' (first | go_values | go_skip | go_guarded | go_step | go_upon)
  refine cf.mono ?_;rintro e W1 ⟨rfl,T⟩;have d9:AK (E.heap.size+1) (E.heap.size+4) W W1:=AK.ae T D6 D6;replace a2:=a2.ae T;replace I:=I.ae T;replace J:=J.ae T;replace H:=H.ae T;have B1:Below w.heap.size w W1:=zA Y (Ep _) T;have dl:=E7 (HC.out.ae T);have N1:=hN.kept d9.kf.2;have gK:E.heap.size+4<W1.heap.size:=Nat.lt_of_lt_of_le cN T.size;clear gd gk gn gi fl bo cf T HC Y l7;have l7:=H.lt;dsimp only
  repeat' (first | ((with_reducible show wpList _ _ _ (⟨none,.store _ _ _,_,_,_,_⟩::_) _ _); refine zL rfl 160 (.tmp 9) (.tmp 34) rfl W1.heap.size (qS A) rfl rfl 160 #[Ey Ew 0,Ey Ew 0,Ey Ew 0,Ey Ew 0,Ey Ew 0,Ey Ew 0,Ey Ew 0,Ey Ew 0,Ey Ew 0] zC D7 rfl (Zb A) (fun W2 r2=> ?_)) | go_values | go_skip | go_guarded | go_step | go_upon)
  have o9:=r2.bI;have bt:AK (E.heap.size+1) (E.heap.size+4) W W2:=(d9.trans (AK.alloc _ D6 D6)).trans (AK.row r2 D6 D6);replace a2:=r2.bc (a2.alloc _) D6;replace I:=r2.bc (I.alloc _) D6;replace J:=r2.bc (J.alloc _) D6;replace H:=r2.bc (H.alloc _) D6;have B2:Below w.heap.size w W2:=r2.below (B1.alloc B1.size _) B1.size;have cZ:=E7 ((dl.out.ae ((Fz _ _).alloc (Ep _) _)).bO (fun g hg=>r2.only.2 g (by have:=(dl.out.lt g hg).2; omega)) (r2.af rfl));have N2:=N1.kept (show W2.heap[E.heap.size+4]? = _ from((AK.alloc (.cells Up 160) D6 D6).trans (AK.row r2 D6 D6)).kf.2);have s2:W2.heap.size=W1.heap.size+1:=by rw[r2.only.1,World.size_alloc]
  have g9:E.heap.size+4<W2.heap.size:=D6
  clear d9 r2 dl N1 B1;dsimp only[y_,Act.put];generalize W1.heap.size=pa at *
  by_cases hd:0<wd
  .
   obtain⟨ah,br⟩:=hp hd;have cy:Hid (qs l (pre ++ [x])=qs l pre ++ [A]):=E7 (by rw[HA.out,E9 hd]);have ft:decide (0<A.n)=true:=E' ah;have cq:=H2 A W2 br ah;have dt:=E7 (E8 ah br);clear HA hz hp ah br
   gi_upto_region 11 with fail
   refine yD D7 ?_
   repeat' (first | ((with_reducible show wpList _ _ _ (⟨some 39,_,_,_,_,_⟩::_) _ _); refine yg rfl 160 (.tmp 9) rfl pa rfl 160 (qS A) _ o9 Tryz.underlying160 rfl D7 ?_) | go_values | go_skip | go_guarded | go_step | go_upon)
   refine cq.mono ?_;rintro e W3 ⟨cs,rfl,dP,⟨cg,ek⟩,M⟩;have dy:=bt.trans (AK.ae M D6 D6);replace a2:=a2.ae M;replace I:=I.ae M;replace J:=J.ae M;replace H:=H.ae M;have B3:Below w.heap.size w W3:=zA B2 (Ep _) M;have cx:=E7 (cZ.out.ae M);have N3:=N2.kept (AK.ae M (Bs:=E.heap.size+1) (G:=E.heap.size+4) D6 D6).kf.2;have gJ:E.heap.size+4<W3.heap.size:=Nat.lt_of_lt_of_le g9 M.size
   have hq:QF W3 cs (kA A) (rA A):=by
    obtain⟨CA,e,qm⟩:=dP.qm
    injection e with e
    subst e;exact QM.qf dt.out.1 dt.out.2 qm
   have f8:=E7 hq;have ic:(Tryz.prog.info? 83).map (·.size)=some cs.size:=by rw[cg]; kernel_rfl
   clear hq dP cq M cZ N2 B2 dt o9 bt l7;have l7:=H.lt;dsimp only
   repeat' (first | ((with_reducible show wpList _ _ _ (⟨none,.store _ _ _,_,_,_,_⟩::_) _ _); refine zL rfl 83 (.tmp 11) (.tmp 41) rfl W3.heap.size cs rfl rfl 83 Zz zC ic cg.symm ek (fun W4 r4=> ?_)) | go_values | go_skip | go_guarded | go_step | go_upon)
   have gB:=r4.bI;have fd:AK (E.heap.size+1) (E.heap.size+4) W W4:=(dy.trans (AK.alloc _ D6 D6)).trans (AK.row r4 D6 D6);replace a2:=r4.bc (a2.alloc _) D6;replace I:=r4.bc (I.alloc _) D6;replace J:=r4.bc (J.alloc _) D6;replace H:=r4.bc (H.alloc _) D6;have B4:Below w.heap.size w W4:=r4.below (B3.alloc B3.size _) B3.size;have eS:av W3 W4:=av.trans zw (r4.af rfl);have dc:=E7 ((cx.out.ae ((Fz _ _).alloc (Ep _) _)).bO (fun g hg=>r4.only.2 g (by have:=(cx.out.lt g hg).2; omega)) (r4.af rfl));have gt:=E7 (f8.out.af eS);have N4:=N3.kept (show W4.heap[E.heap.size+4]? = _ from((AK.alloc (.cells Zz 83) D6 D6).trans (AK.row r4 D6 D6)).kf.2);have s4:W4.heap.size=W3.heap.size+1:=by rw[r4.only.1,World.size_alloc]
   have gH:E.heap.size+4<W4.heap.size:=D6
   clear dy r4 cx N3 B3 f8 eS;dsimp only[y_,Act.put];generalize W3.heap.size=pq at *;have c7:W4.cell? ⟨E.heap.size,0,none⟩=some (Ex oa (qs l pre).length oc):=H.c 0 rfl
   gi_upto_region 14 with fail
   refine yD D7 ?_
   repeat' (first | ((with_reducible show wpList _ _ _ (⟨some 47,_,_,_,_,_⟩::_) _ _); refine yg rfl 83 (.tmp 11) rfl pq rfl 83 cs _ gB Tryz.underlying83 rfl ic ?_) | ((with_reducible show wpList _ _ _ (⟨some 48,_,_,_,_,_⟩::_) _ _); refine GZ rfl (.tmp 47) rfl cs rfl cg ?_) | ((with_reducible show wpList _ _ _ (⟨some 49,_,_,_,_,_⟩::_) _ _); refine Jc rfl (.tmp 46) (.tmp 48) rfl (E.heap.size+5) (Ex oa (qs l pre).length oc) (qs l pre) A cs rfl (dc.out.ae ((Fz _ _).alloc (Ep _) _)) W4.heap.size rfl (ai.new _ _ _) (gt.out.af zw) g8 E6 (fun v' W5 cn b9 k5=> ?_); obtain⟨fe,gz,rfl⟩:=cn.len; have bh:ai W5 E.heap.size 76 #[Ex oa (qs l pre).length oc]:=(b9.block _ (H.alloc _).lt (fun e=>by have:=(dc.out.lt _ e.symm).1; omega)).trans (H.alloc _); have gG:W5.cell? ⟨E.heap.size,0,none⟩=some (Ex oa (qs l pre).length oc):=bh.c 0 rfl; have gF:=bh.fr; have gE:=bh.lt) | go_values | go_skip | go_guarded | go_step | go_upon)
   dsimp only[y_,Act.put]
   gi_wp2
   have r4:=dc.out.ae ((Fz W4.heap.size W4).alloc (Ep _) (.cells cs 83));have eW:AK (E.heap.size+1) (E.heap.size+4) W4 (W4.alloc (.cells cs 83)):=AK.alloc _ D6 D6;have ed:AK (E.heap.size+1) (E.heap.size+4) (W4.alloc (.cells cs 83)) W5:=AK.grow r4 b9 D6 D6 E6 E6;have ey:AK (E.heap.size+1) (E.heap.size+4) W5 (W5.setCell ⟨E.heap.size,0,none⟩ (Ex fe ((qs l pre).length+1) gz)):=AK.cell D6 D6;have em:=((fd.trans eW).trans ed).trans ey;have d2:=r4.bI b9 (a2.alloc _) D6;have d4:=r4.bI b9 (I.alloc _) D6;have d5:=r4.bI b9 (J.alloc _) D6;have B5:=r4.below b9 (B4.alloc B4.size (.cells cs 83)) D6;refine⟨em.others.from _,em.kf,d2.aK D6,d4.aK D6,d5.aK D6,⟨_,bh.bH 0 _,?_⟩,B5.setCell (p:=⟨E.heap.size,0,none⟩) (show w.heap.size<=E.heap.size by omega) _,((N4.kept eW.kf.2).kept ed.kf.2).kept ey.kf.2⟩;rw[cy.out,show (qs l pre).length+1=(qs l pre ++ [A]).length by simp];exact cn.bO (fun g hg=>Below.heap_setCell _ _ _ g (show g≠E.heap.size by have:=(cn.lt g hg).1; omega)) (av.only bh rfl ((bJ.refl _ _).set))
  .
   have h0:wd=0:=D6
   have gp:=hz h0;have ft:decide (0<A.n)=false:=Ea D6;have cy:Hid (qs l (pre ++ [x])=qs l pre):=E7 (by rw[HA.out,E_ hd]);clear HA hz hp gp
   gi_wp2
   exact⟨bt.others.from _,bt.kf,a2,I,J,⟨_,H,by rw[cy.out]; exact cZ.out⟩,B2,N2⟩
 case done=>
  rintro D xs W hD rfl ⟨a2,I,J,⟨ow,H,hc⟩,Y,hN⟩ hKd;obtain⟨oa,oc,rfl⟩:=hc.len;have nD:∀g t cs,ai W g t cs->g≠D:=fun g t cs h e=>by subst e; rw[show W.heap[g]? = _ from h]at hKd; cases hKd
  have n4:=nD _ _ _ I;have n5:=nD _ _ _ J;have c7:W.cell? ⟨E.heap.size,0,none⟩=_:=H.c 0 rfl;have c4:W.cell? ⟨w.heap.size+1,0,none⟩=_:=I.c 0 rfl;have c5:W.cell? ⟨w.heap.size+1+1,0,none⟩=_:=J.c 0 rfl;have l4:=I.lt;have l7:=H.lt;have f4:=I.fr;have f5:=J.fr;have f7:=H.fr;clear nD
  gi_wp2
  have d7:=H.lt;have e4:ai ((W.setCell ⟨w.heap.size+1,0,none⟩ (Ex oa (qs l (yr n)).length oc)).setCell ⟨w.heap.size+1+1,0,none⟩ (Ey Ew 0)) (w.heap.size+1) 76 #[Ex oa (qs l (yr n)).length oc]:=(I.bH 0 _).aK D6;have e5:ai ((W.setCell ⟨w.heap.size+1,0,none⟩ (Ex oa (qs l (yr n)).length oc)).setCell ⟨w.heap.size+1+1,0,none⟩ (Ey Ew 0)) (w.heap.size+1+1) 32 #[Ey Ew 0]:=(J.aK D6).bH 0 _;have k1:av W (W.setCell ⟨w.heap.size+1,0,none⟩ (Ex oa (qs l (yr n)).length oc)):=av.only I rfl ((bJ.refl _ _).set);have k2:av (W.setCell ⟨w.heap.size+1,0,none⟩ (Ex oa (qs l (yr n)).length oc)) ((W.setCell ⟨w.heap.size+1,0,none⟩ (Ex oa (qs l (yr n)).length oc)).setCell ⟨w.heap.size+1+1,0,none⟩ (Ey Ew 0)):=av.only (J.aK D6) rfl ((bJ.refl _ _).set);have hX:∀k,k≠w.heap.size+1->k≠w.heap.size+1+1->((W.setCell ⟨w.heap.size+1,0,none⟩ (Ex oa (qs l (yr n)).length oc)).setCell ⟨w.heap.size+1+1,0,none⟩ (Ey Ew 0)).heap[k]? = W.heap[k]? :=fun k h1 h2=>(Below.heap_setCell _ ⟨w.heap.size+1+1,0,none⟩ _ k h2).trans (Below.heap_setCell _ ⟨w.heap.size+1,0,none⟩ _ k h1);have BX:=(Y.setCell (p:=⟨w.heap.size+1,0,none⟩) (show w.heap.size<=w.heap.size+1 by omega) (Ex oa (qs l (yr n)).length oc)).setCell (p:=⟨w.heap.size+1+1,0,none⟩) (show w.heap.size<=w.heap.size+1+1 by omega) (Ey Ew 0);have CX:=hc.bO (fun g hg=>hX g (by have:=(hc.lt g hg).1; omega) (by have:=(hc.lt g hg).1; omega)) (k1.trans k2);have jd:=(hX D (Ne.symm n4) (Ne.symm n5)).trans hKd;generalize (W.setCell ⟨w.heap.size+1,0,none⟩ (Ex oa (qs l (yr n)).length oc)).setCell ⟨w.heap.size+1+1,0,none⟩ (Ey Ew 0)=X at e4 e5 BX CX jd|-;clear hX k1 k2 c4 c5 c7 f4 f5 f7 l4 l7;have bi:∀r,some D=some r->∃o:Obj,X.heap[r]? = some o/\o.isCells=false:=fun r e=>by cases e; exact⟨_,jd,rfl⟩
  have E4:=z' e4 (grownBy_putObj' X D (.deferred none)) bi;have E5:=z' e5 (grownBy_putObj' X D (.deferred none)) bi;have q4:Es (X.putObj D (.deferred none)) ⟨w.heap.size+1,0,none⟩=_:=E4.c 0 rfl;have q5:Es (X.putObj D (.deferred none)) ⟨w.heap.size+1+1,0,none⟩=_:=E5.c 0 rfl;refine⟨by simp,.inl ⟨_,_,rfl,run_takeDeferred jd,?_⟩⟩;refine⟨.tuple #[Ex oa (qs l (yr n)).length oc,Ey Ew 0],?_,⟨_,by rw[HS.out],?_,?_⟩⟩
  . simp[results,Tryz.results71,go_sem,q4,q5]
  .
   rw[HS.out];exact(CX.bO (fun g hg=>World.putObj_heap_other (fun e=>by subst e; obtain⟨cs,t,h⟩:=CX.cells g hg; rw[h]at jd; cases jd)) (fun v l h=>j_ h (grownBy_putObj' X D _) bi)).fF
  . exact BX.grown (grownBy_putObj' X D _) BX.size (fun k hk=>by cases hk; omega)
theorem GA (most:Int) (w:Ef) (hv:bT w v l) (I:l.length<=1000) (J:0<=most->most<=12->(min most (l.length:Int)).toNat<=7):Ee Ed 71 #[v,Ey Ew most] w (cG w l most):=by
 by_cases h:zP l≠0\/most<0\/12<most
 . exact Wn most w hv I h
 .
  have M:zP l=0:=by
   rcases Decidable.em (zP l=0)with g | g
   . exact g
   . exact absurd (.inl g) h
  have E:0<=most:=D6
  have H:most<=12:=D6
  exact Gz most w hv I M E H (J E H)
end
section
open Go.RowKit
variable {l:PL} {v:Ei}
attribute [local go_sem high] Jf
theorem Vh (a b c d:Nat):(X8 a b c d).length<=d:=by unfold X8; simp
theorem Ze {α β:Type} (f : α->List β) (m:Nat):∀l:List α,(∀x∈l,(f x).length<=m)->(l.flatMap f).length<=l.length*m
 | [],_=>by simp
 | x::l,h=>by
  have I:=h x (List.mem_cons.2 (.inl rfl));have H:=Ze f m l (fun y E=>h y (List.mem_cons.2 (.inr E)));rw[List.flatMap_cons,List.length_append,List.length_cons,Nat.succ_mul];omega
theorem Vi (n a b c:Nat) (E:n<=7) (hc:c<=n):(YZ n a b c).length<=49:=by
 unfold YZ;refine Nat.le_trans (Ze _ 7 _ (fun x _=>Nat.le_trans (Vh _ _ _ _) E)) ?_;rw[List.length_range']; omega
theorem Vj (n a b:Nat) (E:n<=7) (H:b<=n):(ZY n a b).length<=343:=by
 unfold ZY;refine Nat.le_trans (Ze _ 49 _ (fun x _=>Vi n a x n E (Ep _))) ?_;rw[List.length_range']; omega
theorem GB (n a:Nat) (E:n<=7) (H:a<=n):(ZP n a).length<=2401:=by
 unfold ZP;refine Nat.le_trans (Ze _ 343 _ (fun x _=>Vj n x n E (Ep _))) ?_;rw[List.length_range']; omega
theorem Wo (most:Int) (w:Ef) (hv:bT w v l) (hl:l.length<=1000) (h:zP l≠0\/most<0\/12<most) :
  Ee Ed 33 #[v,Ey Ew most] w (cG w l most):=by
 have N:∀w',zf w w'->Ee Ed 62 #[v] w' fun e w2=>e = Eh (Ey Ew (zP l))/\zf w' w2:=fun w' Y=>K5 w' (hv.ae Y) hl;obtain⟨ao,cap,rfl⟩:=hv.ak;have H:zP l≠0->Hid (zO l most=(zP l,[])):=fun h=>E7 (by unfold zO; rw[E9 h]);have E:zP l=0->Hid (zO l most=(2,[])):=fun h0=>E7 (by unfold zO; rw[E_ (by rw[h0]; simp),E9 (h.resolve_left (by rw[h0]; simp))]);have I:zP l=0->most<0\/12<most:=fun h0=>h.resolve_left (by rw[h0]; simp);generalize l.length=n at *;obtain⟨c,M⟩:∃c,zP l=c:=⟨_,rfl⟩;rw[M]at N H E I;clear hv M h
 go_enter Tryz.func33,Tryz.ntmps33
 go_wp2_with fail
 refine(N _ zh).mono ?_;rintro e w1 ⟨rfl,J⟩;have B:Below w.heap.size w w1:=yI J;clear J N
 by_cases hc:c=0
 .
  have T:=E hc;replace I:=I hc;clear H E;subst hc
  by_cases g1:most<0
  .
   go_wp2_with fail
   go_returns
   exact cG.none T.out zh
  .
   have g2:12<most:=I.resolve_left g1;go_wp2_with fail
   go_returns
   exact cG.none T.out zh
 .
  have Z:=H hc;have X:(c==0)=false:=by simpa using hc
  clear H E I;go_wp2_with fail
  go_returns
  exact cG.none Z.out zh
theorem GC (most:Int) (w:Ef) (hv:bT w v l) (hl:l.length<=1000) (hc:zP l=0) (h0:0<=most) (h1:most<=12) (h7:(min most (l.length:Int)).toNat<=7) :
  Ee Ed 33 #[v,Ey Ew most] w (cG w l most):=by
 have ck:∀w',zf w w'->Ee Ed 62 #[v] w' fun e w2=>e = Eh (Ey Ew 0)/\zf w' w2:=fun w' hs=>by
  have:=K5 w' (hv.ae hs) hl
  rwa[hc]at this
 have HS:Hid (zO l most=(0,qs l (yr (min most (l.length:Int)).toNat))):=E7 (by unfold zO; rw[E_ (by rw[hc]; simp),E_ D6]);have HP:=E7 hv;have bi:=E7 hc;obtain⟨ao,cap,rfl⟩:=hv.ak;obtain⟨len,E⟩:∃n,l.length=n:=⟨_,rfl⟩;have HL:=E7 E;rw[E]at HP HS h7 ck|-;obtain⟨n,hn⟩:∃n,(min most (len:Int)).toNat=n:=⟨_,rfl⟩;rw[hn]at HS h7;have ci:min most (len:Int)=(n:Int):=D6
 have cy:n<=len:=D6
 clear hv E hc hn;have g1:decide (most<0)=false:=Ea D6;have g2:decide (12<most)=false:=Ea D6
 -- the four calls' contracts, of four indices in order
 have cw:∀a b c d:Nat,a<b->b<c->c<d->d<n->∀w',zf w w'->Ee Ed 74 #[Ex ao len cap,.agg #[Ey Ew (a:Nat),Ey Ew (b:Nat),Ey Ew (c:Nat),Ey Ew (d:Nat)]] w' fun e w2=>e = Eh (Ey Ew (jp l (K4 (a,b,c,d))))/\zf w' w2:=fun a b c d q1 q2 q3 q4 w' hs=>by
  have X:∀i,K4 (a,b,c,d) i<l.length:=by have:=HL.out; exact Vf (n:=n) (by unfold vY; simp; omega) D6
  exact K8 a b c d _ rfl w' (HP.out.ae hs) X (fun i=>Zc bi.out _ (X i))
 have cc:∀a b c d:Nat,a<b->b<c->c<d->d<n->0<jp l (K4 (a,b,c,d))->∀w',zf w w'->Ee Ed 75 #[Ex ao len cap,.agg #[Ey Ew (a:Nat),Ey Ew (b:Nat),Ey Ew (c:Nat),Ey Ew (d:Nat)]] w' fun e w2=>∃cs,e = Eh (.agg cs)/\QF w2 cs (kA (yt l (K4 (a,b,c,d)))) (rA (yt l (K4 (a,b,c,d))))/\zf w' w2:=fun a b c d q1 q2 q3 q4 hw w' hs=>by
  have X:∀i,K4 (a,b,c,d) i<l.length:=by have:=HL.out; exact Vf (n:=n) (by unfold vY; simp; omega) D6
  exact Ct a b c d _ rfl w' (HP.out.ae hs) (by have:=HL.out; omega) X (fun i=>Zc bi.out _ (X i)) hw
 have HQ:∀xs x,Hid (qs l (xs ++ [x])=if 0<jp l (K4 x)then qs l xs ++ [yt l (K4 x)]else qs l xs):=fun xs x=>E7 (KX l xs x)
 have T:∀a b c d:Nat,a<n->b<=n->c<=n->d<=n->(qs l (((ZP n a++ZY n a b)++YZ n a b c)++X8 a b c d)).length<=100000:=fun a b c d q1 q2 q3 q4=>by
  refine Nat.le_trans (JQ _ _) ?_;have e1:=GB n a h7 D6;have e2:=Vj n a b h7 q2;have e3:=Vi n a b c h7 q3;have e4:=Vh a b c d;simp only[List.length_append];omega
 clear h0 h1
 go_enter Tryz.func33,Tryz.ntmps33
 go_wp2_with fail
 refine(ck _ zh).mono ?_;rintro e w1 ⟨rfl,bg⟩;have B:Below w.heap.size w w1:=yI bg;clear bg ck;go_wp2_with fail
 go_loopw [8,9] (fun sl0 sl1 wr=>∃a:Nat,0<=a/\a<=n/\sl1 = Ey Ew a/\(∃N,sl0=N/\bk wr w.heap.size N (qs l (ZP n a)))/\Below w.heap.size w wr) (fun _ sl1 _=>n-(intOf sl1).toNat)
 case atStart=>exact⟨0,by omega,by omega,by go_num,⟨_,rfl,by rw[BP]; exact bk.nil _ _⟩,zh⟩
 case round=>
  obtain⟨a,-,ha,rfl,⟨ow,rfl,hc⟩,M⟩:=hrel;clear B;have B:=M;clear M
  rcases Er a n with an | an
  .
   have dt:decide ((a:Int)<(n:Int))=true:=E' D6;obtain⟨oa,oc,rfl⟩:=hc.len;have I:=E7 hc;clear hc;go_wp2_with fail
   go_loopw [8,10] (fun sl0 sl1 wr=>∃b:Nat,(a+1)<=b/\b<=n/\sl1 = Ey Ew b/\(∃N,sl0=N/\bk wr w.heap.size N (qs l (ZP n a++ZY n a b)))/\Below w.heap.size w wr) (fun _ sl1 _=>n-(intOf sl1).toNat)
   case atStart=>exact⟨(a+1),by omega,by omega,by go_num,⟨_,rfl,by rw[BO,List.append_nil]; exact I.out⟩,zh⟩
   case round=>
    obtain⟨b,cN,hb,rfl,⟨ow,rfl,hc⟩,M⟩:=hrel;clear B I;have B:=M;clear M
    rcases Er b n with bn | bn
    .
     have cZ:decide ((b:Int)<(n:Int))=true:=E' D6;obtain⟨oa,oc,rfl⟩:=hc.len;have I:=E7 hc;clear hc;go_wp2_with fail
     go_loopw [8,11] (fun sl0 sl1 wr=>∃c:Nat,(b+1)<=c/\c<=n/\sl1 = Ey Ew c/\(∃N,sl0=N/\bk wr w.heap.size N (qs l ((ZP n a++ZY n a b)++YZ n a b c)))/\Below w.heap.size w wr) (fun _ sl1 _=>n-(intOf sl1).toNat)
     case atStart=>exact⟨(b+1),by omega,by omega,by go_num,⟨_,rfl,by rw[BN,List.append_nil]; exact I.out⟩,zh⟩
     case round=>
      obtain⟨c,dc,dk,rfl,⟨ow,rfl,hc⟩,M⟩:=hrel;clear B I;have B:=M;clear M
      rcases Er c n with cn | cn
      .
       have d9:decide ((c:Int)<(n:Int))=true:=E' D6;obtain⟨oa,oc,rfl⟩:=hc.len;have I:=E7 hc;clear hc;go_wp2_with fail
       go_loopw [8,12] (fun sl0 sl1 wr=>∃d:Nat,(c+1)<=d/\d<=n/\sl1 = Ey Ew d/\(∃N,sl0=N/\bk wr w.heap.size N (qs l (((ZP n a++ZY n a b)++YZ n a b c)++X8 a b c d)))/\Below w.heap.size w wr) (fun _ sl1 _=>n-(intOf sl1).toNat)
       case atStart=>exact⟨(c+1),by omega,by omega,by go_num,⟨_,rfl,by rw[BM,List.append_nil]; exact I.out⟩,zh⟩
       case round=>
        obtain⟨d,cx,dl,rfl,⟨ow,rfl,hc⟩,M⟩:=hrel;clear B I;have B:=M;clear M
        rcases Er d n with dn | dn
        .
         have dx:decide ((d:Int)<(n:Int))=true:=E' D6;obtain⟨oa,oc,rfl⟩:=hc.len;have I:=E7 hc;have b9:=cw a b c d D6 D6 D6 dn;have H:=cc a b c d D6 D6 D6 dn;have Z:=HQ (((ZP n a++ZY n a b)++YZ n a b c)++X8 a b c d) (a,b,c,d);have HD:Hid (((ZP n a++ZY n a b)++YZ n a b c)++X8 a b c (d+1)=(((ZP n a++ZY n a b)++YZ n a b c)++X8 a b c d) ++ [(a,b,c,d)]):=E7 (by rw[BQ D6,<- List.append_assoc]);have E:=T a b c d an D6 D6 D6;rw[<- HD.out]at Z;clear hc cw cc HQ T HD;generalize hxs:qs l (((ZP n a++ZY n a b)++YZ n a b c)++X8 a b c d)=xs at I Z E|-;clear hxs;obtain⟨wd,bh⟩:∃z,jp l (K4 (a,b,c,d))=z:=⟨_,rfl⟩;rw[bh]at b9 H Z;obtain⟨A,hA⟩:∃z,yt l (K4 (a,b,c,d))=z:=⟨_,rfl⟩;rw[hA]at H Z;clear bh hA;have zz:=B.size;go_wp2_with fail
         refine(b9 _ zh).mono ?_;rintro e w3 ⟨rfl,Y⟩;have J:ai w3 wr.heap.size 80 #[Ey Ew (a:Nat),Ey Ew (b:Nat),Ey Ew (c:Nat),Ey Ew (d:Nat)]:=ai.au Y;have B3:Below w.heap.size w w3:=yI Y;have sK:zf wr w3:=zA (by first | exact zh | exact(Fz _ _).alloc (Ep _) _) (Ep _) Y;have bf:=E7 (I.out.ae sK);clear Y sK I B b9 zz;have c0:=J.c 0 rfl;have c1:=J.c 1 rfl;have c2:=J.c 2 rfl;have c3:=J.c 3 rfl
         by_cases hd:0<wd
         .
          have ah:Hid (qs l (((ZP n a++ZY n a b)++YZ n a b c)++X8 a b c (d+1))=xs ++ [A]):=E7 (by rw[Z.out,E9 hd]);replace H:=H hd;clear Z;go_wp2_with fail
          refine(H _ B3).mono ?_;rintro e w4 ⟨cs,rfl,hq,be⟩;have B4:Below w.heap.size w w4:=zA B3 (Ep _) be;have bl:=E7 (bf.out.ae be);have bt:=hq.1;have cg:=E7 hq;have zz:=B4.size;clear be B3 bf hq H J c0 c1 c2 c3;dsimp only
          repeat' (first | ((with_reducible show wpList _ _ _ (⟨some 68,_,_,_,_,_⟩::_) _ _); refine GZ rfl (.tmp 67) rfl cs rfl bt ?_) | ((with_reducible show wpList _ _ _ (⟨some 69,_,_,_,_,_⟩::_) _ _); refine Jc rfl (.tmp 64) (.tmp 68) rfl w.heap.size (Ex oa xs.length oc) xs A cs rfl (bl.out.ae ((Fz _ _).alloc (Ep _) _)) w4.heap.size rfl (ai.new _ _ _) (cg.out.af zw) E E6 (fun v' w5 ce br k5=> ?_)) | go_values | go_skip | go_guarded | go_step | go_upon)
          go_roundw
          case rel=>exact⟨d+1,by omega,by omega,by go_num,⟨_,rfl,by rw[ah.out]; exact ce⟩,(bl.out.ae ((Fz _ _).alloc (Ep _) _)).below br (B4.alloc B4.size _) D6⟩
          case measure=>simp[intOf]; omega
         .
          have ah:Hid (qs l (((ZP n a++ZY n a b)++YZ n a b c)++X8 a b c (d+1))=xs):=E7 (by rw[Z.out,E_ hd]);clear Z H;go_wp2_with fail
          go_roundw
          case rel=>exact⟨d+1,by omega,by omega,by go_num,⟨_,rfl,by rw[ah.out]; exact bf.out⟩,B3⟩
          case measure=>simp[intOf]; omega
        .
         obtain rfl:n=d:=D6
         have HD:Hid ((ZP n a++ZY n a b)++YZ n a b (c+1)=((ZP n a++ZY n a b)++YZ n a b c)++X8 a b c n):=E7 (by rw[BR D6,<- List.append_assoc]);go_wp2_with fail
         go_roundw
         case rel=>exact⟨c+1,by omega,by omega,by go_num,⟨_,rfl,by rw[HD.out]; exact hc⟩,B⟩
         case measure=>simp[intOf]; omega
      .
       obtain rfl:n=c:=D6
       have HD:Hid (ZP n a++ZY n a (b+1)=(ZP n a++ZY n a b)++YZ n a b n):=E7 (by rw[BS D6,<- List.append_assoc]);go_wp2_with fail
       go_roundw
       case rel=>exact⟨b+1,by omega,by omega,by go_num,⟨_,rfl,by rw[HD.out]; exact hc⟩,B⟩
       case measure=>simp[intOf]; omega
    .
     obtain rfl:n=b:=D6
     have HD:Hid (ZP n (a+1)=ZP n a++ZY n a n):=E7 (by rw[BT]);go_wp2_with fail
     go_roundw
     case rel=>exact⟨a+1,by omega,by omega,by go_num,⟨_,rfl,by rw[HD.out]; exact hc⟩,B⟩
     case measure=>simp[intOf]; omega
  .
   obtain rfl:n=a:=D6
   obtain⟨oa,oc,rfl⟩:=hc.len;go_wp2_with fail
   go_returns
   exact⟨_,by rw[HS.out]; rfl,by rw[HS.out]; exact hc.fF,B⟩
theorem Dg (most:Int) (w:Ef) (hv:bT w v l) (I:l.length<=1000) (J:0<=most->most<=12->(min most (l.length:Int)).toNat<=7):Ee Ed 33 #[v,Ey Ew most] w (cG w l most):=by
 by_cases h:zP l≠0\/most<0\/12<most
 . exact Wo most w hv I h
 .
  have M:zP l=0:=by
   rcases Decidable.em (zP l=0)with g | g
   . exact g
   . exact absurd (.inl g) h
  have E:0<=most:=D6
  have H:most<=12:=D6
  exact GC most w hv I M E H (J E H)
end
section
open Go.RowKit
variable {w:Ef}
theorem QF.fits {cs:Array Ei} {k:Nat->Int} {r:Nat->Rat} (h:QF w cs k r) (i:Nat) (E:i<4):Go.Proofs.YtffmbepfbienaaaGreat.fits (r i).num/\Go.Proofs.YtffmbepfbienaaaGreat.fits ((r i).den:Int):=by
 obtain⟨a1,a2,T,M,H,Y,a7,Z,I,X,N,J,f⟩:=h.2.2.2 i E;exact f.fit
theorem dJ.at {v:Ei} {qa:List aU} (h:dJ w v qa):∃ (ao:Option Addr) (cap:Nat) (E:Nat->Array Ei),v = Ex ao qa.length cap/\∀t,t<qa.length->∃b o,ao=some ⟨b,o,none⟩/\b<w.heap.size/\QF w (E t) (kA (qa.getD t zH)) (rA (qa.getD t zH))/\∀j,j<20->w.cell? ⟨b,o+t*20+j,none⟩=(E t)[j]? :=by
 obtain⟨ao,cap,e,hc,E,M,I⟩:=h;refine⟨ao,cap,E,e,fun t ht=> ?_⟩;obtain⟨b,o,H,J,N⟩:=I D6;exact⟨b,o,H,J,M t ht,N t ht⟩
end
end Go.Proofs.YtffmbepfbienaaaGreat
