import Derived.Test.YtffmbepfbienaaaGreatOMf
set_option linter.unusedVariables false
set_option linter.unusedSimpArgs false
set_option maxHeartbeats 6400000
set_option maxRecDepth 1000000
/- Quads, and lists of quads, as arguments. -/
open Go.Value renaming slice->Ex,bool->Ez,int->Ey,agg->Ej,pointer->Ek
open Go.IntKind renaming i64->Ew
open Go.Ending renaming returned->Eh
open Go.Proofs.Tryz renaming prog->Ed
open Go renaming Calls->Ee,World->Ef,Value->Ei,TypeId->Em,bodyPost_ret->Eo
open Nat renaming le_refl->Ep
namespace Go.Proofs.YtffmbepfbienaaaGreat
section
open Go.ChangeShapes Go.WideShapes Go.ChangeAt Go.RowKit Go.Joins
def DO (cs:Array Ei) (la lb:Nat->Nat):Prop:=∀i,i<4->(∃a c,cs[4+i*4+1]? = some (Ex a (la i) c))/\∃a c,cs[4+i*4+3]? = some (Ex a (lb i) c)
def DQ (r:Nat->Option Rat) (la lb:Nat->Nat):Prop:=∀i,i<4->∀q,r i=some q->zi q.num<=bp (la i)/\(q.den:Int)<=bp (lb i)
theorem Kk {w:Ef} {gx gy:Bool} {I E:Ei} {la lb:List Int} (M:aA w I la) (J:aA w E lb):∃o,FB w (Ej #[Ez gx,I,Ez gy,E]) o/\∀q,o=some q->zi q.num<=bp la.length/\(q.den:Int)<=bp lb.length:=by
 rcases VS (gx:=gx) (gy:=gy) M J with⟨r,h,h1,h2⟩ | h
 . exact⟨some r,h,fun q e=>by cases e; exact⟨h1,h2⟩⟩
 . exact⟨none,h,fun q e=>by cases e⟩
section
variable {H:Type} {enc:Em×Ei->H} {W:Ef} {b9:Nat} {a9:Bool} {n:Nat}
def f4 {α : Type} (a b c d : α) (i:Nat) : α:=match i with | 0=>a | 1=>b | 2=>c | _=>d
end
end
section
open Go.RowKit
variable {l:List Int}
theorem aF.at {w:Ef} {ao:Option Addr} {n cap:Nat} (h:aF w (Ex ao n cap) l) {t:Nat} (ht:t<l.length):∃b o,ao=some ⟨b,o,none⟩/\b<w.heap.size/\w.cell? ⟨b,o+t,none⟩=some (Ey Ew (l.getD t 0)):=by
 obtain⟨I,E,e,_,M⟩:=h
 injection e with J T X
 subst J;obtain⟨b,o,e,N,hc⟩:=M (fun e=>by rw[e]at ht; cases ht);exact⟨b,o,e,N,hc t ht⟩
set_option maxHeartbeats 6400000 in
set_option maxRecDepth 1000000 in
theorem Uj {va vb:Ei} (w:Ef) (h:aF w va l) (Y:aF w vb l) (hl:l.length<=100000):Ee Ed 27 #[va,vb] w fun e w'=>e = Eh (Ez true)/\zf w w':=by
 have HA:=E7 h;have HB:=E7 Y;obtain⟨ao,cap,rfl⟩:=h.ak;obtain⟨bo,bg,rfl⟩:=Y.ak;obtain⟨n,hn⟩:∃n,l.length=n:=⟨_,rfl⟩;have HL:=E7 hn;rw[hn]at HA HB hl|-;clear h Y hn
 go_enter Tryz.func27,Tryz.ntmps27
 go_wp2_with fail
 go_loopw [5] (fun kk wr=>∃i:Nat,i<=n/\kk = Ey Ew i/\Below w.heap.size w wr) (fun kk _=>n-(intOf kk).toNat)
 case atStart=>exact⟨0,by omega,rfl,zh⟩
 case round=>
  obtain⟨i,hi,rfl,B⟩:=hrel
  rcases Nat.lt_or_ge i n with i4 | i4
  .
   have bf:decide ((i:Int)<(n:Int))=true:=E' D6;obtain⟨b,o,rfl,hb,ha⟩:=HA.out.at (t:=i) (by have:=HL.out; omega);obtain⟨b',o',rfl,X,J⟩:=HB.out.at (t:=i) (by have:=HL.out; omega);obtain⟨x,hx⟩:∃x,l.getD i 0=x:=⟨_,rfl⟩;rw[hx]at ha J;have be:(x==x)=true:=by simp
   clear hx
   repeat' (first | go_values | go_skip | go_guarded | go_step | go_upon)
   refine aj.aJ (fun D v W=>Below wr.heap.size wr W/\True) (aj.inl []) (aj.gv []) aj.aQ (fun _=>aj.Any) (fun _ _=>False) (aj.pl []) (aj.pl [])
    D7 D7 D7 (aj.dB _) (fun _=>⟨zh,trivial⟩) (fun _ _ _ _ _ h=>h) (fun _ _ _ _ _ _ _ _ _ _ _ _ _=>aj.none_) (fun _ _ _ _ h=>h.elim) (fun I Q' M hQ=> ?_)
   repeat refine aj.aG _ ?_
   apply aj.RP rfl rfl rfl 20 rfl rfl
   .
    intro D v W hc N Z K' E;obtain⟨T,_⟩:=N;have c0:W.cell? ⟨b,o+i,none⟩=some (Ey Ew x):=(zA B (Ep _) T).cell (p:=⟨b,_,none⟩) hb |>.trans ha
    go_step;exact E.out
   . rfl
   repeat refine aj.aG _ ?_
   apply aj.RP rfl rfl rfl 24 rfl rfl
   .
    intro D v W hc N Z K' E;obtain⟨T,_⟩:=N;have c0:W.cell? ⟨b',o'+i,none⟩=some (Ey Ew x):=(zA B (Ep _) T).cell (p:=⟨b',_,none⟩) X |>.trans J
    go_step;exact E.out
   . rfl
   refine aj.aG 25 ?_;refine aj.aE (fun D v w9 hd N Z=> ?_);obtain⟨B9,_⟩:=N;clear hd Z;refine hQ _ _ ?_;clear hQ M Q' I;have B6:=zA B (Ep _) B9
   go_wp2
   go_roundw
   case rel=>exact⟨i+1,by omega,by go_num,B6⟩
   case measure=>simp[intOf]; omega
  .
   obtain rfl:i=n:=D6
   go_wp2
   go_returns
   exact⟨rfl,B⟩
def Bp (la lb:Nat->Nat):Nat->Bool
 | 0=>false
 | i+1=>Bp la lb i||(decide (6<la i)||decide (6<lb i))
end
end Go.Proofs.YtffmbepfbienaaaGreat
/- QuadNear without the program: Find's answers with CZ limits, the greedy look for one in the other. -/
namespace Go.Proofs.YtffmbepfbienaaaGreat
open Go.RowKit
variable {r:Rat}
theorem WJ:∀n,n<=6->(yr n).length<=15/\∀x∈yr n,vY n x=true:=by
 intro n E
 rcases(show n=0\/n=1\/n=2\/n=3\/n=4\/n=5\/n=6 by omega)with rfl | rfl | rfl | rfl | rfl | rfl | rfl<;>decide
theorem kz (f:Nat->Rat):∀n,yM (fun i=>some (f i)) n=true
 | 0=>rfl
 | n+1=>by unfold yM; rw[kz f n]; rfl
theorem ZI (f:Nat->Nat->Rat):∀n,xe (fun t i=>some (f t i)) n=true
 | 0=>rfl
 | n+1=>by unfold xe; rw[ZI f n,kz]; rfl
theorem Uk (h:0<=r):YH (some r)=true:=by
 have:¬r<0:=Rat.not_lt.2 h;simp[YH,this]
theorem Kn {n:Nat} {f:Nat->Nat->Rat} {g:Nat->Rat} (E:n<=500) (h:0<=r):ZH n (fun t i=>some (f t i)) (fun i=>some (g i)) (some r)=(jo (fun t i=>some (f t i)) (fun i=>some (g i)) r n,0):=by
 unfold ZH;rw[E_ D6,ZI,kz,Uk h]; rfl
def DR (p:Int->Bool) (L:List Int) (s:Nat):Nat:=((L.take s).filter p).length
structure fC (A N:List Int) (ns:Nat->Nat):Prop where
 zero:ns 0=0
 all:ns A.length=N.length
 le:∀s,ns s<=N.length
 step:∀s,s<A.length->(ns s<N.length/\N.getD (ns s) 0=A.getD s 0/\ns (s+1)=ns s+1)\/(ns (s+1)=ns s/\(ns s<N.length->N.getD (ns s) 0≠A.getD s 0))
end Go.Proofs.YtffmbepfbienaaaGreat
/- Points, similarities and rules as arguments. -/
namespace Go.Proofs.YtffmbepfbienaaaGreat
open Go.ChangeShapes Go.WideShapes Go.ChangeAt Go.RowKit Go.Joins
section
variable {H:Type} {enc:Em×Ei->H} {P:Program} {w:Ef} {b0:Nat} {sp:Nat->Bool} {a9:Bool}
end
section
variable {H:Type} {enc:Em×Ei->H} {W:Ef} {b9:Nat} {a9:Bool} {n:Nat}
theorem WD:Tryz.prog.cellsOf 2=1:=by kernel_rfl
end
end Go.Proofs.YtffmbepfbienaaaGreat
/- Rules and integers as arguments. -/
namespace Go.Proofs.YtffmbepfbienaaaGreat
open Go.ChangeShapes Go.WideShapes Go.ChangeAt Go.RowKit Go.Joins
section
variable {H:Type} {enc:Em×Ei->H} {P:Program} {w:Ef} {b0:Nat} {sp:Nat->Bool} {a9:Bool}
theorem Y3 {t0 t1 t2 t3:Em} {args:Array Ei} {ds:List (DataW H)} {ps:List MemPlace} (h:DataW.TrodAll enc P w b0 sp a9 [t0,t1,t2,t3] args.toList ds ps) :
  ∃E T I N M X J Y p0 p1 p2 p3,args=#[E,T,I,N]/\ds = [M,X,J,Y]/\ps=p0++p1++p2++p3/\DataW.Trod enc P w b0 sp a9 t0 E M p0/\DataW.Trod enc P w b0 sp a9 t1 T X p1/\DataW.Trod enc P w b0 sp a9 t2 I J p2/\DataW.Trod enc P w b0 sp a9 t3 N Y p3:=by
 obtain⟨E,bh,M,bt,p0,q0,Z,rfl,rfl,h0,r0⟩:=trodAll_cons h;obtain⟨T,bf,X,bg,p1,q1,rfl,rfl,rfl,h1,r1⟩:=trodAll_cons r0;obtain⟨I,br,J,bi,p2,q2,rfl,rfl,rfl,h2,r2⟩:=trodAll_cons r1;obtain⟨N,bl,Y,be,p3,q3,rfl,rfl,rfl,h3,r3⟩:=trodAll_cons r2;obtain⟨rfl,rfl,rfl⟩:=trodAll_nil r3;exact⟨E,T,I,N,M,X,J,Y,p0,p1,p2,p3,by cases args; simp_all,rfl,by simp,h0,h1,h2,h3⟩
end
section
variable {H:Type} {enc:Em×Ei->H} {W:Ef} {b9:Nat} {a9:Bool} {n:Nat}
theorem Uh:Tryz.prog.cellsOf 45=14:=by kernel_rfl
theorem Ui {cs:List Ei} {y:DataW H×List MemPlace} (h:DataW.trod enc Ed W b9 (fun _=>true) a9 n 45 cs=some y) :
  ∃ua1 ua2 ua3 ua4 ua5 ua6 ua7 ua8 ub1 ub2 ub3 ub4 ub5 ub6 ub7 ub8 uc1 uc2 uc3 uc4 uc5 uc6 uc7 uc8 R A,∃O:Nat->Option Rat,cs = [Ez ua1,Ex ua2 ua3 ua4,Ez ua5,Ex ua6 ua7 ua8,Ey Ew R,Ey Ew A,Ez ub1,Ex ub2 ub3 ub4,Ez ub5,Ex ub6 ub7 ub8,Ez uc1,Ex uc2 uc3 uc4,Ez uc5,Ex uc6 uc7 uc8]/\FB W (Ej #[Ez ua1,Ex ua2 ua3 ua4,Ez ua5,Ex ua6 ua7 ua8]) (O 0)/\FB W (Ej #[Ez ub1,Ex ub2 ub3 ub4,Ez ub5,Ex ub6 ub7 ub8]) (O 1)/\FB W (Ej #[Ez uc1,Ex uc2 uc3 uc4,Ez uc5,Ex uc6 uc7 uc8]) (O 2)/\kM O (yh ua3 ub3 uc3 uc3) (yh ua7 ub7 uc7 uc7) 3:=by
 obtain⟨xs,m,_,_,hc,hl,N⟩:=DataW.trod_struct Tryz.underlying45 h;rw[Uh]at hc;have h0:=N 0 _ rfl;have h1:=N 1 _ rfl;have h2:=N 2 _ rfl;have h3:=N 3 _ rfl;have h4:=N 4 _ rfl
 match xs,hl,cs,hc with
 | [x0,x1,x2,x3,x4],_,[c0,c1,c2,c3,c4,c5,c6,c7,c8,c9,c10,c11,c12,c13],_=>
  simp[WC,WD]at h0 h1 h2 h3 h4;obtain⟨be,cg,bh,bt,ci,cZ,f0,M,E⟩:=Zx h0;obtain⟨i1,f1,_,w1⟩:=DataW.trod_int Tryz.underlying2 h1;obtain⟨i2,f2,_,w2⟩:=DataW.trod_int Tryz.underlying2 h2;obtain⟨bf,cx,Z,bl,cn,cy,f3,X,J⟩:=Zx h3;obtain⟨Y,br,bg,bi,cN,ce,f4,I,T⟩:=Zx h4;simp only[List.cons.injEq,and_true]at f0 f1 f2 f3 f4;obtain⟨rfl,rfl,rfl,rfl⟩:=f0;obtain⟨rfl,rfl,rfl,rfl⟩:=f3;obtain⟨rfl,rfl,rfl,rfl⟩:=f4;subst f1 f2;obtain⟨o0,b0,s0⟩:=Kk (gx:=be) (gy:=bh) M E;obtain⟨o1,b1,s1⟩:=Kk (gx:=bf) (gy:=Z) X J;obtain⟨o2,b2,s2⟩:=Kk (gx:=Y) (gy:=bg) I T;obtain⟨_,_,rfl⟩:=M.ak;obtain⟨_,_,rfl⟩:=E.ak;obtain⟨_,_,rfl⟩:=X.ak;obtain⟨_,_,rfl⟩:=J.ak;obtain⟨_,_,rfl⟩:=I.ak;obtain⟨_,_,rfl⟩:=T.ak;refine⟨_,_,_,_,_,_,_,_,_,_,_,_,_,_,_,_,_,_,_,_,_,_,_,_,_,_,yh o0 o1 o2 none,rfl,b0,b1,b2,fun i hi=> ?_⟩
  rcases(show i=0\/i=1\/i=2 by omega)with rfl | rfl | rfl
  . exact s0
  . exact s1
  . exact s2
theorem X3 {T:Reach} {b0:Nat} {v:Ei} {d:DataW H} {p:List MemPlace} (hv:Value.okWide Ed W T b0 45 v) (h:DataW.Trod enc Ed W b9 (fun _=>true) a9 45 v d p) :
  ∃ua1 ua2 ua3 ua4 ua5 ua6 ua7 ua8 ub1 ub2 ub3 ub4 ub5 ub6 ub7 ub8 uc1 uc2 uc3 uc4 uc5 uc6 uc7 uc8 R A,∃O:Nat->Option Rat,v = Ej #[Ez ua1,Ex ua2 ua3 ua4,Ez ua5,Ex ua6 ua7 ua8,Ey Ew R,Ey Ew A,Ez ub1,Ex ub2 ub3 ub4,Ez ub5,Ex ub6 ub7 ub8,Ez uc1,Ex uc2 uc3 uc4,Ez uc5,Ex uc6 uc7 uc8]/\FB W (Ej #[Ez ua1,Ex ua2 ua3 ua4,Ez ua5,Ex ua6 ua7 ua8]) (O 0)/\FB W (Ej #[Ez ub1,Ex ub2 ub3 ub4,Ez ub5,Ex ub6 ub7 ub8]) (O 1)/\FB W (Ej #[Ez uc1,Ex uc2 uc3 uc4,Ez uc5,Ex uc6 uc7 uc8]) (O 2)/\kM O (yh ua3 ub3 uc3 uc3) (yh ua7 ub7 uc7 uc7) 3:=by
 obtain⟨cs,rfl,_⟩:=okWide_struct Tryz.underlying45 hv;obtain⟨E,I⟩:=h;obtain⟨ua1,ua2,ua3,ua4,ua5,ua6,ua7,ua8,ub1,ub2,ub3,ub4,ub5,ub6,ub7,ub8,uc1,uc2,uc3,uc4,uc5,uc6,uc7,uc8,R,A,O,e,h0,N,J,hw⟩:=Ui I;refine⟨ua1,ua2,ua3,ua4,ua5,ua6,ua7,ua8,ub1,ub2,ub3,ub4,ub5,ub6,ub7,ub8,uc1,uc2,uc3,uc4,uc5,uc6,uc7,uc8,R,A,O,?_,h0,N,J,hw⟩;have M:cs.toList = [Ez ua1,Ex ua2 ua3 ua4,Ez ua5,Ex ua6 ua7 ua8,Ey Ew R,Ey Ew A,Ez ub1,Ex ub2 ub3 ub4,Ez ub5,Ex ub6 ub7 ub8,Ez uc1,Ex uc2 uc3 uc4,Ez uc5,Ex uc6 uc7 uc8]:=e;rw[show cs=cs.toList.toArray by simp,M]
end
end Go.Proofs.YtffmbepfbienaaaGreat
/- A range X7 a function whose iterator makes memory, calls and draws between its rounds, and writes no memory that is old; match.near's way. -/
namespace Go.Proofs.YtffmbepfbienaaaGreat
section
open Go.RowKit
variable {b g o:Nat} {v:Ei} {w:Ef}
def Vq {α : Type} (F:Fence) (m:Nat) (P:Program) (gf:Nat) (lb:Array Ei) (encs : α->Array Ei) (Kp:Ef->Ef->Prop) (S:List α->Prop) (El:List α->α->Prop) (Pr:Ef->Prop):Prop:=
 ∀ (l:Nat) (J:List α->Ef->Prop) (A:Ef),Pr A->(∀{xs A B},J xs A->zf A B->J xs B)->
  (∀pre x B,J pre B->El pre x->A.heap.size<=B.heap.size->YieldAt F (m-1) P l (encs x) B fun e C=>e = Eh (Ez true)/\J (pre ++ [x]) C/\Kp B C)->
  J [] A->CallsIn F m P gf (#[.func (.yield l) #[] #[]]++lb) A fun e C=>(∃v,e = Eh v)/\∃xs,S xs/\J xs C
section
variable {α : Type} {P:Program} {F:Fence} {n:Nat}
theorem Kl {g:Operand} {ps:Array Tmp} {assign body:Code} {Q:Exit->Act->Ef->Prop} {a:Act}
  (ci:F.round=none) (h1:1<=n) {gf:Nat} {lb:Array Ei} (hg:a.eval g = .func (.func gf) #[] lb) (dt:F.fn gf) (eg:∀args w,(callFunc gf args).run P w = .ok (.enter gf args) w)
  {encs : α->Array Ei} {Kp:Ef->Ef->Prop} {S:List α->Prop} {El:List α->α->Prop} {Pr:Ef->Prop} (ce:Vq F (n-1) P gf lb encs Kp S El Pr) (cn:∀o o',Pr ((w.alloc o).alloc o')) (cy:∀x,(encs x).size=ps.size)
  (bf:∀{A B C:Ef},Kp A B->Kp B C->Kp A C) (bi:∀ (A:Ef) (o o':Obj),A.heap[w.heap.size+1]? = some o->o.isCells=false->Kp A (A.putObj (w.heap.size+1) o'))
  (I:List α->Ef->Prop) (hI:∀{xs A B},I xs A->zf A B->I xs B) (bg:∀xs A (o o':Obj),I xs A->A.heap[w.heap.size+1]? = some o->o.isCells=false->I xs (A.putObj (w.heap.size+1) o'))
  (h0:I [] w) (Ax : α->Act->Ef->Prop) (dl:∀x X A (o o':Obj),Ax x X A->A.heap[w.heap.size+1]? = some o->o.isCells=false->Ax x X (A.putObj (w.heap.size+1) o'))
  (N:∀ (pre:List α) (x : α) (A:Ef) (K:Act->Ef->Prop),I pre A->El pre x->w.heap.size+2<=A.heap.size->(∀X T,KeepsOthers A T->Kp A T->I pre T->Ax x X T->K X T)->
   assign.wpIn (F.inRound (w.heap.size+1)) (n-1-1) P (Exit.then K (fun _ _ _=>False)) { tmps:=(ps.zip (encs x)).foldl (fun t (p,v)=>t.setIfInBounds p v) a.tmps,defers:= [] } A)
  (bh:∀ (pre:List α) (x : α) (X:Act) (A:Ef),(∃r,A.heap[w.heap.size+1]? = some (.loop r))->I pre A->Ax x X A->El pre x->w.heap.size+2<=A.heap.size->
   body.wpIn (F.inRound (w.heap.size+1)) (n-1-1) P (ownPostG w.heap.size Kp I (fun _ _ _=>False) (pre ++ [x]) A) X A)
  (be:∀ (D:Nat) (xs:List α) (A:Ef),w.heap.size<=D->S xs->I xs A->A.heap[D]? = some (.deferred (some []))->Q .normal { a with defers:={ target:= .collected D,args:=#[] } :: a.defers } A) :
  (Code.rangeFunc g ps assign body).wpIn F n P Q a w:=by
 refine wpIn_rangeFunc fun fn cx=> ?_;rw[ci]
 -- the loop's record in its states
 obtain⟨J,E⟩:∃J:LoopState->Option Code->Loop,∀s p,J s p = { state:=s,pending:=p,fn:=fn,tmps:=a.tmps,params:=ps,assign:=assign,body:=body,defers:=w.heap.size }:=⟨_,fun _ _=>rfl⟩
 let D:=w.heap.size
 let L:=w.heap.size+1
 have hL:L=w.heap.size+1:=rfl
 let Ok:Ef->Prop:=fun A=>A.heap[L]? = some (.loop (J .ready none))/\A.heap[D]? = some (.deferred (some []))
 let W:=(w.alloc (.deferred (some []))).alloc (.loop (J .ready none))
 have dx:W.heap.size=w.heap.size+2:=by simp[W]
 have dy:Ok W:=by
  constructor
  .
   have:=World.alloc_heap_new (w.alloc (.deferred (some []))) (.loop (J .ready none))
   rwa[World.size_alloc]at this
  . exact(Below.heap_alloc _ _ _ (by simp[D])).trans (World.alloc_heap_new w _)
 have Y:∀{A B:Ef},KeepsOthers A B->Ok A->Ok B:=fun k h=>⟨k.same _ _ h.1 rfl,k.same _ _ h.2 rfl⟩;have bl:∀{pre A B},(I pre A/\Ok A)->zf A B->I pre B/\Ok B:=fun h s=>⟨hI h.1 s,Y ⟨s.size,fun k o hk _=>(s.block k (Array.getElem?_eq_some_iff.1 hk).1).trans hk⟩ h.2⟩;refine⟨L,[{ target:= .collected D,args:=#[] }],W,{ target:= .fn (.func gf) lb,args:=#[.func (.yield L) #[] #[]] },W,gf,#[.func (.yield L) #[] #[]]++lb,W,?_,?_,?_,?_,fun _=>h1,?_⟩
 .
  show _=Result.ok _ ((w.alloc _).alloc (.loop (J .ready none)))
  rw[E]; exact run_enterLoop_outer _ _ _ _ _
 . simp only[resolve,hg]; simp[go_sem]
 . intro f' br; simp[Target.leads]at br; subst br; exact dt
 . simp[invoke,go_sem,eg]
 have s0:zf w W:=((Below.refl _ _).alloc (Ep _) _).alloc E6 _;refine(ce L (fun pre A=>I pre A/\Ok A) W (cn _ _) bl ?_ ⟨hI h0 s0,dy⟩).mono ?_
 .
  rintro pre x B ⟨hi,hb⟩ Z bt;rw[dx]at bt;have hy:=run_yield (P:=P) (args:=encs x) hb.1 (by rw[E]; exact cy x);rw[E]at hy;refine⟨fn,_,assign,body,hy,roundIn_of_wpIn cx (N pre x B _ hi Z bt fun X T ko kp cN dc=> ?_)⟩;have M:=Y ko hb;have dk:L<T.heap.size:=(Array.getElem?_eq_some_iff.1 M.1).1;refine⟨_,run_beginRound M.1 (by rw[E]),?_⟩;generalize hbusy : { J .ready none with state:=LoopState.busy } = busy;have e2:(T.putObj L (.loop busy)).heap[L]? = some (.loop busy):=World.putObj_heap_same dk;have e3:(T.putObj L (.loop busy)).heap[D]? = some (.deferred (some [])):=(World.putObj_heap_other (show D≠L by omega)).trans M.2;refine wpIn_mono (bh pre x X _ ⟨_,e2⟩ (bg _ _ _ _ cN M.1 rfl) (dl _ _ _ _ _ dc M.1 rfl) Z (by have h3:=ko.size; have h4:=(grownBy_putObj' T L (.loop busy)).size; omega)) ?_;rintro e a3 C hp
  cases e with
  | normal=>
   obtain⟨k3,cg,i3⟩:=hp;have e4:C.heap[L]? = some (.loop busy):=k3.same _ _ (show w.heap.size<=L by omega) e2 rfl;have e5:C.heap[D]? = some (.deferred (some [])):=k3.same _ _ (Ep _) e3 rfl;have cZ:L<C.heap.size:=(Array.getElem?_eq_some_iff.1 e4).1;have hr:=run_endRound (P:=P) none e4;have d9 : { busy with state:=if(none:Option Code).isNone then LoopState.ready else .done,pending:=none } = J .ready none:=by rw[<- hbusy,E]; rfl
   rw[d9]at hr;exact⟨_,_,hr,rfl,⟨bg _ _ _ _ i3 e4 rfl,World.putObj_heap_same cZ,(World.putObj_heap_other (show D≠L by omega)).trans e5⟩,bf kp (bf (bf (bi _ _ _ M.1 rfl) cg) (bi _ _ _ e4 rfl))⟩
  | ret=>exact hp.2.elim
  | exit id=>exact hp.2.elim
  | goto t=>exact hp.2.elim
  | panic ch=>exact hp.elim
  | outgrown=>exact hp.elim
 .
  rintro e C ⟨⟨v,rfl⟩,xs,hS,hi,hc⟩;have hr:=run_endLoop (P:=P) hc.1 (by rw[E]; simp);rw[show (J LoopState.ready none).pending=none by rw[E]]at hr;exact⟨none,_,hr,be D xs _ (Ep _) hS (bg _ _ _ _ hi hc.1 rfl) ((World.putObj_heap_other (show D≠L by omega)).trans hc.2)⟩
end
theorem WE (h:w.cell? ⟨b,o,none⟩=some v):∃cs t z,w.heap[b]? = some (.cells cs t z):=by
 unfold World.cell? at h
 split at h
 . exact⟨_,_,_,by assumption⟩
 . cases h
def dz (w:Ef) (g:Nat):Prop:=∃x,ai w g 123 #[Ek x]
structure KG (g:Nat) (A B:Ef):Prop where
 size:A.heap.size<=B.heap.size
 af:av A B
 cells:∀k cs t z,k≠g->A.heap[k]? = some (.cells cs t z)->B.heap[k]? = A.heap[k]?
 pp:dz A g->dz B g
theorem KG.refl (g:Nat) (A:Ef):KG g A A:=⟨Ep _,av.refl _,fun _ _ _ _ _ _=>rfl,id⟩
theorem KG.trans {A B C:Ef} (h:KG g A B) (k:KG g B C):KG g A C:=
 ⟨Nat.le_trans h.size k.size,h.af.trans k.af,fun i cs t z E e=>(k.cells i cs t z E ((h.cells i cs t z E e).trans e)).trans (h.cells i cs t z E e),k.pp∘h.pp⟩
theorem KG.ae {A B:Ef} (s:zf A B):KG g A B:=
 ⟨s.size,av.ae s,fun k cs t z _ e=>s.block k (Array.getElem?_eq_some_iff.1 e).1,fun⟨x,h⟩=>⟨x,h.ae s⟩⟩
theorem KG.put {l:Nat} {A:Ef} {o E:Obj} (h:A.heap[l]? = some o) (hc:o.isCells=false):KG g A (A.putObj l E):=
 ⟨(grownBy_putObj' A l E).size,fun v N I=>j_ I (grownBy_putObj' A l E) (fun r e=>by cases e; exact⟨o,h,hc⟩),
  fun k cs t z _ e=>World.putObj_heap_other (fun M=>by subst M; rw[h]at e; cases e; cases hc),fun⟨x,J⟩=>⟨x,z' J (grownBy_putObj' A l E) (fun r e=>by cases e; exact⟨o,h,hc⟩)⟩⟩
theorem KG.bI {k:Nat} {A B:Ef} {t:Em} {cs:Array Ei} (h:KG g A B) (E:ai A k t cs) (I:k≠g):ai B k t cs:=(h.cells k cs t (0,0) I E).trans E
theorem dz.not (h:dz w g) (hc:w.cell? ⟨g,o,none⟩=some v):o=0/\∃x,v = Ek x:=by
 obtain⟨x,E⟩:=h;have c:=E.cell o;rw[hc]at c
 cases o with
 | zero=>simp at c; exact⟨rfl,x,c⟩
 | succ o=>simp at c
theorem KG.cell {A B:Ef} (h:KG g A B) (E:b≠g) (hc:A.cell? ⟨b,o,none⟩=some v):B.cell? ⟨b,o,none⟩=some v:=by
 obtain⟨cs,t,z,e⟩:=WE hc;have:=h.cells b cs t z E e;unfold World.cell? at hc|-;rw[this]; exact hc
theorem dO.kg {A B:Ef} {n:Nat} {M:Nat->Array Ei} {R:Nat->Nat->Option Rat} (h:dO A v n M R) (X:dz A g) (k:KG g A B):dO B v n M R:=by
 obtain⟨E,ao,cap,e,hc,Y⟩:=h;refine⟨fun t ht=>(E t ht).af k.af,ao,cap,e,hc,fun J=> ?_⟩;obtain⟨b,o,T,Z,N⟩:=Y J
 have hg:b≠g:=by
  rintro rfl;have I:=(E 0 J).1;have c:=N 0 J 5 D6;rw[Array.getElem?_eq_getElem D6]at c;have:=(X.not c).1;omega
 refine⟨b,o,T,Nat.lt_of_lt_of_le Z k.size,fun t ht j hj=> ?_⟩;have I:=(E t ht).1;have c:=N t ht j hj;rw[Array.getElem?_eq_getElem D6]at c|-;exact k.cell hg c
theorem aF.kg {A B:Ef} {l:List Int} (h:aF A v l) (M:dz A g) (k:KG g A B):aF B v l:=by
 obtain⟨ao,cap,e,hc,T⟩:=h;refine⟨ao,cap,e,hc,fun I=> ?_⟩;obtain⟨b,o,J,X,E⟩:=T I
 have hg:b≠g:=by
  rintro rfl;obtain⟨_,x,N⟩:=M.not (E 0 (List.length_pos_iff.2 I))
  cases N
 exact⟨b,o,J,Nat.lt_of_lt_of_le X k.size,fun t ht=>k.cell hg (E t ht)⟩
def fN (R:Nat->Nat->Option Rat) (q:Nat->Option Rat) (off:Rat):Nat->List Nat
 | 0=> []
 | t+1=>if qP (rq (R t)) (rq q) off 4 then fN R q off t ++ [t]else fN R q off t
theorem WF (R:Nat->Nat->Option Rat) (q:Nat->Option Rat) (off:Rat):∀n,jo R q off n=(fN R q off n).map (fun t:Nat=>(t:Int)):=by
 intro n
 induction n with
 | zero=>rfl
 | succ n ih=>
  show (if _ then _ else _)=List.map _ (if _ then _ else _)
  split
  . rw[ih,List.map_append]; rfl
  . exact ih
theorem G6 (R:Nat->Nat->Option Rat) (q:Nat->Option Rat) (off:Rat):∀n,∀t∈fN R q off n,t<n:=by
 intro n
 induction n with
 | zero=>intro t h; cases h
 | succ n ih=>
  intro t h
  have:t∈fN R q off n\/t=n:=by
   unfold fN at h
   split at h
   .
    rcases List.mem_append.1 h with h | h
    . exact .inl h
    . exact .inr (List.mem_singleton.1 h)
   . exact .inl h
  rcases this with h | rfl
  . exact Nat.lt_succ_of_lt (ih t h)
  . exact Nat.lt_succ_self _
theorem Bo (R:Nat->Nat->Option Rat) (q:Nat->Option Rat) (off:Rat) (n:Nat):(fN R q off n).length<=n:=by
 have:=Zr R q off n;rw[WF,List.length_map]at this; exact this
def kv (F:Nat->List Nat):Nat->List (Nat×Nat)
 | 0=> []
 | i+1=>kv F i++(F i).map (fun k=>(i,k))
def Vr (CA CB:Nat->Array Ei) (x:Nat×Nat):Array Ei:=#[Ej (CA x.1),Ej (CB x.2)]
end
section
open Go.RowKit Go.Shelf
attribute [local go_sem] Oper.semAt_some
structure cI (B0 B1 B2 g na nb:Nat) (ao bo:Option Addr) (ca cb:Nat) (CA CB:Nat->Array Ei) (RA RB:Nat->Nat->Option Rat) (FT:Array Ei) (o:Option Rat) (A:Ef):Prop where
 o0:ai A B0 76 #[Ex ao na ca]
 o1:ai A B1 76 #[Ex bo nb cb]
 o2:ai A B2 28 FT
 qa:dO A (Ex ao na ca) na CA RA
 qb:dO A (Ex bo nb cb) nb CB RB
 fb:FB A (Ej FT) o
 pp:dz A g
section
variable {B0 B1 B2 g na nb:Nat} {ao bo:Option Addr} {ca cb:Nat} {CA CB:Nat->Array Ei} {RA RB:Nat->Nat->Option Rat} {FT:Array Ei} {o:Option Rat} {A B:Ef}
theorem cI.kg (h:cI B0 B1 B2 g na nb ao bo ca cb CA CB RA RB FT o A) (k:KG g A B) (h0:B0≠g) (I:B1≠g) (E:B2≠g):cI B0 B1 B2 g na nb ao bo ca cb CA CB RA RB FT o B:=
 ⟨k.bI h.o0 h0,k.bI h.o1 I,k.bI h.o2 E,h.qa.kg h.pp k,h.qb.kg h.pp k,h.fb.af k.af,k.pp h.pp⟩
theorem cI.ae (h:cI B0 B1 B2 g na nb ao bo ca cb CA CB RA RB FT o A) (s:zf A B):cI B0 B1 B2 g na nb ao bo ca cb CA CB RA RB FT o B:=
 ⟨h.o0.ae s,h.o1.ae s,h.o2.ae s,h.qa.ae s,h.qb.ae s,h.fb.af (av.ae s),(KG.ae s).pp h.pp⟩
end
theorem Jl (w:Ef) (m:Nat):zf w (w.drewN m):=yS (Below.refl _ _) m
theorem WG (F:Fence) (n:Nat) (h5:F.fn 72) (E:F.round=none) (ao bo:Option Addr) (a1 a2 b1 b2:Nat) (Y X:Bool) (Z J:Option Addr) (N M T I:Nat) (w:Ef) :
  CallsIn F n Ed 72 #[Ex ao a1 a2,Ex bo b1 b2,Ej #[Ez Y,Ex Z N M,Ez X,Ex J T I]] w fun e w'=>e = Eh (.func (.func 109) #[] #[Ek (some ⟨w.heap.size,0,none⟩),Ek (some ⟨w.heap.size+1,0,none⟩),Ek (some ⟨w.heap.size+1+1,0,none⟩)])/\
   w'=((w.alloc (.cells #[Ex ao a1 a2] 76)).alloc (.cells #[Ex bo b1 b2] 76)).alloc (.cells #[Ez Y,Ex Z N M,Ez X,Ex J T I] 28):=by
 refine callsIn_of_wp Tryz.func72 rfl h5 ?_ E;simp only[Tryz.ntmps72,List.size_toArray,List.length_cons,List.length_nil,Nat.reduceAdd,Nat.reduceSub,Array.replicate_succ,Array.replicate_zero,List.push_toArray,List.append_toArray,List.nil_append,List.cons_append]
 gi_wp2
 go_ret
 exact⟨rfl,rfl⟩
theorem Km (m B0 B1 B2 g na nb:Nat) (ao bo:Option Addr) (ca cb:Nat) (CA CB:Nat->Array Ei) (RA RB:Nat->Nat->Option Rat) (t1 t5:Bool) (t2 t6:Option Addr) (t3 t4 t7 t8:Nat) (o:Option Rat) (F:Nat->List Nat)
  (n0:B0≠g) (n1:B1≠g) (n2:B2≠g) (ln:nb<=1000) (la:na<=1000) (hF:∀i,i<na->(ZH nb RB (RA i) o).1=(F i).map (fun t:Nat=>(t:Int))) (bf:∀i,i<na->∀t∈F i,t<nb) (em:∀i,i<na->(F i).length<=1000)
  (sR:∀t,t<nb->∀i,i<4->sz (rq (RB t) i) 500) (sA:∀t,t<na->∀i,i<4->sz (rq (RA t) i) 500) (sf:sz (rq (fun _=>o) 0) 500) :
  Vq Fence.wide m Ed 109 #[Ek (some ⟨B0,0,none⟩),Ek (some ⟨B1,0,none⟩),Ek (some ⟨B2,0,none⟩)] (Vr CA CB) (KG g) (fun xs=>xs=kv F na) (fun _ x=>x.1<na/\x.2<nb)
   (cI B0 B1 B2 g na nb ao bo ca cb CA CB RA RB #[Ez t1,Ex t2 t3 t4,Ez t5,Ex t6 t7 t8] o):=by
 intro l J W0 Y hC hY h0;have eS:Fence.wide.round=none:=rfl;have HC:Hid (∀{xs A B},J xs A->zf A B->J xs B):=E7 hC;have HY:=E7 hY;have HF:=E7 hF;have HL:=E7 bf;have HN:=E7 Y;have H0:=E7 h0;have HZ:=E7 (E8 sR (E8 sA sf));have c0:W0.cell? ⟨B0,0,none⟩=some (Ex ao na ca):=Y.o0.c 0 rfl;clear hC hY hF bf Y h0 sR sA sf;refine callsIn_of_wp Tryz.func109 rfl trivial ?_ eS;simp only[Tryz.ntmps109,List.size_toArray,List.length_cons,List.length_nil,Nat.reduceAdd,Nat.reduceSub,Array.replicate_succ,Array.replicate_zero,List.push_toArray,List.append_toArray,List.nil_append,List.cons_append]
 gi_wp2_with fail
 clear c0
 gi_loopw [13] (fun k wr=>∃i:Nat,i<=na/\k = Ey Ew (i:Nat)/\J (kv F i) wr/\cI B0 B1 B2 g na nb ao bo ca cb CA CB RA RB #[Ez t1,Ex t2 t3 t4,Ez t5,Ex t6 t7 t8] o wr/\W0.heap.size<=wr.heap.size) (fun k _=>na-(intOf k).toNat)
 case atStart=>exact⟨0,Nat.zero_le _,rfl,H0.out,HN.out,Ep _⟩
 case round=>
  rename Ef=>wo;clear HN H0;obtain⟨i,hi,rfl,I,hb,br⟩:=hrel
  rcases Nat.lt_or_ge i na with il | il
  .
   have bf:decide ((i:Int)<(na:Int))=true:=E' D6;have HB:=E7 hb;have HJ:=E7 I;have pg:wo.heap.size≠g:=by obtain⟨x,hx⟩:=hb.pp; have:=hx.lt; omega
   obtain⟨ba,oa,rfl,ed,E⟩:=hb.qa.at il;have qx:=hb.qa.1 i il;obtain⟨C,cZ⟩:∃C,CA i=C:=⟨_,rfl⟩;rw[cZ]at E qx;have bi:=qx.1;have bh:=qx.2.1;have be:∀j,j<C.size->wo.cell? ⟨ba,oa+i*20+j,none⟩=C[j]? :=fun j I=>E j D6;have ic:(Tryz.prog.info? 83).map (·.size)=some C.size:=by rw[bi]; kernel_rfl
   have HX:=E7 qx;clear hb I E qx
   gi_upto_region 2 with fail
   refine wpIn_wide.2 (wp_region_lit ?_)
   repeat' (first | ((with_reducible show wpList _ _ _ (⟨some 16,_,_,_,_,_⟩::_) _ _); refine kK rfl 83 (.tmp 15) rfl ba (oa+i*20) rfl C _ be Tryz.underlying83 rfl ic ?_) | ((with_reducible show wpList _ _ _ (⟨none,.store _ _ _,_,_,_,_⟩::_) _ _); refine zL rfl 83 (.tmp 6) (.tmp 16) rfl wo.heap.size C rfl rfl 83 Zz zC ic bi.symm bh (fun w5 r5=> ?_)) | go_values | go_skip | go_guarded | go_step | go_upon)
   have Z:zf wo w5:=r5.below ((Below.refl wo.heap.size wo).alloc (Ep _) _) (Ep _);have oq:=r5.bI;have N:=HB.out.ae Z;have dt:=HC.out HJ.out Z;have cf:=Cw w5 N.qb ln (HX.out.ae Z) N.fb HZ.out.1 (HZ.out.2.1 i il) HZ.out.2.2;rw[HF.out i il]at cf;have bg:W0.heap.size<=w5.heap.size:=Nat.le_trans br Z.size;have dx:=E7 N;have ec:=E7 dt;have c1:w5.cell? ⟨B1,0,none⟩=some (Ex bo nb cb):=N.o1.c 0 rfl;have d0:w5.cell? ⟨B2,0,none⟩=some (Ez t1):=N.o2.c 0 rfl;have d1:w5.cell? ⟨B2,1,none⟩=some (Ex t2 t3 t4):=N.o2.c 1 rfl;have d2:w5.cell? ⟨B2,2,none⟩=some (Ez t5):=N.o2.c 2 rfl;have d3:w5.cell? ⟨B2,3,none⟩=some (Ex t6 t7 t8):=N.o2.c 3 rfl;have cg:=E7 (HL.out i il);have fl:=em i il;have HE:Hid (kv F (i+1)=kv F i++(F i).map (fun k=>(i,k))):=E7 rfl;obtain⟨M,dy⟩:∃M,F i=M:=⟨_,rfl⟩;rw[dy]at cf HE cg fl;obtain⟨er,dc⟩:∃er,(ZH nb RB (RA i) o).2=er:=⟨_,rfl⟩;rw[dc]at cf;clear dy dc N dt Z r5 be bh HB HJ HF HX ed br
   gi_upto_region 3 with fail
   refine wpIn_wide.2 (wp_region_lit ?_)
   repeat' (first | ((with_reducible show wpList _ _ _ (⟨some 19,_,_,_,_,_⟩::_) _ _); refine Xt rfl 83 (.tmp 6) rfl wo.heap.size rfl 83 C _ oq Tryz.underlying83 rfl ic ?_) | go_values | go_skip | go_guarded | go_step | go_upon)
   refine cf.mono ?_;rintro e w6 ⟨u,rfl,hu,X⟩;have cn:=oq.ae X;have cN:=dx.out.ae X;have ci:=HC.out ec.out X;have bl:W0.heap.size<=w6.heap.size:=Nat.le_trans bg X.size;have bt:(M.map (fun t:Nat=>(t:Int))).length=M.length:=List.length_map _;obtain⟨uo,uc,rfl⟩:=hu.ak;rw[bt]at hu;rw[bt];have H6:=E7 (E8 cN (E8 ci (E8 cn (E8 hu bl))));generalize wo.heap.size=pq at *;clear c1 d0 d1 d2 d3 cf oq dx ec cN ci cn hu bg bl X bt;dsimp only
   repeat' (first | go_values | go_skip | go_guarded | go_step | go_upon)
   gi_wp2_with fail
   gi_loopw [26] (fun k wr=>∃j:Nat,j<=M.length/\k = Ey Ew (j:Nat)/\J (kv F i++(M.take j).map (fun k=>(i,k))) wr/\cI B0 B1 B2 g na nb (some ⟨ba,oa,none⟩) bo ca cb CA CB RA RB #[Ez t1,Ex t2 t3 t4,Ez t5,Ex t6 t7 t8] o wr/\ai wr pq 83 C/\aF wr (Ex uo M.length uc) (M.map (fun t:Nat=>(t:Int)))/\W0.heap.size<=wr.heap.size) (fun k _=>M.length-(intOf k).toNat)
   case atStart=>exact⟨0,Nat.zero_le _,rfl,by rw[List.take_zero,List.map_nil,List.append_nil]; exact H6.out.2.1,H6.out.1,H6.out.2.2.1,H6.out.2.2.2.1,H6.out.2.2.2.2⟩
   case round=>
    rename Ef=>wi;clear H6;obtain⟨j,I,rfl,hJ,hB,oq,hu,hs⟩:=hrel
    rcases Nat.lt_or_ge j M.length with jl | jl
    .
     have dP:decide ((j:Int)<(M.length:Int))=true:=E' D6;obtain⟨k,hk⟩:∃k,M[j]=k:=⟨_,rfl⟩;have kn:k<nb:=cg.out k (hk▸List.getElem_mem jl);have HT:Hid (M.take (j+1)=M.take j ++ [k]):=E7 (by rw[List.take_add_one,List.getElem?_eq_getElem jl,hk]; rfl);obtain⟨ub,uf,rfl,eM,eW⟩:=hu.eX (t:=j) (by rw[List.length_map]; exact jl)
     have eg:(M.map (fun t:Nat=>(t:Int))).getD j 0=(k:Int):=by
      rw[List.getD_eq_getElem?_getD,List.getElem?_map,List.getElem?_eq_getElem jl,hk]; rfl
     rw[eg]at eW;obtain⟨bb,ob,rfl,f9,E⟩:=hB.qb.at kn;have qx:=hB.qb.1 k kn;obtain⟨D_,d9⟩:∃C,CB k=C:=⟨_,rfl⟩;rw[d9]at E qx;have ce:=qx.1;have be:∀j,j<D_.size->wi.cell? ⟨bb,ob+k*20+j,none⟩=D_[j]? :=fun j I=>E j D6;have f8:(Tryz.prog.info? 83).map (·.size)=some D_.size:=by rw[ce]; kernel_rfl
     have c1:wi.cell? ⟨B1,0,none⟩=some (Ex (some ⟨bb,ob,none⟩) nb cb):=hB.o1.c 0 rfl;have fe:decide ((k:Int)<(nb:Int))=true:=E' D6;have HI:=E7 (E8 hJ (E8 hB (E8 oq (E8 hu hs))));have fd:=E7 hk;clear hJ hB hu hs E qx eM f9 eg hk
     gi_wp2_with fail
     refine aR.bL (fun D _ W'=>D 6=false->∃m,W'=wi.drewN m) (aj.inl [6]) (aj.gv [(6,fun x=>x = Ez true)])
      (gw [(6,fun x W'=>x = Ez true/\J (kv F i++(M.take j).map (fun k=>(i,k)) ++ [(i,k)]) W'/\KG g wi W')]) (fun _=>aj.Any) (fun _ _=>False) (aj.pl [(8,[(6,some 36)])]) (aj.pl [(1,[6]),(2,[6]),(5,[6])])
      D7 D7 D7 (aj.aY _ (by intro p hp; simp only[List.mem_cons,List.not_mem_nil,or_false]at hp; rcases hp with rfl; exact⟨_,rfl⟩)) (fun _ _=>⟨1,rfl⟩) (fun _ _ _ _ _ h=>h)
      (fun D v k j W W' x f7 I hk _ _ _=>absurd ((by simpa[aj.inl]using I:j=6).trans (by simpa[aj.inl]using hk:k=6).symm) f7) (fun _ _ _ _ h=>h.elim) (fun cy Q' T hQ=> ?_)
     refine aR.RY T _ ?_;apply aR.bD (hc:=rfl) (hst:=rfl) (hw:=rfl) (t:=31) (hd:=rfl) (ht:=Ec rfl)
     .
      intro D v' W' hc I hf K hK;obtain⟨m',rfl⟩:=I (hc.2 6 D8);refine wp_load_row 83 (.tmp 6) rfl pq rfl 83 C (0,0) _ (oq.drewN m') Tryz.underlying83 rfl ic ?_;exact hK.out
     . rfl
     refine aR.aB (b:=⟨#[_,_,_,_,_,_,_,_,_,_,_,_,_,_,_,_,_,_,_,_,_,_,_,_,_,_,_,_,_,_,_,_,_,_,_,_,_,_,_,_],_⟩) rfl ?_;apply aR.bD (hc:=rfl) (hst:=rfl) (hw:=rfl) (t:=32) (hd:=rfl) (ht:=Ec rfl)
     .
      intro D v' W' hc I hf K hK;obtain⟨m',rfl⟩:=I (hc.2 6 D8);have ft:(wi.drewN m').cell? ⟨B1,0,none⟩=some (Ex (some ⟨bb,ob,none⟩) nb cb):=c1;go_step;exact hK.out
     . rfl
     repeat refine aR.RY T _ ?_
     apply aR.bD (hc:=rfl) (hst:=rfl) (hw:=rfl) (t:=35) (hd:=rfl) (ht:=Ec rfl)
     .
      intro D v' W' hc I hf K hK;obtain⟨m',rfl⟩:=I (hc.2 6 D8);refine YB 83 (.tmp 34) rfl bb (ob+k*20) rfl D_ _ (fun j I=>be j I) Tryz.underlying83 rfl f8 ?_;exact hK.out
     . rfl
     refine aR.aB (b:=⟨#[_,_,_,_,_,_,_,_,_,_,_,_,_,_,_,_,_,_,_,_,_,_,_,_,_,_,_,_,_,_,_,_,_,_,_,_,_,_,_,_],_⟩) rfl ?_;refine aR.aC (n:=m) rfl (by intro t ht; cases ht; exact Ec rfl) (by rw[T]; rfl) (fun D v' W' hc I hf K hK=> ?_) ?_
     .
      obtain⟨m',rfl⟩:=I hc.1;have sd:=Jl wi m';obtain⟨fn,tmps,assign,body,hy,hR⟩:=HY.out _ (i,k) (wi.drewN m') (HC.out HI.out.1 sd) ⟨il,kn⟩ (Nat.le_trans HI.out.2.2.2.2 sd.size);unfold Vr at hy;dsimp only at hy;rw[cZ,d9]at hy;unfold Oper.wpIn;refine⟨fun _ _=>trivial,?_⟩;rw[show Oper.semAt Fence.wide.round _ _=execOp _ _ from rfl];have dl:∀x y,x=Sem.run Ed (Instr.yield l #[Ej C,Ej D_]) (wi.drewN m')->y=x->y = .ok (.round l fn tmps assign body) (wi.drewN m'):=fun x y e1 e2=>by rw[e2,e1]; exact hy
      rw[dl _ (Sem.run _ _ _) rfl (by simp[execOp,go_sem,Act.eval]),Oper.uponIn_round];refine⟨fun h=>(by cases h),ju (hR.mono ?_)⟩;rintro e W3 ⟨rfl,ek,ey⟩;exact hK.out _ _ aj.any (fun h=>by cases h) ⟨rfl,ek,(KG.ae sd).trans ey⟩ rfl
     rintro _ rfl;refine aR.aB (b:=⟨#[_,_,_,_,_,_,_,_,_,_,_,_,_,_,_,_,_,_,_,_,_,_,_,_,_,_,_,_,_,_,_,_,_,_,_,_,_,_,_,_],_⟩) rfl ?_;refine aR.RY T _ ?_;refine aR.aE (fun Dn v' W4 hd I hf=> ?_);have hg:=(hf (6,some 36) (.head _) rfl).2.2;clear hd hf I;obtain⟨dk,cx⟩:J (kv F i++(M.take j).map (fun k=>(i,k)) ++ [(i,k)]) W4/\KG g wi W4:=hg.2;clear hg;refine hQ _ _ ?_;clear hQ T Q' cy;have HG:=E7 (E8 dk cx);clear dk cx
     gi_wp2
     go_roundw
     case rel=>
      refine⟨j+1,by omega,by go_num,?_,HI.out.2.1.kg HG.out.2 n0 n1 n2,HG.out.2.bI HI.out.2.2.1 pg,HI.out.2.2.2.1.kg HI.out.2.1.pp HG.out.2,Nat.le_trans HI.out.2.2.2.2 HG.out.2.size⟩;rw[HT.out,List.map_append,<- List.append_assoc];exact HG.out.1
     case measure=>simp[intOf]; omega
    .
     obtain rfl:j=M.length:=D6
     have dP:decide ((M.length:Int)<(M.length:Int))=false:=Ea D6;rw[List.take_length,<- HE.out]at hJ;have HJ:=E7 (E8 hJ (E8 hB hs));clear hJ hB oq hu hs
     gi_wp2_with fail
     go_roundw
     case rel=>exact⟨i+1,by omega,by go_num,HJ.out.1,HJ.out.2.1,HJ.out.2.2⟩
     case measure=>simp[intOf]; omega
  .
   obtain rfl:i=na:=D6
   have bf:decide ((i:Int)<(i:Int))=false:=Ea D6;have HJ:=E7 I;clear I hb br
   gi_wp2_with fail
   go_end0
   exact⟨⟨_,rfl⟩,_,rfl,HJ.out⟩
end
end Go.Proofs.YtffmbepfbienaaaGreat
/- MatchSearches without the program: the xE of the candidates, in the order in which they come. -/
namespace Go.Proofs.YtffmbepfbienaaaGreat
section
open Go.RowKit
variable {x y:Nat×Nat} {o:Nat×Nat->Rat} {e:Option (Nat×Nat)} {l:PL}
theorem Ko:∀p∈bP,p.1<4/\p.2.1<4/\p.2.2.1<4/\p.2.2.2<4:=by decide
theorem WK {xs:List P4} {A:aU} (h:A∈qs l xs):∃x∈xs,0<jp l (K4 x)/\A=yt l (K4 x):=by
 unfold qs at h;obtain⟨x,E,e⟩:=List.mem_filterMap.1 h
 by_cases g:0<jp l (K4 x)
 . rw[E9 g]at e; cases e; exact⟨x,E,g,rfl⟩
 . rw[E_ g]at e; cases e
structure eo (l:PL) (A:aU):Prop where
 ex:∃j0 j1 j2 j3:Nat,A.k0=j0/\A.k1=j1/\A.k2=j2/\A.k3=j3/\j0<l.length/\j1<l.length/\j2<l.length/\j3<l.length/\j5 ((pt l j1).1-(pt l j0).1) ((pt l j1).2-(pt l j0).2)≠0
theorem CR {n:Nat} (I:n<=l.length) (N:n<=6) {A:aU} (h:A∈qs l (yr n)):eo l A:=by
 obtain⟨x,M,hw,rfl⟩:=WK h;obtain⟨X,Z,Y,T⟩:=Zo ((WJ n N).2 x M);obtain⟨p,J,e⟩:=UT hw;have I:=(qO l _ hw).2.1
 have E:∀i,i<4->K4 x i<l.length:=fun i hi=>by
  rcases(show i=0\/i=1\/i=2\/i=3 by omega)with rfl | rfl | rfl | rfl
  . show x.1<_; omega
  . show x.2.1<_; omega
  . show x.2.2.1<_; omega
  . show x.2.2.2<_; omega
 obtain⟨p0,p1,p2,p3⟩:=Ko p J;rw[e]at I|-;rw[Gh]at I;refine⟨K4 x p.1,K4 x p.2.1,K4 x p.2.2.1,K4 x p.2.2.2,rfl,rfl,rfl,rfl,E _ p0,E _ p1,E _ p2,E _ p3,?_⟩;unfold dst Xr at I;omega
def tX (l m:PL) (a b:List aU) (x:Nat×Nat):Nat->Rat:=
 v_ (pt l (a.getD x.1 zH).k0.toNat) (pt l (a.getD x.1 zH).k1.toNat) (pt m (b.getD x.2 zH).k0.toNat) (pt m (b.getD x.2 zH).k1.toNat)
def pX (l m:PL) (a b:List aU) (E:Int) (x:Nat×Nat):List Int:=yy (tX l m a b x) (E:Rat) l m l.length
def oX (l m:PL) (a b:List aU) (E:Int) (I s:Rat) (x:Nat×Nat):Rat:=
 xu I s (pX l m a b E x) (ZQ (a.getD x.1 zH).k0 (a.getD x.1 zH).k1 (a.getD x.1 zH).k2 (a.getD x.1 zH).k3) l.length
def kC (o:Nat×Nat->Rat):Option (Nat×Nat)->Nat×Nat->Option (Nat×Nat)
 | none,x=>some x
 | some y,x=>if o y<o x then some x else some y
def jL (o:Nat×Nat->Rat) (xs:List (Nat×Nat)):Option (Nat×Nat):=xs.foldl (kC o) none
theorem YQ (o:Nat×Nat->Rat) (xs:List (Nat×Nat)) (x:Nat×Nat):jL o (xs ++ [x])=kC o (jL o xs) x:=by unfold jL; rw[List.foldl_append]; rfl
theorem X4 (h:e=none):kC o e x=some x:=by subst h; rfl
theorem Kq (h:e=some y) (g:0<z9 (o x) (o y)):kC o e x=some x:=by
 subst h;have:¬z9 (o x) (o y)<0:=D6
 have I:¬o x<o y:=fun h=>this (bj.2 h);have E:o x≠o y:=fun h=>by have:=ZV.2 h; omega
 exact E9 (Rat.lt_of_le_of_ne (Rat.not_lt.1 I) (Ne.symm E))
theorem Ul (h:e=some y) (g:z9 (o x) (o y)<=0):kC o e x=e:=by
 subst h;refine E_ fun h=> ?_
 rcases Int.lt_or_eq_of_le g with g | g
 . exact Rat.not_lt.2 (Rat.le_of_lt (bj.1 g)) h
 .
  have e:=ZV.1 g;rw[e]at h;exact Rat.lt_irrefl h
theorem XA {xs:List (Nat×Nat)} (h:jL o xs=some y):y∈xs:=by
 have:∀ (xs:List (Nat×Nat)) (e:Option (Nat×Nat)) (y:Nat×Nat),xs.foldl (kC o) e=some y->y∈xs\/e=some y:=by
  intro xs
  induction xs with
  | nil=>intro e y h; exact .inr h
  | cons x xs ih=>
   intro e y h
   rcases ih _ _ h with h | h
   . exact .inl (.tail _ h)
   .
    cases e with
    | none=>cases h; exact .inl (.head _)
    | some z=>
     rw[show kC o (some z) x=if o z<o x then some x else some z from rfl]at h
     split at h
     . cases h; exact .inl (.head _)
     . exact .inr h
 rcases this xs none y h with h | h
 . exact h
 . cases h
theorem CU (k0 k1 k2 k3 i:Int):qp [k0,k1,k2,k3] i 4=((i==k0)||(i==k1)||(i==k2)||(i==k3)):=by
 unfold qp; unfold qp; unfold qp; unfold qp; unfold qp;rw[Bool.false_or]; rfl
theorem WM (k0 k1 k2 k3:Int):(fun i:Nat=>qp [k0,k1,k2,k3] (i:Int) [k0,k1,k2,k3].length)=ZQ k0 k1 k2 k3:=by
 funext i
 exact CU k0 k1 k2 k3 i
theorem WN (l m:PL) (a b:List aU) (E:Int) (x:Nat×Nat):(pX l m a b E x).length=l.length:=qg _ _ _ _ _
def ZJ (a b:List aU) (off:Rat):List (Nat×Nat):=
 kv (fun i=>fN (fun t j=>some (rA (b.getD t zH) j)) (fun j=>some (rA (a.getD i zH) j)) off b.length) a.length
def qj (ok:Bool) (l m:PL) (most R A:Int) (off s least:Rat):Int×Option (Nat×Nat):=
 if ok=false then(8,none)else if zP l≠0 then(zP l,none)else if zP m≠0 then(zP m,none)else if most<0\/12<most\/¬zF R A m.length<1 then(2,none)else
  match jL (oX l m (zO l most).2 (zO m most).2 R (yU s (zF R A m.length)) s) (ZJ (zO l most).2 (zO m most).2 off)with
  | none=>(6,none)
  | some x=>if oX l m (zO l most).2 (zO m most).2 R (yU s (zF R A m.length)) s x<least then(6,none)else(0,some x)
abbrev xW:Array Ei:=#[Ez false,Ex none 0 0,Ez false,Ex none 0 0,Ez false,Ex none 0 0,Ez false,Ex none 0 0,Ez false,Ex none 0 0,Ez false,Ex none 0 0,Ez false,Ex none 0 0,Ez false,Ex none 0 0,Ex none 0 0,Ez false,Ex none 0 0,Ez false,Ex none 0 0]
def cK (w:Ef) (v:Ei) (t:Nat->Rat) (p:List Int) (o:Rat):Prop:=∃cs u T N M E Y X I J,v = Ej (cs++#[u,Ez T,Ex N M E,Ez Y,Ex X I J])/\bY w (Ej cs) t/\aF w u p/\FR w (Ej #[Ez T,Ex N M E,Ez Y,Ex X I J]) o
def CV (w:Ef) (v:Ei) (l m:PL) (a b:List aU) (E:Int) (I s:Rat):Option (Nat×Nat)->Prop
 | none=>v = Ej xW
 | some x=>cK w v (tX l m a b x) (pX l m a b E x) (oX l m a b E I s x)
theorem GI {most:Int} (Z:l.length<=6) (hc:zP l=0) (h0:0<=most) (Y:most<=12):(zO l most).2.length<=15/\∀t,t<(zO l most).2.length->(∀i,sz (rA ((zO l most).2.getD t zH) i) 2)/\eo l ((zO l most).2.getD t zH):=by
 have e:zO l most=(0,qs l (yr (min most (l.length:Int)).toNat)):=by unfold zO; rw[E_ (by rw[hc]; simp),E_ D6]
 rw[e];obtain⟨n,X⟩:∃n,(min most (l.length:Int)).toNat=n:=⟨_,rfl⟩;rw[X];obtain⟨N,T⟩:=WJ n D6;refine⟨Nat.le_trans (JQ l _) N,fun t ht=> ?_⟩
 have I:(qs l (yr n)).getD t zH∈qs l (yr n):=by
  replace ht:t<(qs l (yr n)).length:=ht;rw[List.getD,List.getElem?_eq_getElem ht];exact List.getElem_mem ht
 show (∀i,sz (rA ((qs l (yr n)).getD t zH) i) 2)/\eo l ((qs l (yr n)).getD t zH)
 generalize (qs l (yr n)).getD t zH=a at I;refine⟨fun i=> ?_,CR D6 D6 I⟩;obtain⟨x,M,hw,rfl⟩:=WK I;have hg:=T x M;have E:∀i,K4 x i<l.length:=Vf hg D6;have J:∀i,ku (pt l (K4 x i)).1 (pt l (K4 x i)).2:=fun i=>Zc hc _ (E i);exact Va (YK J hw) (by rw[(qO l _ hw).2.1]; exact hw) i
end
section
open Go.RowKit
variable {most:Int} {l:PL}
def Um (ok:Bool) (l m:PL):Int:=if ok=false then 8 else if zP l≠0 then zP l else if zP m≠0 then zP m else 2
theorem Z_ (h:zP l=0) (h0:0<=most) (E:most<=12):(zO l most).1=0:=by unfold zO; rw[E_ (by rw[h]; simp),E_ D6]
theorem WP (h:zP l=0) (E:most<0\/12<most):(zO l most).1=2:=by unfold zO; rw[E_ (by rw[h]; simp),E9 E]
set_option maxHeartbeats 6400000 in
set_option maxRecDepth 1000000 in
theorem Jm {ua1 ua5 ub1 ub5 uc1 uc5:Bool} {ua2 ua6 ub2 ub6 uc2 uc6:Option Addr} {ua3 ua4 ua7 ua8 ub3 ub4 ub7 ub8 uc3 uc4 uc7 uc8:Nat} {R A:Int} {O:Nat->Option Rat} {vl vm:Ei} {m:PL} (most:Int) (w:Ef) (b0:FB w (Ej #[Ez ua1,Ex ua2 ua3 ua4,Ez ua5,Ex ua6 ua7 ua8]) (O 0)) (b1:FB w (Ej #[Ez ub1,Ex ub2 ub3 ub4,Ez ub5,Ex ub6 ub7 ub8]) (O 1)) (b2:FB w (Ej #[Ez uc1,Ex uc2 uc3 uc4,Ez uc5,Ex uc6 uc7 uc8]) (O 2)) (fw:kM O (yh ua3 ub3 uc3 uc3) (yh ua7 ub7 uc7 uc7) 3) (hl:bT w vl l) (hm:bT w vm m) (zl:l.length<=6\/(200<l.length/\l.length<=210)) (zm:m.length<=6\/(200<m.length/\m.length<=210))
  (h:yu O (yh ua3 ub3 uc3 uc3) (yh ua7 ub7 uc7 uc7) R A ua1=false\/zP l≠0\/zP m≠0\/most<0\/12<most\/¬zF R A m.length<1) :
  Ee Ed 31 #[vl,vm,Ey Ew most,Ej #[Ez ua1,Ex ua2 ua3 ua4,Ez ua5,Ex ua6 ua7 ua8,Ey Ew R,Ey Ew A,Ez ub1,Ex ub2 ub3 ub4,Ez ub5,Ex ub6 ub7 ub8,Ez uc1,Ex uc2 uc3 uc4,Ez uc5,Ex uc6 uc7 uc8]] w fun e E=>e = Eh (.tuple #[Ej xW,Ey Ew (Um (yu O (yh ua3 ub3 uc3 uc3) (yh ua7 ub7 uc7 uc7) R A ua1) l m)])/\zf w E:=by
 have CK:∀E,av w E->Ee Ed 26 #[Ej #[Ez ua1,Ex ua2 ua3 ua4,Ez ua5,Ex ua6 ua7 ua8,Ey Ew R,Ey Ew A,Ez ub1,Ex ub2 ub3 ub4,Ez ub5,Ex ub6 ub7 ub8,Ez uc1,Ex uc2 uc3 uc4,Ez uc5,Ex uc6 uc7 uc8]] E fun e I=>e = Eh (Ey Ew (Zf (yu O (yh ua3 ub3 uc3 uc3) (yh ua7 ub7 uc7 uc7) R A ua1)))/\zf E I:=fun E k=>Kc E (b0.af k) (b1.af k) (b2.af k) fw;have QL:∀E,zf w E->Ee Ed 37 #[vl] E fun e I=>e = Eh (Ey Ew (zP l))/\zf E I:=fun E s=>qX E (hl.ae s) D6;have QM:∀E,zf w E->Ee Ed 37 #[vm] E fun e I=>e = Eh (Ey Ew (zP m))/\zf E I:=fun E s=>qX E (hm.ae s) D6;have AL:zP l=0->∀E,zf w E->Ee Ed 71 #[vl,Ey Ew most] E fun e I=>∃u,e = Eh (.tuple #[u,Ey Ew (zO l most).1])/\zf E I:=fun hc E s=>(GA most E (hl.ae s) D6 (fun _ _=>by have:=qE hc; omega)).mono fun e I ⟨u,J,Z,h3⟩=>⟨u,J,h3⟩;have AM:zP m=0->∀E,zf w E->Ee Ed 71 #[vm,Ey Ew most] E fun e I=>∃u,e = Eh (.tuple #[u,Ey Ew (zO m most).1])/\zf E I:=fun hc E s=>(GA most E (hm.ae s) D6 (fun _ _=>by have:=qE hc; omega)).mono fun e I ⟨u,J,Z,h3⟩=>⟨u,J,h3⟩;have RK:yu O (yh ua3 ub3 uc3 uc3) (yh ua7 ub7 uc7 uc7) R A ua1=true->(1<=R/\R<=65536/\1<=A/\A<=17592186044416):=fun h=>(zT.1 h).2.1;have CH:(1<=R/\R<=65536/\1<=A/\A<=17592186044416)->zP m=0->∀E g,ai E g 89 #[Ey Ew 0]->Ee Ed 50 #[Ek (some ⟨g,0,none⟩),Ej #[Ez ua1,Ex ua2 ua3 ua4,Ez ua5,Ex ua6 ua7 ua8,Ey Ew R,Ey Ew A,Ez ub1,Ex ub2 ub3 ub4,Ez ub5,Ex ub6 ub7 ub8,Ez uc1,Ex uc2 uc3 uc4,Ez uc5,Ex uc6 uc7 uc8],Ey Ew m.length] E fun e I=>∃v,e = Eh (.tuple #[v,Ez (decide (zF R A m.length<1))])/\FR I v (zF R A m.length)/\zf E I:=fun hr hc E g hb=>ZZ R A m.length E hb hr.1 hr.2.1 hr.2.2.1 hr.2.2.2 D6 (by have:=qE hc; omega);have HB:Hid (Um (yu O (yh ua3 ub3 uc3 uc3) (yh ua7 ub7 uc7 uc7) R A ua1) l m=if yu O (yh ua3 ub3 uc3 uc3) (yh ua7 ub7 uc7 uc7) R A ua1=false then 8 else if zP l≠0 then zP l else if zP m≠0 then zP m else 2):=E7 rfl;generalize Um (yu O (yh ua3 ub3 uc3 uc3) (yh ua7 ub7 uc7 uc7) R A ua1) l m=bs at *;generalize yu O (yh ua3 ub3 uc3 uc3) (yh ua7 ub7 uc7 uc7) R A ua1=K at *;have T:=fun h0 J Z=>Z_ (l:=l) (most:=most) h0 J Z;have M:=fun h0 J Z=>Z_ (l:=m) (most:=most) h0 J Z;have N:=fun h0 J=>WP (l:=l) (most:=most) h0 J;obtain⟨al,cl,rfl⟩:=hl.ak;obtain⟨am,cm,rfl⟩:=hm.ak;generalize hnl:l.length=nl at *;generalize hnm:m.length=nm at *;generalize (zO l most).1=ea at *;generalize (zO m most).1=eb at *;generalize hcl:zP l=c1 at *;generalize hcm:zP m=c2 at *;generalize zF R A nm=cq at *;clear hl hm b0 b1 b2 fw hnl hnm hcl hcm
 go_enter Tryz.func31,Tryz.ntmps31
 go_wp2_with fail
 go_step3
 go_upto_region 1 with fail
 refine wp_region_lit ?_
 repeat' (first | ((with_reducible show wpList _ _ _ (⟨some 23,_,_,_,_,_⟩::_) _ _); refine yg rfl 45 (.tmp 7) rfl (w.heap.size+1+1) rfl 45 #[Ez ua1,Ex ua2 ua3 ua4,Ez ua5,Ex ua6 ua7 ua8,Ey Ew R,Ey Ew A,Ez ub1,Ex ub2 ub3 ub4,Ez ub5,Ex ub6 ub7 ub8,Ez uc1,Ex uc2 uc3 uc4,Ez uc5,Ex uc6 uc7 uc8] _ zC Tryz.underlying45 rfl D7 ?_) | go_values | go_skip | go_guarded | go_step | go_upon)
 refine(CK _ zw).mono ?_;rintro e w1 ⟨rfl,bh⟩;have B:Below w.heap.size w w1:=yI bh;have o4:ai w1 w.heap.size 55 #[Ex al nl cl]:=ai.au bh;have o5:ai w1 (w.heap.size+1) 55 #[Ex am nm cm]:=ai.au bh;have o7:ai w1 (w.heap.size+1+1) 45 #[Ez ua1,Ex ua2 ua3 ua4,Ez ua5,Ex ua6 ua7 ua8,Ey Ew R,Ey Ew A,Ez ub1,Ex ub2 ub3 ub4,Ez ub5,Ex ub6 ub7 ub8,Ez uc1,Ex uc2 uc3 uc4,Ez uc5,Ex uc6 uc7 uc8]:=ai.au bh;have o8:ai w1 (w.heap.size+1+1+1) 70 xW:=ai.au bh;clear bh;clear CK
 cases K with
 | false=>
  have E0:=HB.out;rw[E9 rfl]at E0;clear HB QL QM AL AM CH RK T M N;rw[show Zf false=8 from rfl];dsimp only;have zz:=B.size
  repeat' (first | ((with_reducible show wpList _ _ _ (⟨some 27,_,_,_,_,_⟩::_) _ _); refine yW rfl 70 #[] rfl xW D7 ?_) | ((with_reducible show wpList _ _ _ (⟨none,.store _ _ _,_,_,_,_⟩::_) _ _); refine zL rfl 70 (.tmp 8) (.tmp 27) rfl (w.heap.size+1+1+1) xW rfl rfl 70 xW o8 D7 rfl (by simp[xW,Value.oneCell']) (fun wz Y=> ?_)) | go_values | go_skip | go_guarded | go_step | go_upon)
  go_wp2_with fail
  try rw[Exit.noGoto_ret]
  refine Eo (yf rfl _ _ (w.heap.size+1+1+1) rfl (cs:=xW) Y.bI Tryz.underlying70 rfl D7) rfl ?_;exact⟨by rw[E0]; rfl,Y.below B D6⟩
 | true=>
  have X:=HB.out;rw[E_ D9]at X;have br:=E7 X;clear HB;replace RK:=RK rfl;replace CH:=CH RK;replace h:=h.resolve_left D9;clear X RK;rw[show Zf true=0 from rfl];dsimp only;have c4:=o4.c 0 rfl
  repeat' (first | go_values | go_skip | go_guarded | go_step | go_upon)
  refine(QL _ B).mono ?_;rintro e I ⟨rfl,bf⟩;clear c4;replace B:Below w.heap.size w I:=yI bf;replace o4:ai I w.heap.size 55 #[Ex al nl cl]:=ai.au bf;replace o5:ai I (w.heap.size+1) 55 #[Ex am nm cm]:=ai.au bf;replace o7:ai I (w.heap.size+1+1) 45 #[Ez ua1,Ex ua2 ua3 ua4,Ez ua5,Ex ua6 ua7 ua8,Ey Ew R,Ey Ew A,Ez ub1,Ex ub2 ub3 ub4,Ez ub5,Ex ub6 ub7 ub8,Ez uc1,Ex uc2 uc3 uc4,Ez uc5,Ex uc6 uc7 uc8]:=ai.au bf;replace o8:ai I (w.heap.size+1+1+1) 70 xW:=ai.au bf;clear bf;clear QL
  by_cases J:c1=0
  .
   replace h:=h.resolve_left (by rw[J]; simp);have X:=br.out;rw[E_ (by rw[J]; simp)]at X;have bt:=E7 X;clear br;replace T:=T J;replace AL:=AL J;replace N:=N J;clear X;subst J;dsimp only;have c5:=o5.c 0 rfl
   repeat' (first | go_values | go_skip | go_guarded | go_step | go_upon)
   refine(QM _ B).mono ?_;rintro e w3 ⟨rfl,bg⟩;clear c5;replace B:Below w.heap.size w w3:=yI bg;replace o4:ai w3 w.heap.size 55 #[Ex al nl cl]:=ai.au bg;replace o5:ai w3 (w.heap.size+1) 55 #[Ex am nm cm]:=ai.au bg;replace o7:ai w3 (w.heap.size+1+1) 45 #[Ez ua1,Ex ua2 ua3 ua4,Ez ua5,Ex ua6 ua7 ua8,Ey Ew R,Ey Ew A,Ez ub1,Ex ub2 ub3 ub4,Ez ub5,Ex ub6 ub7 ub8,Ez uc1,Ex uc2 uc3 uc4,Ez uc5,Ex uc6 uc7 uc8]:=ai.au bg;replace o8:ai w3 (w.heap.size+1+1+1) 70 xW:=ai.au bg;clear bg;clear QM
   by_cases Z:c2=0
   .
    replace h:=h.resolve_left (by rw[Z]; simp);have E0:=bt.out;rw[E_ (by rw[Z]; simp)]at E0;replace M:=M Z;replace AM:=AM Z;replace CH:=CH Z;clear bt;subst Z;dsimp only;have c4:=o4.c 0 rfl
    repeat' (first | go_values | go_skip | go_guarded | go_step | go_upon)
    refine(AL _ B).mono ?_;rintro e w4 ⟨u1,rfl,bl⟩;clear c4;replace B:Below w.heap.size w w4:=yI bl;replace o4:ai w4 w.heap.size 55 #[Ex al nl cl]:=ai.au bl;replace o5:ai w4 (w.heap.size+1) 55 #[Ex am nm cm]:=ai.au bl;replace o7:ai w4 (w.heap.size+1+1) 45 #[Ez ua1,Ex ua2 ua3 ua4,Ez ua5,Ex ua6 ua7 ua8,Ey Ew R,Ey Ew A,Ez ub1,Ex ub2 ub3 ub4,Ez ub5,Ex ub6 ub7 ub8,Ez uc1,Ex uc2 uc3 uc4,Ez uc5,Ex uc6 uc7 uc8]:=ai.au bl;replace o8:ai w4 (w.heap.size+1+1+1) 70 xW:=ai.au bl;clear bl;clear AL
    by_cases h3:most<0\/12<most
    .
     have e2:=N h3;subst e2;clear AM CH T M N h;dsimp only;have zz:=B.size
     repeat' (first | ((with_reducible show wpList _ _ _ (⟨some 49,_,_,_,_,_⟩::_) _ _); refine yW rfl 70 #[] rfl xW D7 ?_) | ((with_reducible show wpList _ _ _ (⟨none,.store _ _ _,_,_,_,_⟩::_) _ _); refine zL rfl 70 (.tmp 8) (.tmp 49) rfl (w.heap.size+1+1+1) xW rfl rfl 70 xW o8 D7 rfl (by simp[xW,Value.oneCell']) (fun wz Y=> ?_)) | go_values | go_skip | go_guarded | go_step | go_upon)
     go_wp2_with fail
     try rw[Exit.noGoto_ret]
     refine Eo (yf rfl _ _ (w.heap.size+1+1+1) rfl (cs:=xW) Y.bI Tryz.underlying70 rfl D7) rfl ?_;exact⟨by rw[E0]; rfl,Y.below B D6⟩
    .
     have e2:=T D6 D6;have e3:=M D6 D6;subst e2;subst e3;have h4:decide (cq<1)=false:=Ea ((h.resolve_left D6).resolve_left D6);rw[h4]at CH;clear T M N h h4 h3;dsimp only;have c5:=o5.c 0 rfl
     repeat' (first | go_values | go_skip | go_guarded | go_step | go_upon)
     refine(AM _ B).mono ?_;rintro e w5 ⟨u2,rfl,be⟩;clear c5;replace B:Below w.heap.size w w5:=yI be;replace o4:ai w5 w.heap.size 55 #[Ex al nl cl]:=ai.au be;replace o5:ai w5 (w.heap.size+1) 55 #[Ex am nm cm]:=ai.au be;replace o7:ai w5 (w.heap.size+1+1) 45 #[Ez ua1,Ex ua2 ua3 ua4,Ez ua5,Ex ua6 ua7 ua8,Ey Ew R,Ey Ew A,Ez ub1,Ex ub2 ub3 ub4,Ez ub5,Ex ub6 ub7 ub8,Ez uc1,Ex uc2 uc3 uc4,Ez uc5,Ex uc6 uc7 uc8]:=ai.au be;replace o8:ai w5 (w.heap.size+1+1+1) 70 xW:=ai.au be;clear be;clear AM;dsimp only;have c5:=o5.c 0 rfl;have l5:=o5.lt
     repeat' (first | ((with_reducible show wpList _ _ _ (⟨some 62,_,_,_,_,_⟩::_) _ _); refine yg rfl 45 (.tmp 7) rfl (w.heap.size+1+1) rfl 45 #[Ez ua1,Ex ua2 ua3 ua4,Ez ua5,Ex ua6 ua7 ua8,Ey Ew R,Ey Ew A,Ez ub1,Ex ub2 ub3 ub4,Ez ub5,Ex ub6 ub7 ub8,Ez uc1,Ex uc2 uc3 uc4,Ez uc5,Ex uc6 uc7 uc8] _ zC Tryz.underlying45 rfl D7 ?_) | go_values | go_skip | go_guarded | go_step | go_upon)
     refine(CH _ w5.heap.size (ai.new _ _ _)).mono ?_;rintro e w6 ⟨v6,rfl,ce,bi⟩;obtain⟨q1,q2,q3,q4,q5,q6,q7,q8,rfl⟩:=ce.ak;clear c5 l5 ce;replace B:Below w.heap.size w w6:=zA (B.alloc B.size _) (Ep _) bi;replace o4:ai w6 w.heap.size 55 #[Ex al nl cl]:=(o4.alloc _).ae bi;replace o5:ai w6 (w.heap.size+1) 55 #[Ex am nm cm]:=(o5.alloc _).ae bi;replace o7:ai w6 (w.heap.size+1+1) 45 #[Ez ua1,Ex ua2 ua3 ua4,Ez ua5,Ex ua6 ua7 ua8,Ey Ew R,Ey Ew A,Ez ub1,Ex ub2 ub3 ub4,Ez ub5,Ex ub6 ub7 ub8,Ez uc1,Ex uc2 uc3 uc4,Ez uc5,Ex uc6 uc7 uc8]:=(o7.alloc _).ae bi;replace o8:ai w6 (w.heap.size+1+1+1) 70 xW:=(o8.alloc _).ae bi;clear bi;clear CH;dsimp only;have zz:=B.size
     repeat' (first | ((with_reducible show wpList _ _ _ (⟨some 70,_,_,_,_,_⟩::_) _ _); refine yW rfl 70 #[] rfl xW D7 ?_) | ((with_reducible show wpList _ _ _ (⟨none,.store _ _ _,_,_,_,_⟩::_) _ _); refine zL rfl 70 (.tmp 8) (.tmp 70) rfl (w.heap.size+1+1+1) xW rfl rfl 70 xW zC D7 rfl (by simp[xW,Value.oneCell']) (fun wz Y=> ?_)) | go_values | go_skip | go_guarded | go_step | go_upon)
     go_wp2_with fail
     try rw[Exit.noGoto_ret]
     refine Eo (yf rfl _ _ (w.heap.size+1+1+1) rfl (cs:=xW) Y.bI Tryz.underlying70 rfl D7) rfl ?_;exact⟨by rw[E0]; rfl,Y.below zh D6⟩
   .
    have E0:=bt.out;rw[E9 Z]at E0;have ci:(c2==0)=false:=by simpa using Z
    clear bt AL AM CH T M N h;dsimp only;have zz:=B.size
    repeat' (first | ((with_reducible show wpList _ _ _ (⟨some 39,_,_,_,_,_⟩::_) _ _); refine yW rfl 70 #[] rfl xW D7 ?_) | ((with_reducible show wpList _ _ _ (⟨none,.store _ _ _,_,_,_,_⟩::_) _ _); refine zL rfl 70 (.tmp 8) (.tmp 39) rfl (w.heap.size+1+1+1) xW rfl rfl 70 xW o8 D7 rfl (by simp[xW,Value.oneCell']) (fun wz Y=> ?_)) | go_values | go_skip | go_guarded | go_step | go_upon)
    go_wp2_with fail
    try rw[Exit.noGoto_ret]
    refine Eo (yf rfl _ _ (w.heap.size+1+1+1) rfl (cs:=xW) Y.bI Tryz.underlying70 rfl D7) rfl ?_;exact⟨by rw[E0]; rfl,Y.below B D6⟩
  .
   have E0:=br.out;rw[E9 J]at E0;have cg:(c1==0)=false:=by simpa using J
   clear br QM AL AM CH T M N h;dsimp only;have zz:=B.size
   repeat' (first | ((with_reducible show wpList _ _ _ (⟨some 33,_,_,_,_,_⟩::_) _ _); refine yW rfl 70 #[] rfl xW D7 ?_) | ((with_reducible show wpList _ _ _ (⟨none,.store _ _ _,_,_,_,_⟩::_) _ _); refine zL rfl 70 (.tmp 8) (.tmp 33) rfl (w.heap.size+1+1+1) xW rfl rfl 70 xW o8 D7 rfl (by simp[xW,Value.oneCell']) (fun wz Y=> ?_)) | go_values | go_skip | go_guarded | go_step | go_upon)
   go_wp2_with fail
   try rw[Exit.noGoto_ret]
   refine Eo (yf rfl _ _ (w.heap.size+1+1+1) rfl (cs:=xW) Y.bI Tryz.underlying70 rfl D7) rfl ?_;exact⟨by rw[E0]; rfl,Y.below B D6⟩
end
end Go.Proofs.YtffmbepfbienaaaGreat
/- Search's body: the size of a similarity, a list of ints X7 a store elsewhere. -/
namespace Go.Proofs.YtffmbepfbienaaaGreat
open Go.RowKit
variable {ax ay ah bx px py qx qy:Int}
theorem Vs (ha:qq (ax,ay)) (hb:qq (bx,ah)) (hp:qq (px,py)) (hq:qq (qx,qy)) (hn:j5 (bx-ax) (ah-ay)≠0):∀i,i<4->sz (v_ (ax,ay) (bx,ah) (px,py) (qx,qy) i) 15:=by
 obtain⟨a0,a1,a2,a3⟩:=ha;obtain⟨b0,b1,b2,b3⟩:=hb;obtain⟨p0,p1,p2,p3⟩:=hp;obtain⟨q0,q1,q2,q3⟩:=hq;dsimp only at a0 a1 a2 a3 b0 b1 b2 b3 p0 p1 p2 p3 q0 q1 q2 q3;obtain⟨J,I⟩:∃z,bx-ax=z:=⟨_,rfl⟩;obtain⟨M,E⟩:∃z,ah-ay=z:=⟨_,rfl⟩;obtain⟨vx,Z⟩:∃z,qx-px=z:=⟨_,rfl⟩;obtain⟨vy,Y⟩:∃z,qy-py=z:=⟨_,rfl⟩;have u1 : -2097152<=J/\J<=2097152:=D6
 have u2 : -2097152<=M/\M<=2097152:=D6
 have u3 : -2097152<=vx/\vx<=2097152:=D6
 have u4 : -2097152<=vy/\vy<=2097152:=D6
 have m1:=yo u1.1 u1.2 u1.1 u1.2;have m2:=yo u2.1 u2.2 u2.1 u2.2;have m3:=yo u3.1 u3.2 u1.1 u1.2;have m4:=yo u4.1 u4.2 u2.1 u2.2;have m5:=yo u4.1 u4.2 u1.1 u1.2;have m6:=yo u3.1 u3.2 u2.1 u2.2;obtain⟨x1,e1⟩:∃x,J*J=x:=⟨_,rfl⟩;obtain⟨x2,e2⟩:∃x,M*M=x:=⟨_,rfl⟩;obtain⟨x3,e3⟩:∃x,vx*J=x:=⟨_,rfl⟩;obtain⟨x4,e4⟩:∃x,vy*M=x:=⟨_,rfl⟩;obtain⟨x5,e5⟩:∃x,vy*J=x:=⟨_,rfl⟩;obtain⟨x6,e6⟩:∃x,vx*M=x:=⟨_,rfl⟩;rw[e1]at m1;rw[e2]at m2;rw[e3]at m3;rw[e4]at m4;rw[e5]at m5;rw[e6]at m6;obtain⟨N,hN⟩:∃x,x1+x2=x:=⟨_,rfl⟩;obtain⟨A,hA⟩:∃x,x3+x4=x:=⟨_,rfl⟩;obtain⟨B0,hB⟩:∃x,x5-x6=x:=⟨_,rfl⟩;have eN:j5 (bx-ax) (ah-ay)=N:=by unfold j5; rw[I,E,e1,e2,hN]
 have eA:kJ (bx-ax) (ah-ay) (qx-px) (qy-py)=A:=by unfold kJ; rw[I,E,Z,Y,e3,e4,hA]
 have eB:kZ (bx-ax) (ah-ay) (qx-px) (qy-py)=B0:=by unfold kZ; rw[I,E,Z,Y,e5,e6,hB]
 rw[eN]at hn;have t0:Xu (ax,ay) (bx,ah) (px,py) (qx,qy)=(A:Rat) / (N:Rat):=by show (kJ _ _ _ _:Rat) / _=_; rw[eN,eA]
 have t1:Xv (ax,ay) (bx,ah) (px,py) (qx,qy)=(B0:Rat) / (N:Rat):=by show (kZ _ _ _ _:Rat) / _=_; rw[eN,eB]
 have bN : -8796093022208<=N/\N<=8796093022208:=D6
 have bA : -8796093022208<=A/\A<=8796093022208:=D6
 have bB : -8796093022208<=B0/\B0<=8796093022208:=D6
 have z0:sz ((A:Rat) / (N:Rat)) 2:=qH hn (by rw[qA]; unfold zi; omega) (by rw[qA]; unfold zi; omega);have z1:sz ((B0:Rat) / (N:Rat)) 2:=qH hn (by rw[qA]; unfold zi; omega) (by rw[qA]; unfold zi; omega);have be:sz (ax:Rat) 2:=yq ⟨a0,a1⟩;have T:sz (ay:Rat) 2:=yq ⟨a2,a3⟩;have sp1:sz (px:Rat) 2:=yq ⟨p0,p1⟩;have sp2:sz (py:Rat) 2:=yq ⟨p2,p3⟩;have X:sz (0:Rat) 2:=by have h:sz ((0:Int):Rat) 2:=yq D8; rwa[Rat.intCast_zero]at h
 rw[<- t0]at z0;rw[<- t1]at z1;intro i hi
 rcases(show i=0\/i=1\/i=2\/i=3 by omega)with rfl | rfl | rfl | rfl
 . exact z0.mono D6
 . exact z1.mono D6
 .
  show sz ((px:Rat)-(Xu _ _ _ _*(ax:Rat)-Xv _ _ _ _*(ay:Rat)+0)) 15
  exact(sp1.sub (((z0.mul be).sub (z1.mul T)).add X)).mono D6
 .
  show sz ((py:Rat)-(Xv _ _ _ _*(ax:Rat)+Xu _ _ _ _*(ay:Rat)+0)) 15
  exact(sp2.sub (((z1.mul be).add (z0.mul T)).add X)).mono D6
theorem Bq (T:qq (ax,ay)) (J:qq (bx,ah)) (E:qq (px,py)) (I:qq (qx,qy)) (N:j5 (bx-ax) (ah-ay)≠0):∀i,i<4->sz (v_ (ax,ay) (bx,ah) (px,py) (qx,qy) i) 16:=fun i M=>(Vs T J E I N i M).mono D6
theorem aF.only {w J:Ef} {v:Ei} {l:List Int} {g:Nat} {t:Em} {cs:Array Ei} (h:aF w v l) (Y:ai w g t cs) (hc:∀x∈cs.toList,∀z,x≠ Ey Ew z) (o:bJ g w J):aF J v l:=by
 obtain⟨ao,cap,e,E,X⟩:=h;refine⟨ao,cap,e,E,fun N=> ?_⟩;obtain⟨b,Z,T,I,M⟩:=X N
 have hg:b≠g:=by
  rintro rfl;have c:=M 0 (List.length_pos_iff.2 N);rw[Y.cell]at c;exact hc _ (Array.mem_toList_iff.2 (Array.mem_of_getElem? c)) _ rfl
 refine⟨b,Z,T,by rw[o.1]; exact I,fun t ht=> ?_⟩;have:=M t ht;unfold World.cell? at this|-;rw[o.2 b hg]; exact this
end Go.Proofs.YtffmbepfbienaaaGreat
