import Derived.Test.YtffmbepfbienaaaGreatSMf
set_option linter.unusedVariables false
set_option linter.unusedSimpArgs false
set_option maxHeartbeats 6400000
set_option maxRecDepth 1000000
/- Quads, and lists of quads, as arguments. -/
open Go.Value renaming slice->Ex,bool->Ez,int->Ey,agg->Ej,pointer->Ek
open Go.IntKind renaming i64->Ew
open Go.Ending renaming returned->Eh
open Go.Proofs.Tryz renaming prog->Ec
open Go renaming Calls->Ed,World->Ee,Value->Ef,TypeId->Ei,bodyPost_ret->En
open Nat renaming le_refl->Eo
namespace Go.Proofs.YtffmbepfbienaaaGreat
section
open Go.ChangeShapes Go.WideShapes Go.ChangeAt Go.RowKit Go.Joins
def Dw (cs:Array Ef) (la lb:Nat->Nat):Prop:=∀i,i<4->(∃a c,cs[4+i*4+1]? = some (Ex a (la i) c))/\∃a c,cs[4+i*4+3]? = some (Ex a (lb i) c)
def Dx (r:Nat->Option Rat) (la lb:Nat->Nat):Prop:=∀i,i<4->∀q,r i=some q->zi q.num<=bp (la i)/\(q.den:Int)<=bp (lb i)
theorem Qi {w:Ee} {gx gy:Bool} {I E:Ef} {la lb:List Int} (M:aA w I la) (J:aA w E lb):∃o,FB w (Ej #[Ez gx,I,Ez gy,E]) o/\∀q,o=some q->zi q.num<=bp la.length/\(q.den:Int)<=bp lb.length:=by
 rcases VT (gx:=gx) (gy:=gy) M J with⟨r,h,h1,h2⟩ | h
 . exact⟨some r,h,fun q e=>by cases e; exact⟨h1,h2⟩⟩
 . exact⟨none,h,fun q e=>by cases e⟩
section
variable {H:Type} {enc:Ei×Ef->H} {W:Ee} {aX:Nat} {a9:Bool} {n:Nat}
def f4 {α : Type} (a b c d : α) (i:Nat) : α:=match i with | 0=>a | 1=>b | 2=>c | _=>d
end
end
section
open Go.RowKit
variable {l:List Int}
theorem aM.at {w:Ee} {ao:Option Addr} {n cap:Nat} (h:aM w (Ex ao n cap) l) {t:Nat} (ht:t<l.length):∃b o,ao=some ⟨b,o,none⟩/\b<w.heap.size/\w.cell? ⟨b,o+t,none⟩=some (Ey Ew (l.getD t 0)):=by
 obtain⟨J,E,e,_,I⟩:=h
 injection e with N T X
 subst N;obtain⟨b,o,e,M,hc⟩:=I (fun e=>by rw[e]at ht; cases ht);exact⟨b,o,e,M,hc t ht⟩
set_option maxHeartbeats 6400000 in
set_option maxRecDepth 1000000 in
theorem Ug {va vb:Ef} (w:Ee) (h:aM w va l) (X:aM w vb l) (hl:l.length<=100000):Ed Ec 27 #[va,vb] w fun e w'=>e = Eh (Ez true)/\zf w w':=by
 have HA:=E6 h;have HB:=E6 X;obtain⟨ao,cap,rfl⟩:=h.ak;obtain⟨bo,bg,rfl⟩:=X.ak;obtain⟨n,Z⟩:∃n,l.length=n:=⟨_,rfl⟩;have HL:=E6 Z;rw[Z]at HA HB hl|-;clear h X Z
 go_enter Tryz.func27,Tryz.ntmps27
 go_wp2_with fail
 go_loopw [5] (fun kk wr=>∃i:Nat,i<=n/\kk = Ey Ew i/\Below w.heap.size w wr) (fun kk _=>n-(intOf kk).toNat)
 case atStart=>exact⟨0,by omega,rfl,zh⟩
 case round=>
  obtain⟨i,hi,rfl,B⟩:=hrel
  rcases Nat.lt_or_ge i n with i4 | i4
  .
   have b9:decide ((i:Int)<(n:Int))=true:=E_ D5;obtain⟨b,o,rfl,hb,ha⟩:=HA.out.at (t:=i) (by have:=HL.out; omega);obtain⟨b',o',rfl,aY,N⟩:=HB.out.at (t:=i) (by have:=HL.out; omega);obtain⟨x,hx⟩:∃x,l.getD i 0=x:=⟨_,rfl⟩;rw[hx]at ha N;have be:(x==x)=true:=by simp
   clear hx
   repeat' (first | go_values | go_skip | go_guarded | go_step | go_upon)
   refine aj.aI (fun D v W=>Below wr.heap.size wr W/\True) (aj.inl []) (aj.gv []) aj.aR (fun _=>aj.Any) (fun _ _=>False) (aj.pl []) (aj.pl [])
    D6 D6 D6 (aj.dI _) (fun _=>⟨zh,trivial⟩) (fun _ _ _ _ _ h=>h) (fun _ _ _ _ _ _ _ _ _ _ _ _ _=>aj.none_) (fun _ _ _ _ h=>h.elim) (fun J Q' I hQ=> ?_)
   repeat refine aj.aD _ ?_
   apply aj.RP rfl rfl rfl 20 rfl rfl
   .
    intro D v W hc M Y K' E;obtain⟨T,_⟩:=M;have c0:W.cell? ⟨b,o+i,none⟩=some (Ey Ew x):=(zt B (Eo _) T).cell (p:=⟨b,_,none⟩) hb |>.trans ha
    go_step;exact E.out
   . rfl
   repeat refine aj.aD _ ?_
   apply aj.RP rfl rfl rfl 24 rfl rfl
   .
    intro D v W hc M Y K' E;obtain⟨T,_⟩:=M;have c0:W.cell? ⟨b',o'+i,none⟩=some (Ey Ew x):=(zt B (Eo _) T).cell (p:=⟨b',_,none⟩) aY |>.trans N
    go_step;exact E.out
   . rfl
   refine aj.aD 25 ?_;refine aj.aF (fun D v w9 hd M Y=> ?_);obtain⟨B9,_⟩:=M;clear hd Y;refine hQ _ _ ?_;clear hQ I Q' J;have B6:=zt B (Eo _) B9
   go_wp2
   go_roundw
   case rel=>exact⟨i+1,by omega,by go_num,B6⟩
   case measure=>simp[intOf]; omega
  .
   obtain rfl:i=n:=D5
   go_wp2
   go_returns
   exact⟨rfl,B⟩
def H2 (la lb:Nat->Nat):Nat->Bool
 | 0=>false
 | i+1=>H2 la lb i||(decide (6<la i)||decide (6<lb i))
end
end Go.Proofs.YtffmbepfbienaaaGreat
/- QuadNear without the program: Find's answers with Cp limits, the greedy look for one in the other. -/
namespace Go.Proofs.YtffmbepfbienaaaGreat
open Go.RowKit
variable {r:Rat}
theorem Wy:∀n,n<=6->(yy n).length<=15/\∀x∈yy n,Zp n x=true:=by
 intro n E
 rcases(show n=0\/n=1\/n=2\/n=3\/n=4\/n=5\/n=6 by omega)with rfl | rfl | rfl | rfl | rfl | rfl | rfl<;>decide
theorem kM (f:Nat->Rat):∀n,z' (fun i=>some (f i)) n=true
 | 0=>rfl
 | n+1=>by unfold z'; rw[kM f n]; rfl
theorem Z6 (f:Nat->Nat->Rat):∀n,xh (fun t i=>some (f t i)) n=true
 | 0=>rfl
 | n+1=>by unfold xh; rw[Z6 f n,kM]; rfl
theorem Uh (h:0<=r):kj (some r)=true:=by
 have:¬r<0:=Rat.not_lt.2 h;simp[kj,this]
theorem Ku {n:Nat} {f:Nat->Nat->Rat} {g:Nat->Rat} (E:n<=500) (h:0<=r):Z4 n (fun t i=>some (f t i)) (fun i=>some (g i)) (some r)=(jA (fun t i=>some (f t i)) (fun i=>some (g i)) r n,0):=by
 unfold Z4;rw[E9 D5,Z6,kM,Uh h]; rfl
def Dy (p:Int->Bool) (L:List Int) (s:Nat):Nat:=((L.take s).filter p).length
structure fD (A N:List Int) (ns:Nat->Nat):Prop where
 zero:ns 0=0
 all:ns A.length=N.length
 le:∀s,ns s<=N.length
 step:∀s,s<A.length->(ns s<N.length/\N.getD (ns s) 0=A.getD s 0/\ns (s+1)=ns s+1)\/(ns (s+1)=ns s/\(ns s<N.length->N.getD (ns s) 0≠A.getD s 0))
end Go.Proofs.YtffmbepfbienaaaGreat
/- Points, similarities and rules as arguments. -/
namespace Go.Proofs.YtffmbepfbienaaaGreat
open Go.ChangeShapes Go.WideShapes Go.ChangeAt Go.RowKit Go.Joins
section
variable {H:Type} {enc:Ei×Ef->H} {P:Program} {w:Ee} {b0:Nat} {sp:Nat->Bool} {a9:Bool}
end
section
variable {H:Type} {enc:Ei×Ef->H} {W:Ee} {aX:Nat} {a9:Bool} {n:Nat}
theorem Wu:Tryz.prog.cellsOf 2=1:=by kernel_rfl
end
end Go.Proofs.YtffmbepfbienaaaGreat
/- Rules and integers as arguments. -/
namespace Go.Proofs.YtffmbepfbienaaaGreat
open Go.ChangeShapes Go.WideShapes Go.ChangeAt Go.RowKit Go.Joins
section
variable {H:Type} {enc:Ei×Ef->H} {P:Program} {w:Ee} {b0:Nat} {sp:Nat->Bool} {a9:Bool}
theorem Xb {t0 t1 t2 t3:Ei} {args:Array Ef} {ds:List (DataW H)} {ps:List MemPlace} (h:DataW.TrodAll enc P w b0 sp a9 [t0,t1,t2,t3] args.toList ds ps) :
  ∃J I X T M N Y E p0 p1 p2 p3,args=#[J,I,X,T]/\ds = [M,N,Y,E]/\ps=p0++p1++p2++p3/\DataW.Trod enc P w b0 sp a9 t0 J M p0/\DataW.Trod enc P w b0 sp a9 t1 I N p1/\DataW.Trod enc P w b0 sp a9 t2 X Y p2/\DataW.Trod enc P w b0 sp a9 t3 T E p3:=by
 obtain⟨J,aY,M,bi,p0,q0,Z,rfl,rfl,h0,r0⟩:=trodAll_cons h;obtain⟨I,b9,N,bg,p1,q1,rfl,rfl,rfl,h1,r1⟩:=trodAll_cons r0;obtain⟨X,be,Y,br,p2,q2,rfl,rfl,rfl,h2,r2⟩:=trodAll_cons r1;obtain⟨T,bh,E,bl,p3,q3,rfl,rfl,rfl,h3,r3⟩:=trodAll_cons r2;obtain⟨rfl,rfl,rfl⟩:=trodAll_nil r3;exact⟨J,I,X,T,M,N,Y,E,p0,p1,p2,p3,by cases args; simp_all,rfl,by simp,h0,h1,h2,h3⟩
end
section
variable {H:Type} {enc:Ei×Ef->H} {W:Ee} {aX:Nat} {a9:Bool} {n:Nat}
theorem Ue:Tryz.prog.cellsOf 45=14:=by kernel_rfl
theorem Uf {cs:List Ef} {y:DataW H×List MemPlace} (h:DataW.trod enc Ec W aX (fun _=>true) a9 n 45 cs=some y) :
  ∃ua1 ua2 ua3 ua4 ua5 ua6 ua7 ua8 ub1 ub2 ub3 ub4 ub5 ub6 ub7 ub8 uc1 uc2 uc3 uc4 uc5 uc6 uc7 uc8 R A,∃O:Nat->Option Rat,cs = [Ez ua1,Ex ua2 ua3 ua4,Ez ua5,Ex ua6 ua7 ua8,Ey Ew R,Ey Ew A,Ez ub1,Ex ub2 ub3 ub4,Ez ub5,Ex ub6 ub7 ub8,Ez uc1,Ex uc2 uc3 uc4,Ez uc5,Ex uc6 uc7 uc8]/\FB W (Ej #[Ez ua1,Ex ua2 ua3 ua4,Ez ua5,Ex ua6 ua7 ua8]) (O 0)/\FB W (Ej #[Ez ub1,Ex ub2 ub3 ub4,Ez ub5,Ex ub6 ub7 ub8]) (O 1)/\FB W (Ej #[Ez uc1,Ex uc2 uc3 uc4,Ez uc5,Ex uc6 uc7 uc8]) (O 2)/\Yb O (yG ua3 ub3 uc3 uc3) (yG ua7 ub7 uc7 uc7) 3:=by
 obtain⟨xs,m,_,_,hc,hl,I⟩:=DataW.trod_struct Tryz.underlying45 h;rw[Ue]at hc;have h0:=I 0 _ rfl;have h1:=I 1 _ rfl;have h2:=I 2 _ rfl;have h3:=I 3 _ rfl;have h4:=I 4 _ rfl
 match xs,hl,cs,hc with
 | [x0,x1,x2,x3,x4],_,[c0,c1,c2,c3,c4,c5,c6,c7,c8,c9,c10,c11,c12,c13],_=>
  simp[Wt,Wu]at h0 h1 h2 h3 h4;obtain⟨bg,cy,aY,cn,cx,ci,f0,M,T⟩:=ZQ h0;obtain⟨i1,f1,_,w1⟩:=DataW.trod_int Tryz.underlying2 h1;obtain⟨i2,f2,_,w2⟩:=DataW.trod_int Tryz.underlying2 h2;obtain⟨Y,bh,Z,cg,bt,co,f3,E,N⟩:=ZQ h3;obtain⟨be,bl,b9,bi,ce,br,f4,J,X⟩:=ZQ h4;simp only[List.cons.injEq,and_true]at f0 f1 f2 f3 f4;obtain⟨rfl,rfl,rfl,rfl⟩:=f0;obtain⟨rfl,rfl,rfl,rfl⟩:=f3;obtain⟨rfl,rfl,rfl,rfl⟩:=f4;subst f1 f2;obtain⟨o0,b0,s0⟩:=Qi (gx:=bg) (gy:=aY) M T;obtain⟨o1,b1,s1⟩:=Qi (gx:=Y) (gy:=Z) E N;obtain⟨o2,b2,s2⟩:=Qi (gx:=be) (gy:=b9) J X;obtain⟨_,_,rfl⟩:=M.ak;obtain⟨_,_,rfl⟩:=T.ak;obtain⟨_,_,rfl⟩:=E.ak;obtain⟨_,_,rfl⟩:=N.ak;obtain⟨_,_,rfl⟩:=J.ak;obtain⟨_,_,rfl⟩:=X.ak;refine⟨_,_,_,_,_,_,_,_,_,_,_,_,_,_,_,_,_,_,_,_,_,_,_,_,_,_,yG o0 o1 o2 none,rfl,b0,b1,b2,fun i hi=> ?_⟩
  rcases(show i=0\/i=1\/i=2 by omega)with rfl | rfl | rfl
  . exact s0
  . exact s1
  . exact s2
theorem Qj {J:Reach} {b0:Nat} {v:Ef} {d:DataW H} {p:List MemPlace} (hv:Value.okWide Ec W J b0 45 v) (h:DataW.Trod enc Ec W aX (fun _=>true) a9 45 v d p) :
  ∃ua1 ua2 ua3 ua4 ua5 ua6 ua7 ua8 ub1 ub2 ub3 ub4 ub5 ub6 ub7 ub8 uc1 uc2 uc3 uc4 uc5 uc6 uc7 uc8 R A,∃O:Nat->Option Rat,v = Ej #[Ez ua1,Ex ua2 ua3 ua4,Ez ua5,Ex ua6 ua7 ua8,Ey Ew R,Ey Ew A,Ez ub1,Ex ub2 ub3 ub4,Ez ub5,Ex ub6 ub7 ub8,Ez uc1,Ex uc2 uc3 uc4,Ez uc5,Ex uc6 uc7 uc8]/\FB W (Ej #[Ez ua1,Ex ua2 ua3 ua4,Ez ua5,Ex ua6 ua7 ua8]) (O 0)/\FB W (Ej #[Ez ub1,Ex ub2 ub3 ub4,Ez ub5,Ex ub6 ub7 ub8]) (O 1)/\FB W (Ej #[Ez uc1,Ex uc2 uc3 uc4,Ez uc5,Ex uc6 uc7 uc8]) (O 2)/\Yb O (yG ua3 ub3 uc3 uc3) (yG ua7 ub7 uc7 uc7) 3:=by
 obtain⟨cs,rfl,_⟩:=okWide_struct Tryz.underlying45 hv;obtain⟨E,M⟩:=h;obtain⟨ua1,ua2,ua3,ua4,ua5,ua6,ua7,ua8,ub1,ub2,ub3,ub4,ub5,ub6,ub7,ub8,uc1,uc2,uc3,uc4,uc5,uc6,uc7,uc8,R,A,O,e,h0,N,I,hw⟩:=Uf M;refine⟨ua1,ua2,ua3,ua4,ua5,ua6,ua7,ua8,ub1,ub2,ub3,ub4,ub5,ub6,ub7,ub8,uc1,uc2,uc3,uc4,uc5,uc6,uc7,uc8,R,A,O,?_,h0,N,I,hw⟩;have T:cs.toList = [Ez ua1,Ex ua2 ua3 ua4,Ez ua5,Ex ua6 ua7 ua8,Ey Ew R,Ey Ew A,Ez ub1,Ex ub2 ub3 ub4,Ez ub5,Ex ub6 ub7 ub8,Ez uc1,Ex uc2 uc3 uc4,Ez uc5,Ex uc6 uc7 uc8]:=e;rw[show cs=cs.toList.toArray by simp,T]
end
end Go.Proofs.YtffmbepfbienaaaGreat
/- A range Qo a function whose iterator makes memory, calls and draws between its rounds, and writes no memory that is old; match.near's way. -/
namespace Go.Proofs.YtffmbepfbienaaaGreat
section
open Go.RowKit
variable {b g o:Nat} {v:Ef} {w:Ee}
def Vt {α : Type} (F:Fence) (m:Nat) (P:Program) (gf:Nat) (lb:Array Ef) (encs : α->Array Ef) (Kp:Ee->Ee->Prop) (S:List α->Prop) (El:List α->α->Prop) (Pr:Ee->Prop):Prop:=
 ∀ (l:Nat) (J:List α->Ee->Prop) (A:Ee),Pr A->(∀{xs A B},J xs A->zf A B->J xs B)->
  (∀pre x B,J pre B->El pre x->A.heap.size<=B.heap.size->YieldAt F (m-1) P l (encs x) B fun e C=>e = Eh (Ez true)/\J (pre ++ [x]) C/\Kp B C)->
  J [] A->CallsIn F m P gf (#[.func (.yield l) #[] #[]]++lb) A fun e C=>(∃v,e = Eh v)/\∃xs,S xs/\J xs C
section
variable {α : Type} {P:Program} {F:Fence} {n:Nat}
theorem Ks {g:Operand} {ps:Array Tmp} {assign body:Code} {Q:Exit->Act->Ee->Prop} {a:Act}
  (cn:F.round=none) (h1:1<=n) {gf:Nat} {lb:Array Ef} (hg:a.eval g = .func (.func gf) #[] lb) (dk:F.fn gf) (eg:∀args w,(callFunc gf args).run P w = .ok (.enter gf args) w)
  {encs : α->Array Ef} {Kp:Ee->Ee->Prop} {S:List α->Prop} {El:List α->α->Prop} {Pr:Ee->Prop} (bt:Vt F (n-1) P gf lb encs Kp S El Pr) (ci:∀o o',Pr ((w.alloc o).alloc o')) (dl:∀x,(encs x).size=ps.size)
  (bg:∀{A B C:Ee},Kp A B->Kp B C->Kp A C) (bl:∀ (A:Ee) (o o':Obj),A.heap[w.heap.size+1]? = some o->o.isCells=false->Kp A (A.putObj (w.heap.size+1) o'))
  (I:List α->Ee->Prop) (hI:∀{xs A B},I xs A->zf A B->I xs B) (be:∀xs A (o o':Obj),I xs A->A.heap[w.heap.size+1]? = some o->o.isCells=false->I xs (A.putObj (w.heap.size+1) o'))
  (h0:I [] w) (Ax : α->Act->Ee->Prop) (cy:∀x T A (o o':Obj),Ax x T A->A.heap[w.heap.size+1]? = some o->o.isCells=false->Ax x T (A.putObj (w.heap.size+1) o'))
  (N:∀ (pre:List α) (x : α) (A:Ee) (K:Act->Ee->Prop),I pre A->El pre x->w.heap.size+2<=A.heap.size->(∀T X,KeepsOthers A X->Kp A X->I pre X->Ax x T X->K T X)->
   assign.wpIn (F.inRound (w.heap.size+1)) (n-1-1) P (Exit.then K (fun _ _ _=>False)) { tmps:=(ps.zip (encs x)).foldl (fun t (p,v)=>t.setIfInBounds p v) a.tmps,defers:= [] } A)
  (aY:∀ (pre:List α) (x : α) (T:Act) (A:Ee),(∃r,A.heap[w.heap.size+1]? = some (.loop r))->I pre A->Ax x T A->El pre x->w.heap.size+2<=A.heap.size->
   body.wpIn (F.inRound (w.heap.size+1)) (n-1-1) P (ownPostG w.heap.size Kp I (fun _ _ _=>False) (pre ++ [x]) A) T A)
  (b9:∀ (D:Nat) (xs:List α) (A:Ee),w.heap.size<=D->S xs->I xs A->A.heap[D]? = some (.deferred (some []))->Q .normal { a with defers:={ target:= .collected D,args:=#[] } :: a.defers } A) :
  (Code.rangeFunc g ps assign body).wpIn F n P Q a w:=by
 refine wpIn_rangeFunc fun fn cN=> ?_;rw[cn]
 -- the loop's record in its states
 obtain⟨J,E⟩:∃J:LoopState->Option Code->Loop,∀s p,J s p = { state:=s,pending:=p,fn:=fn,tmps:=a.tmps,params:=ps,assign:=assign,body:=body,defers:=w.heap.size }:=⟨_,fun _ _=>rfl⟩
 let D:=w.heap.size
 let L:=w.heap.size+1
 have hL:L=w.heap.size+1:=rfl
 let Ok:Ee->Prop:=fun A=>A.heap[L]? = some (.loop (J .ready none))/\A.heap[D]? = some (.deferred (some []))
 let W:=(w.alloc (.deferred (some []))).alloc (.loop (J .ready none))
 have dx:W.heap.size=w.heap.size+2:=by simp[W]
 have co:Ok W:=by
  constructor
  .
   have:=World.alloc_heap_new (w.alloc (.deferred (some []))) (.loop (J .ready none))
   rwa[World.size_alloc]at this
  . exact(Below.heap_alloc _ _ _ (by simp[D])).trans (World.alloc_heap_new w _)
 have Y:∀{A B:Ee},KeepsOthers A B->Ok A->Ok B:=fun k h=>⟨k.same _ _ h.1 rfl,k.same _ _ h.2 rfl⟩;have br:∀{pre A B},(I pre A/\Ok A)->zf A B->I pre B/\Ok B:=fun h s=>⟨hI h.1 s,Y ⟨s.size,fun k o hk _=>(s.block k (Array.getElem?_eq_some_iff.1 hk).1).trans hk⟩ h.2⟩;refine⟨L,[{ target:= .collected D,args:=#[] }],W,{ target:= .fn (.func gf) lb,args:=#[.func (.yield L) #[] #[]] },W,gf,#[.func (.yield L) #[] #[]]++lb,W,?_,?_,?_,?_,fun _=>h1,?_⟩
 .
  show _=Result.ok _ ((w.alloc _).alloc (.loop (J .ready none)))
  rw[E]; exact run_enterLoop_outer _ _ _ _ _
 . simp only[resolve,hg]; simp[go_sem]
 . intro f' bi; simp[Target.leads]at bi; subst bi; exact dk
 . simp[invoke,go_sem,eg]
 have s0:zf w W:=((Below.refl _ _).alloc (Eo _) _).alloc D9 _;refine(bt L (fun pre A=>I pre A/\Ok A) W (ci _ _) br ?_ ⟨hI h0 s0,co⟩).mono ?_
 .
  rintro pre x B ⟨hi,hb⟩ Z bh;rw[dx]at bh;have hy:=run_yield (P:=P) (args:=encs x) hb.1 (by rw[E]; exact dl x);rw[E]at hy;refine⟨fn,_,assign,body,hy,roundIn_of_wpIn cN (N pre x B _ hi Z bh fun T X ko kp cU cx=> ?_)⟩;have M:=Y ko hb;have ce:L<X.heap.size:=(Array.getElem?_eq_some_iff.1 M.1).1;refine⟨_,run_beginRound M.1 (by rw[E]),?_⟩;generalize hbusy : { J .ready none with state:=LoopState.busy } = busy;have e2:(X.putObj L (.loop busy)).heap[L]? = some (.loop busy):=World.putObj_heap_same ce;have e3:(X.putObj L (.loop busy)).heap[D]? = some (.deferred (some [])):=(World.putObj_heap_other (show D≠L by omega)).trans M.2;refine wpIn_mono (aY pre x T _ ⟨_,e2⟩ (be _ _ _ _ cU M.1 rfl) (cy _ _ _ _ _ cx M.1 rfl) Z (by have h3:=ko.size; have h4:=(grownBy_putObj' X L (.loop busy)).size; omega)) ?_;rintro e a3 C hp
  cases e with
  | normal=>
   obtain⟨k3,cg,i3⟩:=hp;have e4:C.heap[L]? = some (.loop busy):=k3.same _ _ (show w.heap.size<=L by omega) e2 rfl;have e5:C.heap[D]? = some (.deferred (some [])):=k3.same _ _ (Eo _) e3 rfl;have d9:L<C.heap.size:=(Array.getElem?_eq_some_iff.1 e4).1;have hr:=run_endRound (P:=P) none e4;have dc : { busy with state:=if(none:Option Code).isNone then LoopState.ready else .done,pending:=none } = J .ready none:=by rw[<- hbusy,E]; rfl
   rw[dc]at hr;exact⟨_,_,hr,rfl,⟨be _ _ _ _ i3 e4 rfl,World.putObj_heap_same d9,(World.putObj_heap_other (show D≠L by omega)).trans e5⟩,bg kp (bg (bg (bl _ _ _ M.1 rfl) cg) (bl _ _ _ e4 rfl))⟩
  | ret=>exact hp.2.elim
  | exit id=>exact hp.2.elim
  | goto t=>exact hp.2.elim
  | panic ch=>exact hp.elim
  | outgrown=>exact hp.elim
 .
  rintro e C ⟨⟨v,rfl⟩,xs,hS,hi,hc⟩;have hr:=run_endLoop (P:=P) hc.1 (by rw[E]; simp);rw[show (J LoopState.ready none).pending=none by rw[E]]at hr;exact⟨none,_,hr,b9 D xs _ (Eo _) hS (be _ _ _ _ hi hc.1 rfl) ((World.putObj_heap_other (show D≠L by omega)).trans hc.2)⟩
end
theorem Wv (h:w.cell? ⟨b,o,none⟩=some v):∃cs t z,w.heap[b]? = some (.cells cs t z):=by
 unfold World.cell? at h
 split at h
 . exact⟨_,_,_,by assumption⟩
 . cases h
def dJ (w:Ee) (g:Nat):Prop:=∃x,ai w g 123 #[Ek x]
structure KG (g:Nat) (A B:Ee):Prop where
 size:A.heap.size<=B.heap.size
 af:av A B
 cells:∀k cs t z,k≠g->A.heap[k]? = some (.cells cs t z)->B.heap[k]? = A.heap[k]?
 pp:dJ A g->dJ B g
theorem KG.refl (g:Nat) (A:Ee):KG g A A:=⟨Eo _,av.refl _,fun _ _ _ _ _ _=>rfl,id⟩
theorem KG.trans {A B C:Ee} (h:KG g A B) (k:KG g B C):KG g A C:=
 ⟨Nat.le_trans h.size k.size,h.af.trans k.af,fun i cs t z E e=>(k.cells i cs t z E ((h.cells i cs t z E e).trans e)).trans (h.cells i cs t z E e),k.pp∘h.pp⟩
theorem KG.ae {A B:Ee} (s:zf A B):KG g A B:=
 ⟨s.size,av.ae s,fun k cs t z _ e=>s.block k (Array.getElem?_eq_some_iff.1 e).1,fun⟨x,h⟩=>⟨x,h.ae s⟩⟩
theorem KG.put {l:Nat} {A:Ee} {o E:Obj} (h:A.heap[l]? = some o) (hc:o.isCells=false):KG g A (A.putObj l E):=
 ⟨(grownBy_putObj' A l E).size,fun v N M=>kz M (grownBy_putObj' A l E) (fun r e=>by cases e; exact⟨o,h,hc⟩),
  fun k cs t z _ e=>World.putObj_heap_other (fun I=>by subst I; rw[h]at e; cases e; cases hc),fun⟨x,J⟩=>⟨x,yi J (grownBy_putObj' A l E) (fun r e=>by cases e; exact⟨o,h,hc⟩)⟩⟩
theorem KG.bz {k:Nat} {A B:Ee} {t:Ei} {cs:Array Ef} (h:KG g A B) (E:ai A k t cs) (I:k≠g):ai B k t cs:=(h.cells k cs t (0,0) I E).trans E
theorem dJ.not (h:dJ w g) (hc:w.cell? ⟨g,o,none⟩=some v):o=0/\∃x,v = Ek x:=by
 obtain⟨x,E⟩:=h;have c:=E.cell o;rw[hc]at c
 cases o with
 | zero=>simp at c; exact⟨rfl,x,c⟩
 | succ o=>simp at c
theorem KG.cell {A B:Ee} (h:KG g A B) (E:b≠g) (hc:A.cell? ⟨b,o,none⟩=some v):B.cell? ⟨b,o,none⟩=some v:=by
 obtain⟨cs,t,z,e⟩:=Wv hc;have:=h.cells b cs t z E e;unfold World.cell? at hc|-;rw[this]; exact hc
theorem dW.kg {A B:Ee} {n:Nat} {M:Nat->Array Ef} {R:Nat->Nat->Option Rat} (h:dW A v n M R) (Y:dJ A g) (k:KG g A B):dW B v n M R:=by
 obtain⟨E,ao,cap,e,hc,X⟩:=h;refine⟨fun t ht=>(E t ht).af k.af,ao,cap,e,hc,fun J=> ?_⟩;obtain⟨b,o,T,Z,N⟩:=X J
 have hg:b≠g:=by
  rintro rfl;have I:=(E 0 J).1;have c:=N 0 J 5 D5;rw[Array.getElem?_eq_getElem D5]at c;have:=(Y.not c).1;omega
 refine⟨b,o,T,Nat.lt_of_lt_of_le Z k.size,fun t ht j hj=> ?_⟩;have I:=(E t ht).1;have c:=N t ht j hj;rw[Array.getElem?_eq_getElem D5]at c|-;exact k.cell hg c
theorem aM.kg {A B:Ee} {l:List Int} (h:aM A v l) (T:dJ A g) (k:KG g A B):aM B v l:=by
 obtain⟨ao,cap,e,hc,M⟩:=h;refine⟨ao,cap,e,hc,fun E=> ?_⟩;obtain⟨b,o,J,X,I⟩:=M E
 have hg:b≠g:=by
  rintro rfl;obtain⟨_,x,N⟩:=T.not (I 0 (List.length_pos_iff.2 E))
  cases N
 exact⟨b,o,J,Nat.lt_of_lt_of_le X k.size,fun t ht=>k.cell hg (I t ht)⟩
def fN (R:Nat->Nat->Option Rat) (q:Nat->Option Rat) (off:Rat):Nat->List Nat
 | 0=> []
 | t+1=>if xi (rq (R t)) (rq q) off 4 then fN R q off t ++ [t]else fN R q off t
theorem Ww (R:Nat->Nat->Option Rat) (q:Nat->Option Rat) (off:Rat):∀n,jA R q off n=(fN R q off n).map (fun t:Nat=>(t:Int)):=by
 intro n
 induction n with
 | zero=>rfl
 | succ n ih=>
  show (if _ then _ else _)=List.map _ (if _ then _ else _)
  split
  . rw[ih,List.map_append]; rfl
  . exact ih
theorem GN (R:Nat->Nat->Option Rat) (q:Nat->Option Rat) (off:Rat):∀n,∀t∈fN R q off n,t<n:=by
 intro n
 induction n with
 | zero=>intro t h; cases h
 | succ n ih=>
  intro t h
  have:t∈fN R q off n\/t=n:=by
   unfold fN at h
   split at h
   .
    rcases List.mem_append.1 h with h | h
    . exact .inl h
    . exact .inr (List.mem_singleton.1 h)
   . exact .inl h
  rcases this with h | rfl
  . exact Nat.lt_succ_of_lt (ih t h)
  . exact Nat.lt_succ_self _
theorem Hy (R:Nat->Nat->Option Rat) (q:Nat->Option Rat) (off:Rat) (n:Nat):(fN R q off n).length<=n:=by
 have:=ZM R q off n;rw[Ww,List.length_map]at this; exact this
def qo (F:Nat->List Nat):Nat->List (Nat×Nat)
 | 0=> []
 | i+1=>qo F i++(F i).map (fun k=>(i,k))
def Vu (CA CB:Nat->Array Ef) (x:Nat×Nat):Array Ef:=#[Ej (CA x.1),Ej (CB x.2)]
end
section
open Go.RowKit Go.Shelf
attribute [local go_sem] Oper.semAt_some
structure cM (B0 B1 B2 g na nb:Nat) (ao bo:Option Addr) (ca cb:Nat) (CA CB:Nat->Array Ef) (RA RB:Nat->Nat->Option Rat) (FT:Array Ef) (o:Option Rat) (A:Ee):Prop where
 o0:ai A B0 76 #[Ex ao na ca]
 o1:ai A B1 76 #[Ex bo nb cb]
 o2:ai A B2 28 FT
 qa:dW A (Ex ao na ca) na CA RA
 qb:dW A (Ex bo nb cb) nb CB RB
 fb:FB A (Ej FT) o
 pp:dJ A g
section
variable {B0 B1 B2 g na nb:Nat} {ao bo:Option Addr} {ca cb:Nat} {CA CB:Nat->Array Ef} {RA RB:Nat->Nat->Option Rat} {FT:Array Ef} {o:Option Rat} {A B:Ee}
theorem cM.kg (h:cM B0 B1 B2 g na nb ao bo ca cb CA CB RA RB FT o A) (k:KG g A B) (h0:B0≠g) (E:B1≠g) (I:B2≠g):cM B0 B1 B2 g na nb ao bo ca cb CA CB RA RB FT o B:=
 ⟨k.bz h.o0 h0,k.bz h.o1 E,k.bz h.o2 I,h.qa.kg h.pp k,h.qb.kg h.pp k,h.fb.af k.af,k.pp h.pp⟩
theorem cM.ae (h:cM B0 B1 B2 g na nb ao bo ca cb CA CB RA RB FT o A) (s:zf A B):cM B0 B1 B2 g na nb ao bo ca cb CA CB RA RB FT o B:=
 ⟨h.o0.ae s,h.o1.ae s,h.o2.ae s,h.qa.ae s,h.qb.ae s,h.fb.af (av.ae s),(KG.ae s).pp h.pp⟩
end
theorem Jz (w:Ee) (m:Nat):zf w (w.drewN m):=yX (Below.refl _ _) m
theorem Wx (F:Fence) (n:Nat) (h5:F.fn 72) (E:F.round=none) (ao bo:Option Addr) (a1 a2 b1 b2:Nat) (Z T:Bool) (Y N:Option Addr) (I J M X:Nat) (w:Ee) :
  CallsIn F n Ec 72 #[Ex ao a1 a2,Ex bo b1 b2,Ej #[Ez Z,Ex Y I J,Ez T,Ex N M X]] w fun e w'=>e = Eh (.func (.func 109) #[] #[Ek (some ⟨w.heap.size,0,none⟩),Ek (some ⟨w.heap.size+1,0,none⟩),Ek (some ⟨w.heap.size+1+1,0,none⟩)])/\
   w'=((w.alloc (.cells #[Ex ao a1 a2] 76)).alloc (.cells #[Ex bo b1 b2] 76)).alloc (.cells #[Ez Z,Ex Y I J,Ez T,Ex N M X] 28):=by
 refine callsIn_of_wp Tryz.func72 rfl h5 ?_ E;simp only[Tryz.ntmps72,List.size_toArray,List.length_cons,List.length_nil,Nat.reduceAdd,Nat.reduceSub,Array.replicate_succ,Array.replicate_zero,List.push_toArray,List.append_toArray,List.nil_append,List.cons_append]
 gi_wp2
 go_ret
 exact⟨rfl,rfl⟩
theorem Kt (m B0 B1 B2 g na nb:Nat) (ao bo:Option Addr) (ca cb:Nat) (CA CB:Nat->Array Ef) (RA RB:Nat->Nat->Option Rat) (t1 t5:Bool) (t2 t6:Option Addr) (t3 t4 t7 t8:Nat) (o:Option Rat) (F:Nat->List Nat)
  (n0:B0≠g) (n1:B1≠g) (n2:B2≠g) (ln:nb<=1000) (la:na<=1000) (hF:∀i,i<na->(Z4 nb RB (RA i) o).1=(F i).map (fun t:Nat=>(t:Int))) (aY:∀i,i<na->∀t∈F i,t<nb) (f7:∀i,i<na->(F i).length<=1000)
  (sR:∀t,t<nb->∀i,i<4->sz (rq (RB t) i) 500) (sA:∀t,t<na->∀i,i<4->sz (rq (RA t) i) 500) (sf:sz (rq (fun _=>o) 0) 500) :
  Vt Fence.wide m Ec 109 #[Ek (some ⟨B0,0,none⟩),Ek (some ⟨B1,0,none⟩),Ek (some ⟨B2,0,none⟩)] (Vu CA CB) (KG g) (fun xs=>xs=qo F na) (fun _ x=>x.1<na/\x.2<nb)
   (cM B0 B1 B2 g na nb ao bo ca cb CA CB RA RB #[Ez t1,Ex t2 t3 t4,Ez t5,Ex t6 t7 t8] o):=by
 intro l J W0 Y hC hY h0;have em:Fence.wide.round=none:=rfl;have HC:Hid (∀{xs A B},J xs A->zf A B->J xs B):=E6 hC;have HY:=E6 hY;have HF:=E6 hF;have HL:=E6 aY;have HN:=E6 Y;have H0:=E6 h0;have HZ:=E6 (E7 sR (E7 sA sf));have c0:W0.cell? ⟨B0,0,none⟩=some (Ex ao na ca):=Y.o0.c 0 rfl;clear hC hY hF aY Y h0 sR sA sf;refine callsIn_of_wp Tryz.func109 rfl trivial ?_ em;simp only[Tryz.ntmps109,List.size_toArray,List.length_cons,List.length_nil,Nat.reduceAdd,Nat.reduceSub,Array.replicate_succ,Array.replicate_zero,List.push_toArray,List.append_toArray,List.nil_append,List.cons_append]
 gi_wp2_with fail
 clear c0
 gi_loopw [13] (fun k wr=>∃i:Nat,i<=na/\k = Ey Ew (i:Nat)/\J (qo F i) wr/\cM B0 B1 B2 g na nb ao bo ca cb CA CB RA RB #[Ez t1,Ex t2 t3 t4,Ez t5,Ex t6 t7 t8] o wr/\W0.heap.size<=wr.heap.size) (fun k _=>na-(intOf k).toNat)
 case atStart=>exact⟨0,Nat.zero_le _,rfl,H0.out,HN.out,Eo _⟩
 case round=>
  rename Ee=>wo;clear HN H0;obtain⟨i,hi,rfl,I,hb,br⟩:=hrel
  rcases Nat.lt_or_ge i na with il | il
  .
   have aY:decide ((i:Int)<(na:Int))=true:=E_ D5;have HB:=E6 hb;have HJ:=E6 I;have pg:wo.heap.size≠g:=by obtain⟨x,hx⟩:=hb.pp; have:=hx.lt; omega
   obtain⟨ba,oa,rfl,f8,E⟩:=hb.qa.at il;have qx:=hb.qa.1 i il;obtain⟨C,dx⟩:∃C,CA i=C:=⟨_,rfl⟩;rw[dx]at E qx;have be:=qx.1;have bh:=qx.2.1;have b9:∀j,j<C.size->wo.cell? ⟨ba,oa+i*20+j,none⟩=C[j]? :=fun j I=>E j D5;have ic:(Tryz.prog.info? 83).map (·.size)=some C.size:=by rw[be]; kernel_rfl
   have HX:=E6 qx;clear hb I E qx
   gi_upto_region 2 with fail
   refine wpIn_wide.2 (wp_region_lit ?_)
   repeat' (first | ((with_reducible show wpList _ _ _ (⟨some 16,_,_,_,_,_⟩::_) _ _); refine j8 rfl 83 (.tmp 15) rfl ba (oa+i*20) rfl C _ b9 Tryz.underlying83 rfl ic ?_) | ((with_reducible show wpList _ _ _ (⟨none,.store _ _ _,_,_,_,_⟩::_) _ _); refine zF rfl 83 (.tmp 6) (.tmp 16) rfl wo.heap.size C rfl rfl 83 ZT zw ic be.symm bh (fun w5 r5=> ?_)) | go_values | go_skip | go_guarded | go_step | go_upon)
   have Z:zf wo w5:=r5.below ((Below.refl wo.heap.size wo).alloc (Eo _) _) (Eo _);have oq:=r5.bz;have N:=HB.out.ae Z;have ce:=HC.out HJ.out Z;have cf:=Ch w5 N.qb ln (HX.out.ae Z) N.fb HZ.out.1 (HZ.out.2.1 i il) HZ.out.2.2;rw[HF.out i il]at cf;have bg:W0.heap.size<=w5.heap.size:=Nat.le_trans br Z.size;have dz:=E6 N;have dc:=E6 ce;have c1:w5.cell? ⟨B1,0,none⟩=some (Ex bo nb cb):=N.o1.c 0 rfl;have d0:w5.cell? ⟨B2,0,none⟩=some (Ez t1):=N.o2.c 0 rfl;have d1:w5.cell? ⟨B2,1,none⟩=some (Ex t2 t3 t4):=N.o2.c 1 rfl;have d2:w5.cell? ⟨B2,2,none⟩=some (Ez t5):=N.o2.c 2 rfl;have d3:w5.cell? ⟨B2,3,none⟩=some (Ex t6 t7 t8):=N.o2.c 3 rfl;have ci:=E6 (HL.out i il);have fl:=f7 i il;have HE:Hid (qo F (i+1)=qo F i++(F i).map (fun k=>(i,k))):=E6 rfl;obtain⟨M,dk⟩:∃M,F i=M:=⟨_,rfl⟩;rw[dk]at cf HE ci fl;obtain⟨er,dy⟩:∃er,(Z4 nb RB (RA i) o).2=er:=⟨_,rfl⟩;rw[dy]at cf;clear dk dy N ce Z r5 b9 bh HB HJ HF HX f8 br
   gi_upto_region 3 with fail
   refine wpIn_wide.2 (wp_region_lit ?_)
   repeat' (first | ((with_reducible show wpList _ _ _ (⟨some 19,_,_,_,_,_⟩::_) _ _); refine ZL rfl 83 (.tmp 6) rfl wo.heap.size rfl 83 C _ oq Tryz.underlying83 rfl ic ?_) | go_values | go_skip | go_guarded | go_step | go_upon)
   refine cf.mono ?_;rintro e w6 ⟨u,rfl,hu,X⟩;have cN:=oq.ae X;have cg:=dz.out.ae X;have cx:=HC.out dc.out X;have bi:W0.heap.size<=w6.heap.size:=Nat.le_trans bg X.size;have bl:(M.map (fun t:Nat=>(t:Int))).length=M.length:=List.length_map _;obtain⟨uo,uc,rfl⟩:=hu.ak;rw[bl]at hu;rw[bl];have H6:=E6 (E7 cg (E7 cx (E7 cN (E7 hu bi))));generalize wo.heap.size=pq at *;clear c1 d0 d1 d2 d3 cf oq dz dc cg cx cN hu bg bi X bl;dsimp only
   repeat' (first | go_values | go_skip | go_guarded | go_step | go_upon)
   gi_wp2_with fail
   gi_loopw [26] (fun k wr=>∃j:Nat,j<=M.length/\k = Ey Ew (j:Nat)/\J (qo F i++(M.take j).map (fun k=>(i,k))) wr/\cM B0 B1 B2 g na nb (some ⟨ba,oa,none⟩) bo ca cb CA CB RA RB #[Ez t1,Ex t2 t3 t4,Ez t5,Ex t6 t7 t8] o wr/\ai wr pq 83 C/\aM wr (Ex uo M.length uc) (M.map (fun t:Nat=>(t:Int)))/\W0.heap.size<=wr.heap.size) (fun k _=>M.length-(intOf k).toNat)
   case atStart=>exact⟨0,Nat.zero_le _,rfl,by rw[List.take_zero,List.map_nil,List.append_nil]; exact H6.out.2.1,H6.out.1,H6.out.2.2.1,H6.out.2.2.2.1,H6.out.2.2.2.2⟩
   case round=>
    rename Ee=>wi;clear H6;obtain⟨j,I,rfl,hJ,hB,oq,hu,hs⟩:=hrel
    rcases Nat.lt_or_ge j M.length with jl | jl
    .
     have d9:decide ((j:Int)<(M.length:Int))=true:=E_ D5;obtain⟨k,hk⟩:∃k,M[j]=k:=⟨_,rfl⟩;have kn:k<nb:=ci.out k (hk▸List.getElem_mem jl);have HT:Hid (M.take (j+1)=M.take j ++ [k]):=E6 (by rw[List.take_add_one,List.getElem?_eq_getElem jl,hk]; rfl);obtain⟨ub,uf,rfl,eM,dP⟩:=hu.fv (t:=j) (by rw[List.length_map]; exact jl)
     have eg:(M.map (fun t:Nat=>(t:Int))).getD j 0=(k:Int):=by
      rw[List.getD_eq_getElem?_getD,List.getElem?_map,List.getElem?_eq_getElem jl,hk]; rfl
     rw[eg]at dP;obtain⟨bb,ob,rfl,ey,E⟩:=hB.qb.at kn;have qx:=hB.qb.1 k kn;obtain⟨D_,dl⟩:∃C,CB k=C:=⟨_,rfl⟩;rw[dl]at E qx;have cn:=qx.1;have b9:∀j,j<D_.size->wi.cell? ⟨bb,ob+k*20+j,none⟩=D_[j]? :=fun j I=>E j D5;have eW:(Tryz.prog.info? 83).map (·.size)=some D_.size:=by rw[cn]; kernel_rfl
     have c1:wi.cell? ⟨B1,0,none⟩=some (Ex (some ⟨bb,ob,none⟩) nb cb):=hB.o1.c 0 rfl;have fd:decide ((k:Int)<(nb:Int))=true:=E_ D5;have HI:=E6 (E7 hJ (E7 hB (E7 oq (E7 hu hs))));have ft:=E6 hk;clear hJ hB hu hs E qx eM ey eg hk
     gi_wp2_with fail
     refine aT.bQ (fun D _ W'=>D 6=false->∃m,W'=wi.drewN m) (aj.inl [6]) (aj.gv [(6,fun x=>x = Ez true)])
      (gw [(6,fun x W'=>x = Ez true/\J (qo F i++(M.take j).map (fun k=>(i,k)) ++ [(i,k)]) W'/\KG g wi W')]) (fun _=>aj.Any) (fun _ _=>False) (aj.pl [(8,[(6,some 36)])]) (aj.pl [(1,[6]),(2,[6]),(5,[6])])
      D6 D6 D6 (aj.bj _ (by intro p hp; simp only[List.mem_cons,List.not_mem_nil,or_false]at hp; rcases hp with rfl; exact⟨_,rfl⟩)) (fun _ _=>⟨1,rfl⟩) (fun _ _ _ _ _ h=>h)
      (fun D v k j W W' x ek I hk _ _ _=>absurd ((by simpa[aj.inl]using I:j=6).trans (by simpa[aj.inl]using hk:k=6).symm) ek) (fun _ _ _ _ h=>h.elim) (fun cU Q' T hQ=> ?_)
     refine aT.RY T _ ?_;apply aT.bD (hc:=rfl) (hst:=rfl) (hw:=rfl) (t:=31) (hd:=rfl) (ht:=Eb rfl)
     .
      intro D v' W' hc I hf K hK;obtain⟨m',rfl⟩:=I (hc.2 6 D7);refine wp_load_row 83 (.tmp 6) rfl pq rfl 83 C (0,0) _ (oq.drewN m') Tryz.underlying83 rfl ic ?_;exact hK.out
     . rfl
     refine aT.aB (b:=⟨#[_,_,_,_,_,_,_,_,_,_,_,_,_,_,_,_,_,_,_,_,_,_,_,_,_,_,_,_,_,_,_,_,_,_,_,_,_,_,_,_],_⟩) rfl ?_;apply aT.bD (hc:=rfl) (hst:=rfl) (hw:=rfl) (t:=32) (hd:=rfl) (ht:=Eb rfl)
     .
      intro D v' W' hc I hf K hK;obtain⟨m',rfl⟩:=I (hc.2 6 D7);have fe:(wi.drewN m').cell? ⟨B1,0,none⟩=some (Ex (some ⟨bb,ob,none⟩) nb cb):=c1;go_step;exact hK.out
     . rfl
     repeat refine aT.RY T _ ?_
     apply aT.bD (hc:=rfl) (hst:=rfl) (hw:=rfl) (t:=35) (hd:=rfl) (ht:=Eb rfl)
     .
      intro D v' W' hc I hf K hK;obtain⟨m',rfl⟩:=I (hc.2 6 D7);refine j7 83 (.tmp 34) rfl bb (ob+k*20) rfl D_ _ (fun j I=>b9 j I) Tryz.underlying83 rfl eW ?_;exact hK.out
     . rfl
     refine aT.aB (b:=⟨#[_,_,_,_,_,_,_,_,_,_,_,_,_,_,_,_,_,_,_,_,_,_,_,_,_,_,_,_,_,_,_,_,_,_,_,_,_,_,_,_],_⟩) rfl ?_;refine aT.aC (n:=m) rfl (by intro t ht; cases ht; exact Eb rfl) (by rw[T]; rfl) (fun D v' W' hc I hf K hK=> ?_) ?_
     .
      obtain⟨m',rfl⟩:=I hc.1;have sd:=Jz wi m';obtain⟨fn,tmps,assign,body,hy,hR⟩:=HY.out _ (i,k) (wi.drewN m') (HC.out HI.out.1 sd) ⟨il,kn⟩ (Nat.le_trans HI.out.2.2.2.2 sd.size);unfold Vu at hy;dsimp only at hy;rw[dx,dl]at hy;unfold Oper.wpIn;refine⟨fun _ _=>trivial,?_⟩;rw[show Oper.semAt Fence.wide.round _ _=execOp _ _ from rfl];have bt:∀x y,x=Sem.run Ec (Instr.yield l #[Ej C,Ej D_]) (wi.drewN m')->y=x->y = .ok (.round l fn tmps assign body) (wi.drewN m'):=fun x y e1 e2=>by rw[e2,e1]; exact hy
      rw[bt _ (Sem.run _ _ _) rfl (by simp[execOp,go_sem,Act.eval]),Oper.uponIn_round];refine⟨fun h=>(by cases h),jF (hR.mono ?_)⟩;rintro e W3 ⟨rfl,f9,ed⟩;exact hK.out _ _ aj.any (fun h=>by cases h) ⟨rfl,f9,(KG.ae sd).trans ed⟩ rfl
     rintro _ rfl;refine aT.aB (b:=⟨#[_,_,_,_,_,_,_,_,_,_,_,_,_,_,_,_,_,_,_,_,_,_,_,_,_,_,_,_,_,_,_,_,_,_,_,_,_,_,_,_],_⟩) rfl ?_;refine aT.RY T _ ?_;refine aT.aF (fun Dn v' W4 hd I hf=> ?_);have hg:=(hf (6,some 36) (.head _) rfl).2.2;clear hd hf I;obtain⟨cy,co⟩:J (qo F i++(M.take j).map (fun k=>(i,k)) ++ [(i,k)]) W4/\KG g wi W4:=hg.2;clear hg;refine hQ _ _ ?_;clear hQ T Q' cU;have HG:=E6 (E7 cy co);clear cy co
     gi_wp2
     go_roundw
     case rel=>
      refine⟨j+1,by omega,by go_num,?_,HI.out.2.1.kg HG.out.2 n0 n1 n2,HG.out.2.bz HI.out.2.2.1 pg,HI.out.2.2.2.1.kg HI.out.2.1.pp HG.out.2,Nat.le_trans HI.out.2.2.2.2 HG.out.2.size⟩;rw[HT.out,List.map_append,<- List.append_assoc];exact HG.out.1
     case measure=>simp[intOf]; omega
    .
     obtain rfl:j=M.length:=D5
     have d9:decide ((M.length:Int)<(M.length:Int))=false:=E' D5;rw[List.take_length,<- HE.out]at hJ;have HJ:=E6 (E7 hJ (E7 hB hs));clear hJ hB oq hu hs
     gi_wp2_with fail
     go_roundw
     case rel=>exact⟨i+1,by omega,by go_num,HJ.out.1,HJ.out.2.1,HJ.out.2.2⟩
     case measure=>simp[intOf]; omega
  .
   obtain rfl:i=na:=D5
   have aY:decide ((i:Int)<(i:Int))=false:=E' D5;have HJ:=E6 I;clear I hb br
   gi_wp2_with fail
   go_end0
   exact⟨⟨_,rfl⟩,_,rfl,HJ.out⟩
end
end Go.Proofs.YtffmbepfbienaaaGreat
/- MatchSearches without the program: the xN of the candidates, in the order in which they come. -/
namespace Go.Proofs.YtffmbepfbienaaaGreat
section
open Go.RowKit
variable {x y:Nat×Nat} {o:Nat×Nat->Rat} {e:Option (Nat×Nat)} {l:PL}
theorem Kv:∀p∈bV,p.1<4/\p.2.1<4/\p.2.2.1<4/\p.2.2.2<4:=by decide
theorem Wz {xs:List P4} {A:aV} (h:A∈qs l xs):∃x∈xs,0<jB l (K4 x)/\A=yA l (K4 x):=by
 unfold qs at h;obtain⟨x,E,e⟩:=List.mem_filterMap.1 h
 by_cases g:0<jB l (K4 x)
 . rw[E8 g]at e; cases e; exact⟨x,E,g,rfl⟩
 . rw[E9 g]at e; cases e
structure eH (l:PL) (A:aV):Prop where
 ex:∃j0 j1 j2 j3:Nat,A.k0=j0/\A.k1=j1/\A.k2=j2/\A.k3=j3/\j0<l.length/\j1<l.length/\j2<l.length/\j3<l.length/\kh ((pt l j1).1-(pt l j0).1) ((pt l j1).2-(pt l j0).2)≠0
theorem Cm {n:Nat} (I:n<=l.length) (N:n<=6) {A:aV} (h:A∈qs l (yy n)):eH l A:=by
 obtain⟨x,J,hw,rfl⟩:=Wz h;obtain⟨g1,Y,T,Z⟩:=ZJ ((Wy n N).2 x J);obtain⟨p,M,e⟩:=UO hw;have I:=(qU l _ hw).2.1
 have E:∀i,i<4->K4 x i<l.length:=fun i X=>by
  rcases(show i=0\/i=1\/i=2\/i=3 by omega)with rfl | rfl | rfl | rfl
  . show x.1<_; omega
  . show x.2.1<_; omega
  . show x.2.2.1<_; omega
  . show x.2.2.2<_; omega
 obtain⟨p0,p1,p2,p3⟩:=Kv p M;rw[e]at I|-;rw[WS]at I;refine⟨K4 x p.1,K4 x p.2.1,K4 x p.2.2.1,K4 x p.2.2.2,rfl,rfl,rfl,rfl,E _ p0,E _ p1,E _ p2,E _ p3,?_⟩;unfold dst XB at I;omega
def tX (l m:PL) (a b:List aV) (x:Nat×Nat):Nat->Rat:=
 jI (pt l (a.getD x.1 zK).k0.toNat) (pt l (a.getD x.1 zK).k1.toNat) (pt m (b.getD x.2 zK).k0.toNat) (pt m (b.getD x.2 zK).k1.toNat)
def pX (l m:PL) (a b:List aV) (E:Int) (x:Nat×Nat):List Int:=yY (tX l m a b x) (E:Rat) l m l.length
def oX (l m:PL) (a b:List aV) (E:Int) (I s:Rat) (x:Nat×Nat):Rat:=
 qr I s (pX l m a b E x) (Yc (a.getD x.1 zK).k0 (a.getD x.1 zK).k1 (a.getD x.1 zK).k2 (a.getD x.1 zK).k3) l.length
def q_ (o:Nat×Nat->Rat):Option (Nat×Nat)->Nat×Nat->Option (Nat×Nat)
 | none,x=>some x
 | some y,x=>if o y<o x then some x else some y
def qu (o:Nat×Nat->Rat) (xs:List (Nat×Nat)):Option (Nat×Nat):=xs.foldl (q_ o) none
theorem xM (o:Nat×Nat->Rat) (xs:List (Nat×Nat)) (x:Nat×Nat):qu o (xs ++ [x])=q_ o (qu o xs) x:=by unfold qu; rw[List.foldl_append]; rfl
theorem Qk (h:e=none):q_ o e x=some x:=by subst h; rfl
theorem Y4 (h:e=some y) (g:0<z8 (o x) (o y)):q_ o e x=some x:=by
 subst h;have:¬z8 (o x) (o y)<0:=D5
 have E:¬o x<o y:=fun h=>this (aU.2 h);have I:o x≠o y:=fun h=>by have:=Yi.2 h; omega
 exact E8 (Rat.lt_of_le_of_ne (Rat.not_lt.1 E) (Ne.symm I))
theorem XM (h:e=some y) (g:z8 (o x) (o y)<=0):q_ o e x=e:=by
 subst h;refine E9 fun h=> ?_
 rcases Int.lt_or_eq_of_le g with g | g
 . exact Rat.not_lt.2 (Rat.le_of_lt (aU.1 g)) h
 .
  have e:=Yi.1 g;rw[e]at h;exact Rat.lt_irrefl h
theorem XN {xs:List (Nat×Nat)} (h:qu o xs=some y):y∈xs:=by
 have:∀ (xs:List (Nat×Nat)) (e:Option (Nat×Nat)) (y:Nat×Nat),xs.foldl (q_ o) e=some y->y∈xs\/e=some y:=by
  intro xs
  induction xs with
  | nil=>intro e y h; exact .inr h
  | cons x xs ih=>
   intro e y h
   rcases ih _ _ h with h | h
   . exact .inl (.tail _ h)
   .
    cases e with
    | none=>cases h; exact .inl (.head _)
    | some z=>
     rw[show q_ o (some z) x=if o z<o x then some x else some z from rfl]at h
     split at h
     . cases h; exact .inl (.head _)
     . exact .inr h
 rcases this xs none y h with h | h
 . exact h
 . cases h
theorem Cn (k0 k1 k2 k3 i:Int):qz [k0,k1,k2,k3] i 4=((i==k0)||(i==k1)||(i==k2)||(i==k3)):=by
 unfold qz; unfold qz; unfold qz; unfold qz; unfold qz;rw[Bool.false_or]; rfl
theorem WA (k0 k1 k2 k3:Int):(fun i:Nat=>qz [k0,k1,k2,k3] (i:Int) [k0,k1,k2,k3].length)=Yc k0 k1 k2 k3:=by
 funext i
 exact Cn k0 k1 k2 k3 i
theorem Kw (l m:PL) (a b:List aV) (E:Int) (x:Nat×Nat):(pX l m a b E x).length=l.length:=jm _ _ _ _ _
theorem Y5 (f g:Nat->Rat) (off:Rat):∀n,xi f g off n=xi g f off n
 | 0=>rfl
 | n+1=>by
  unfold xi;rw[Y5 f g off n]
  have e:yJ (f n-g n)=yJ (g n-f n):=by
   have h:g n-f n = -(f n-g n):=by rw[Rat.neg_sub]
   rw[h];unfold yJ
   by_cases h1:f n-g n<0
   .
    have E:¬-(f n-g n)<0:=by
     intro I;have:=Rat.neg_lt_neg h1;rw[Rat.neg_zero]at this;exact Rat.not_lt.2 (Rat.le_of_lt this) I
    rw[E8 h1,E9 E]
   .
    rcases Rat.le_iff_lt_or_eq.1 (Rat.not_lt.1 h1)with E | E
    .
     have I : -(f n-g n)<0:=by have:=Rat.neg_lt_neg E; rwa[Rat.neg_zero]at this
     rw[E9 h1,E8 I,Rat.neg_neg]
    . rw[<- E]; rfl
  rw[e]
def vw (a b:List aV) (off:Rat):List (Nat×Nat):=
 qo (fun i=>fN (fun t j=>some (rA (b.getD t zK) j)) (fun j=>some (rA (a.getD i zK) j)) off b.length) a.length
def xC (ok:Bool) (l m:PL) (most R A:Int) (off s least:Rat):Int×Option (Nat×Nat):=
 if ok=false then(8,none)else if z6 l≠0 then(z6 l,none)else if z6 m≠0 then(z6 m,none)else if most<0\/12<most\/¬zC R A m.length<1 then(2,none)else
  match qu (oX l m (yO l most).2 (yO m most).2 R (yV s (zC R A m.length)) s) (vw (yO l most).2 (yO m most).2 off)with
  | none=>(6,none)
  | some x=>if oX l m (yO l most).2 (yO m most).2 R (yV s (zC R A m.length)) s x<least then(6,none)else(0,some x)
abbrev yF:Array Ef:=#[Ez false,Ex none 0 0,Ez false,Ex none 0 0,Ez false,Ex none 0 0,Ez false,Ex none 0 0,Ez false,Ex none 0 0,Ez false,Ex none 0 0,Ez false,Ex none 0 0,Ez false,Ex none 0 0,Ex none 0 0,Ez false,Ex none 0 0,Ez false,Ex none 0 0]
def cO (w:Ee) (v:Ef) (t:Nat->Rat) (p:List Int) (o:Rat):Prop:=∃cs u J X I Y M N T E,v = Ej (cs++#[u,Ez J,Ex X I Y,Ez M,Ex N T E])/\bY w (Ej cs) t/\aM w u p/\FR w (Ej #[Ez J,Ex X I Y,Ez M,Ex N T E]) o
def WB (w:Ee) (v:Ef) (l m:PL) (a b:List aV) (E:Int) (I s:Rat):Option (Nat×Nat)->Prop
 | none=>v = Ej yF
 | some x=>cO w v (tX l m a b x) (pX l m a b E x) (oX l m a b E I s x)
theorem Gn {most:Int} (Z:l.length<=6) (hc:z6 l=0) (h0:0<=most) (Y:most<=12):(yO l most).2.length<=15/\∀t,t<(yO l most).2.length->(∀i,sz (rA ((yO l most).2.getD t zK) i) 2)/\eH l ((yO l most).2.getD t zK):=by
 have e:yO l most=(0,qs l (yy (min most (l.length:Int)).toNat)):=by unfold yO; rw[E9 (by rw[hc]; simp),E9 D5]
 rw[e];obtain⟨n,T⟩:∃n,(min most (l.length:Int)).toNat=n:=⟨_,rfl⟩;rw[T];obtain⟨X,M⟩:=Wy n D5;refine⟨Nat.le_trans (J8 l _) X,fun t ht=> ?_⟩
 have J:(qs l (yy n)).getD t zK∈qs l (yy n):=by
  replace ht:t<(qs l (yy n)).length:=ht;rw[List.getD,List.getElem?_eq_getElem ht];exact List.getElem_mem ht
 show (∀i,sz (rA ((qs l (yy n)).getD t zK) i) 2)/\eH l ((qs l (yy n)).getD t zK)
 generalize (qs l (yy n)).getD t zK=a at J;refine⟨fun i=> ?_,Cm D5 D5 J⟩;obtain⟨x,N,hw,rfl⟩:=Wz J;have hg:=M x N;have E:∀i,K4 x i<l.length:=Vi hg D5;have I:∀i,kK (pt l (K4 x i)).1 (pt l (K4 x i)).2:=fun i=>Zv hc _ (E i);exact Ve (YX I hw) (by rw[(qU l _ hw).2.1]; exact hw) i
end
section
open Go.RowKit
variable {most:Int} {l:PL}
def JA (ok:Bool) (l m:PL):Int:=if ok=false then 8 else if z6 l≠0 then z6 l else if z6 m≠0 then z6 m else 2
theorem kY (h:z6 l=0) (h0:0<=most) (E:most<=12):(yO l most).1=0:=by unfold yO; rw[E9 (by rw[h]; simp),E9 D5]
theorem WC (h:z6 l=0) (E:most<0\/12<most):(yO l most).1=2:=by unfold yO; rw[E9 (by rw[h]; simp),E8 E]
set_option maxHeartbeats 6400000 in
set_option maxRecDepth 1000000 in
theorem JB {ua1 ua5 ub1 ub5 uc1 uc5:Bool} {ua2 ua6 ub2 ub6 uc2 uc6:Option Addr} {ua3 ua4 ua7 ua8 ub3 ub4 ub7 ub8 uc3 uc4 uc7 uc8:Nat} {R A:Int} {O:Nat->Option Rat} {vl vm:Ef} {m:PL} (most:Int) (w:Ee) (b0:FB w (Ej #[Ez ua1,Ex ua2 ua3 ua4,Ez ua5,Ex ua6 ua7 ua8]) (O 0)) (b1:FB w (Ej #[Ez ub1,Ex ub2 ub3 ub4,Ez ub5,Ex ub6 ub7 ub8]) (O 1)) (b2:FB w (Ej #[Ez uc1,Ex uc2 uc3 uc4,Ez uc5,Ex uc6 uc7 uc8]) (O 2)) (fw:Yb O (yG ua3 ub3 uc3 uc3) (yG ua7 ub7 uc7 uc7) 3) (hl:bP w vl l) (hm:bP w vm m) (zl:l.length<=6\/(200<l.length/\l.length<=210)) (zm:m.length<=6\/(200<m.length/\m.length<=210))
  (h:yq O (yG ua3 ub3 uc3 uc3) (yG ua7 ub7 uc7 uc7) R A ua1=false\/z6 l≠0\/z6 m≠0\/most<0\/12<most\/¬zC R A m.length<1) :
  Ed Ec 31 #[vl,vm,Ey Ew most,Ej #[Ez ua1,Ex ua2 ua3 ua4,Ez ua5,Ex ua6 ua7 ua8,Ey Ew R,Ey Ew A,Ez ub1,Ex ub2 ub3 ub4,Ez ub5,Ex ub6 ub7 ub8,Ez uc1,Ex uc2 uc3 uc4,Ez uc5,Ex uc6 uc7 uc8]] w fun e E=>e = Eh (.tuple #[Ej yF,Ey Ew (JA (yq O (yG ua3 ub3 uc3 uc3) (yG ua7 ub7 uc7 uc7) R A ua1) l m)])/\zf w E:=by
 have CK:∀E,av w E->Ed Ec 26 #[Ej #[Ez ua1,Ex ua2 ua3 ua4,Ez ua5,Ex ua6 ua7 ua8,Ey Ew R,Ey Ew A,Ez ub1,Ex ub2 ub3 ub4,Ez ub5,Ex ub6 ub7 ub8,Ez uc1,Ex uc2 uc3 uc4,Ez uc5,Ex uc6 uc7 uc8]] E fun e I=>e = Eh (Ey Ew (Z5 (yq O (yG ua3 ub3 uc3 uc3) (yG ua7 ub7 uc7 uc7) R A ua1)))/\zf E I:=fun E k=>Wk E (b0.af k) (b1.af k) (b2.af k) fw;have QL:∀E,zf w E->Ed Ec 37 #[vl] E fun e I=>e = Eh (Ey Ew (z6 l))/\zf E I:=fun E s=>kU E (hl.ae s) D5;have QM:∀E,zf w E->Ed Ec 37 #[vm] E fun e I=>e = Eh (Ey Ew (z6 m))/\zf E I:=fun E s=>kU E (hm.ae s) D5;have AL:z6 l=0->∀E,zf w E->Ed Ec 71 #[vl,Ey Ew most] E fun e I=>∃u,e = Eh (.tuple #[u,Ey Ew (yO l most).1])/\zf E I:=fun hc E s=>(Gh most E (hl.ae s) D5 (fun _ _=>by have:=y_ hc; omega)).mono fun e I ⟨u,J,Z,h3⟩=>⟨u,J,h3⟩;have AM:z6 m=0->∀E,zf w E->Ed Ec 71 #[vm,Ey Ew most] E fun e I=>∃u,e = Eh (.tuple #[u,Ey Ew (yO m most).1])/\zf E I:=fun hc E s=>(Gh most E (hm.ae s) D5 (fun _ _=>by have:=y_ hc; omega)).mono fun e I ⟨u,J,Z,h3⟩=>⟨u,J,h3⟩;have RK:yq O (yG ua3 ub3 uc3 uc3) (yG ua7 ub7 uc7 uc7) R A ua1=true->(1<=R/\R<=65536/\1<=A/\A<=17592186044416):=fun h=>(zJ.1 h).2.1;have CH:(1<=R/\R<=65536/\1<=A/\A<=17592186044416)->z6 m=0->∀E g,ai E g 89 #[Ey Ew 0]->Ed Ec 50 #[Ek (some ⟨g,0,none⟩),Ej #[Ez ua1,Ex ua2 ua3 ua4,Ez ua5,Ex ua6 ua7 ua8,Ey Ew R,Ey Ew A,Ez ub1,Ex ub2 ub3 ub4,Ez ub5,Ex ub6 ub7 ub8,Ez uc1,Ex uc2 uc3 uc4,Ez uc5,Ex uc6 uc7 uc8],Ey Ew m.length] E fun e I=>∃v,e = Eh (.tuple #[v,Ez (decide (zC R A m.length<1))])/\FR I v (zC R A m.length)/\zf E I:=fun hr hc E g hb=>Qb R A m.length E hb hr.1 hr.2.1 hr.2.2.1 hr.2.2.2 D5 (by have:=y_ hc; omega);have HB:Hid (JA (yq O (yG ua3 ub3 uc3 uc3) (yG ua7 ub7 uc7 uc7) R A ua1) l m=if yq O (yG ua3 ub3 uc3 uc3) (yG ua7 ub7 uc7 uc7) R A ua1=false then 8 else if z6 l≠0 then z6 l else if z6 m≠0 then z6 m else 2):=E6 rfl;generalize JA (yq O (yG ua3 ub3 uc3 uc3) (yG ua7 ub7 uc7 uc7) R A ua1) l m=bs at *;generalize yq O (yG ua3 ub3 uc3 uc3) (yG ua7 ub7 uc7 uc7) R A ua1=K at *;have M:=fun h0 J Z=>kY (l:=l) (most:=most) h0 J Z;have T:=fun h0 J Z=>kY (l:=m) (most:=most) h0 J Z;have N:=fun h0 J=>WC (l:=l) (most:=most) h0 J;obtain⟨al,cl,rfl⟩:=hl.ak;obtain⟨am,cm,rfl⟩:=hm.ak;generalize hnl:l.length=nl at *;generalize hnm:m.length=nm at *;generalize (yO l most).1=ea at *;generalize (yO m most).1=eb at *;generalize hcl:z6 l=c1 at *;generalize hcm:z6 m=c2 at *;generalize zC R A nm=cq at *;clear hl hm b0 b1 b2 fw hnl hnm hcl hcm
 go_enter Tryz.func31,Tryz.ntmps31
 go_wp2_with fail
 go_step3
 go_upto_region 1 with fail
 refine wp_region_lit ?_
 repeat' (first | ((with_reducible show wpList _ _ _ (⟨some 23,_,_,_,_,_⟩::_) _ _); refine zO rfl 45 (.tmp 7) rfl (w.heap.size+1+1) rfl 45 #[Ez ua1,Ex ua2 ua3 ua4,Ez ua5,Ex ua6 ua7 ua8,Ey Ew R,Ey Ew A,Ez ub1,Ex ub2 ub3 ub4,Ez ub5,Ex ub6 ub7 ub8,Ez uc1,Ex uc2 uc3 uc4,Ez uc5,Ex uc6 uc7 uc8] _ zw Tryz.underlying45 rfl D6 ?_) | go_values | go_skip | go_guarded | go_step | go_upon)
 refine(CK _ zj).mono ?_;rintro e w1 ⟨rfl,b9⟩;have B:Below w.heap.size w w1:=zT b9;have o4:ai w1 w.heap.size 55 #[Ex al nl cl]:=ai.au b9;have o5:ai w1 (w.heap.size+1) 55 #[Ex am nm cm]:=ai.au b9;have o7:ai w1 (w.heap.size+1+1) 45 #[Ez ua1,Ex ua2 ua3 ua4,Ez ua5,Ex ua6 ua7 ua8,Ey Ew R,Ey Ew A,Ez ub1,Ex ub2 ub3 ub4,Ez ub5,Ex ub6 ub7 ub8,Ez uc1,Ex uc2 uc3 uc4,Ez uc5,Ex uc6 uc7 uc8]:=ai.au b9;have o8:ai w1 (w.heap.size+1+1+1) 70 yF:=ai.au b9;clear b9;clear CK
 cases K with
 | false=>
  have E0:=HB.out;rw[E8 rfl]at E0;clear HB QL QM AL AM CH RK M T N;rw[show Z5 false=8 from rfl];dsimp only;have zz:=B.size
  repeat' (first | ((with_reducible show wpList _ _ _ (⟨some 27,_,_,_,_,_⟩::_) _ _); refine yp rfl 70 #[] rfl yF D6 ?_) | ((with_reducible show wpList _ _ _ (⟨none,.store _ _ _,_,_,_,_⟩::_) _ _); refine zF rfl 70 (.tmp 8) (.tmp 27) rfl (w.heap.size+1+1+1) yF rfl rfl 70 yF o8 D6 rfl (by simp[yF,Value.oneCell']) (fun wz Y=> ?_)) | go_values | go_skip | go_guarded | go_step | go_upon)
  go_wp2_with fail
  try rw[Exit.noGoto_ret]
  refine En (zV rfl _ _ (w.heap.size+1+1+1) rfl (cs:=yF) Y.bz Tryz.underlying70 rfl D6) rfl ?_;exact⟨by rw[E0]; rfl,Y.below B D5⟩
 | true=>
  have X:=HB.out;rw[E9 D8]at X;have br:=E6 X;clear HB;replace RK:=RK rfl;replace CH:=CH RK;replace h:=h.resolve_left D8;clear X RK;rw[show Z5 true=0 from rfl];dsimp only;have c4:=o4.c 0 rfl
  repeat' (first | go_values | go_skip | go_guarded | go_step | go_upon)
  refine(QL _ B).mono ?_;rintro e I ⟨rfl,be⟩;clear c4;replace B:Below w.heap.size w I:=zT be;replace o4:ai I w.heap.size 55 #[Ex al nl cl]:=ai.au be;replace o5:ai I (w.heap.size+1) 55 #[Ex am nm cm]:=ai.au be;replace o7:ai I (w.heap.size+1+1) 45 #[Ez ua1,Ex ua2 ua3 ua4,Ez ua5,Ex ua6 ua7 ua8,Ey Ew R,Ey Ew A,Ez ub1,Ex ub2 ub3 ub4,Ez ub5,Ex ub6 ub7 ub8,Ez uc1,Ex uc2 uc3 uc4,Ez uc5,Ex uc6 uc7 uc8]:=ai.au be;replace o8:ai I (w.heap.size+1+1+1) 70 yF:=ai.au be;clear be;clear QL
  by_cases J:c1=0
  .
   replace h:=h.resolve_left (by rw[J]; simp);have X:=br.out;rw[E9 (by rw[J]; simp)]at X;have bl:=E6 X;clear br;replace M:=M J;replace AL:=AL J;replace N:=N J;clear X;subst J;dsimp only;have c5:=o5.c 0 rfl
   repeat' (first | go_values | go_skip | go_guarded | go_step | go_upon)
   refine(QM _ B).mono ?_;rintro e w3 ⟨rfl,bg⟩;clear c5;replace B:Below w.heap.size w w3:=zT bg;replace o4:ai w3 w.heap.size 55 #[Ex al nl cl]:=ai.au bg;replace o5:ai w3 (w.heap.size+1) 55 #[Ex am nm cm]:=ai.au bg;replace o7:ai w3 (w.heap.size+1+1) 45 #[Ez ua1,Ex ua2 ua3 ua4,Ez ua5,Ex ua6 ua7 ua8,Ey Ew R,Ey Ew A,Ez ub1,Ex ub2 ub3 ub4,Ez ub5,Ex ub6 ub7 ub8,Ez uc1,Ex uc2 uc3 uc4,Ez uc5,Ex uc6 uc7 uc8]:=ai.au bg;replace o8:ai w3 (w.heap.size+1+1+1) 70 yF:=ai.au bg;clear bg;clear QM
   by_cases Z:c2=0
   .
    replace h:=h.resolve_left (by rw[Z]; simp);have E0:=bl.out;rw[E9 (by rw[Z]; simp)]at E0;replace T:=T Z;replace AM:=AM Z;replace CH:=CH Z;clear bl;subst Z;dsimp only;have c4:=o4.c 0 rfl
    repeat' (first | go_values | go_skip | go_guarded | go_step | go_upon)
    refine(AL _ B).mono ?_;rintro e w4 ⟨u1,rfl,bi⟩;clear c4;replace B:Below w.heap.size w w4:=zT bi;replace o4:ai w4 w.heap.size 55 #[Ex al nl cl]:=ai.au bi;replace o5:ai w4 (w.heap.size+1) 55 #[Ex am nm cm]:=ai.au bi;replace o7:ai w4 (w.heap.size+1+1) 45 #[Ez ua1,Ex ua2 ua3 ua4,Ez ua5,Ex ua6 ua7 ua8,Ey Ew R,Ey Ew A,Ez ub1,Ex ub2 ub3 ub4,Ez ub5,Ex ub6 ub7 ub8,Ez uc1,Ex uc2 uc3 uc4,Ez uc5,Ex uc6 uc7 uc8]:=ai.au bi;replace o8:ai w4 (w.heap.size+1+1+1) 70 yF:=ai.au bi;clear bi;clear AL
    by_cases h3:most<0\/12<most
    .
     have e2:=N h3;subst e2;clear AM CH M T N h;dsimp only;have zz:=B.size
     repeat' (first | ((with_reducible show wpList _ _ _ (⟨some 49,_,_,_,_,_⟩::_) _ _); refine yp rfl 70 #[] rfl yF D6 ?_) | ((with_reducible show wpList _ _ _ (⟨none,.store _ _ _,_,_,_,_⟩::_) _ _); refine zF rfl 70 (.tmp 8) (.tmp 49) rfl (w.heap.size+1+1+1) yF rfl rfl 70 yF o8 D6 rfl (by simp[yF,Value.oneCell']) (fun wz Y=> ?_)) | go_values | go_skip | go_guarded | go_step | go_upon)
     go_wp2_with fail
     try rw[Exit.noGoto_ret]
     refine En (zV rfl _ _ (w.heap.size+1+1+1) rfl (cs:=yF) Y.bz Tryz.underlying70 rfl D6) rfl ?_;exact⟨by rw[E0]; rfl,Y.below B D5⟩
    .
     have e2:=M D5 D5;have e3:=T D5 D5;subst e2;subst e3;have h4:decide (cq<1)=false:=E' ((h.resolve_left D5).resolve_left D5);rw[h4]at CH;clear M T N h h4 h3;dsimp only;have c5:=o5.c 0 rfl
     repeat' (first | go_values | go_skip | go_guarded | go_step | go_upon)
     refine(AM _ B).mono ?_;rintro e w5 ⟨u2,rfl,bh⟩;clear c5;replace B:Below w.heap.size w w5:=zT bh;replace o4:ai w5 w.heap.size 55 #[Ex al nl cl]:=ai.au bh;replace o5:ai w5 (w.heap.size+1) 55 #[Ex am nm cm]:=ai.au bh;replace o7:ai w5 (w.heap.size+1+1) 45 #[Ez ua1,Ex ua2 ua3 ua4,Ez ua5,Ex ua6 ua7 ua8,Ey Ew R,Ey Ew A,Ez ub1,Ex ub2 ub3 ub4,Ez ub5,Ex ub6 ub7 ub8,Ez uc1,Ex uc2 uc3 uc4,Ez uc5,Ex uc6 uc7 uc8]:=ai.au bh;replace o8:ai w5 (w.heap.size+1+1+1) 70 yF:=ai.au bh;clear bh;clear AM;dsimp only;have c5:=o5.c 0 rfl;have l5:=o5.lt
     repeat' (first | ((with_reducible show wpList _ _ _ (⟨some 62,_,_,_,_,_⟩::_) _ _); refine zO rfl 45 (.tmp 7) rfl (w.heap.size+1+1) rfl 45 #[Ez ua1,Ex ua2 ua3 ua4,Ez ua5,Ex ua6 ua7 ua8,Ey Ew R,Ey Ew A,Ez ub1,Ex ub2 ub3 ub4,Ez ub5,Ex ub6 ub7 ub8,Ez uc1,Ex uc2 uc3 uc4,Ez uc5,Ex uc6 uc7 uc8] _ zw Tryz.underlying45 rfl D6 ?_) | go_values | go_skip | go_guarded | go_step | go_upon)
     refine(CH _ w5.heap.size (ai.new _ _ _)).mono ?_;rintro e w6 ⟨v6,rfl,bt,aY⟩;obtain⟨q1,q2,q3,q4,q5,q6,q7,q8,rfl⟩:=bt.ak;clear c5 l5 bt;replace B:Below w.heap.size w w6:=zt (B.alloc B.size _) (Eo _) aY;replace o4:ai w6 w.heap.size 55 #[Ex al nl cl]:=(o4.alloc _).ae aY;replace o5:ai w6 (w.heap.size+1) 55 #[Ex am nm cm]:=(o5.alloc _).ae aY;replace o7:ai w6 (w.heap.size+1+1) 45 #[Ez ua1,Ex ua2 ua3 ua4,Ez ua5,Ex ua6 ua7 ua8,Ey Ew R,Ey Ew A,Ez ub1,Ex ub2 ub3 ub4,Ez ub5,Ex ub6 ub7 ub8,Ez uc1,Ex uc2 uc3 uc4,Ez uc5,Ex uc6 uc7 uc8]:=(o7.alloc _).ae aY;replace o8:ai w6 (w.heap.size+1+1+1) 70 yF:=(o8.alloc _).ae aY;clear aY;clear CH;dsimp only;have zz:=B.size
     repeat' (first | ((with_reducible show wpList _ _ _ (⟨some 70,_,_,_,_,_⟩::_) _ _); refine yp rfl 70 #[] rfl yF D6 ?_) | ((with_reducible show wpList _ _ _ (⟨none,.store _ _ _,_,_,_,_⟩::_) _ _); refine zF rfl 70 (.tmp 8) (.tmp 70) rfl (w.heap.size+1+1+1) yF rfl rfl 70 yF zw D6 rfl (by simp[yF,Value.oneCell']) (fun wz Y=> ?_)) | go_values | go_skip | go_guarded | go_step | go_upon)
     go_wp2_with fail
     try rw[Exit.noGoto_ret]
     refine En (zV rfl _ _ (w.heap.size+1+1+1) rfl (cs:=yF) Y.bz Tryz.underlying70 rfl D6) rfl ?_;exact⟨by rw[E0]; rfl,Y.below zh D5⟩
   .
    have E0:=bl.out;rw[E8 Z]at E0;have ce:(c2==0)=false:=by simpa using Z
    clear bl AL AM CH M T N h;dsimp only;have zz:=B.size
    repeat' (first | ((with_reducible show wpList _ _ _ (⟨some 39,_,_,_,_,_⟩::_) _ _); refine yp rfl 70 #[] rfl yF D6 ?_) | ((with_reducible show wpList _ _ _ (⟨none,.store _ _ _,_,_,_,_⟩::_) _ _); refine zF rfl 70 (.tmp 8) (.tmp 39) rfl (w.heap.size+1+1+1) yF rfl rfl 70 yF o8 D6 rfl (by simp[yF,Value.oneCell']) (fun wz Y=> ?_)) | go_values | go_skip | go_guarded | go_step | go_upon)
    go_wp2_with fail
    try rw[Exit.noGoto_ret]
    refine En (zV rfl _ _ (w.heap.size+1+1+1) rfl (cs:=yF) Y.bz Tryz.underlying70 rfl D6) rfl ?_;exact⟨by rw[E0]; rfl,Y.below B D5⟩
  .
   have E0:=br.out;rw[E8 J]at E0;have cg:(c1==0)=false:=by simpa using J
   clear br QM AL AM CH M T N h;dsimp only;have zz:=B.size
   repeat' (first | ((with_reducible show wpList _ _ _ (⟨some 33,_,_,_,_,_⟩::_) _ _); refine yp rfl 70 #[] rfl yF D6 ?_) | ((with_reducible show wpList _ _ _ (⟨none,.store _ _ _,_,_,_,_⟩::_) _ _); refine zF rfl 70 (.tmp 8) (.tmp 33) rfl (w.heap.size+1+1+1) yF rfl rfl 70 yF o8 D6 rfl (by simp[yF,Value.oneCell']) (fun wz Y=> ?_)) | go_values | go_skip | go_guarded | go_step | go_upon)
   go_wp2_with fail
   try rw[Exit.noGoto_ret]
   refine En (zV rfl _ _ (w.heap.size+1+1+1) rfl (cs:=yF) Y.bz Tryz.underlying70 rfl D6) rfl ?_;exact⟨by rw[E0]; rfl,Y.below B D5⟩
end
end Go.Proofs.YtffmbepfbienaaaGreat
/- Search's body: the size of a similarity, a list of ints Qo a store elsewhere. -/
namespace Go.Proofs.YtffmbepfbienaaaGreat
open Go.RowKit
variable {ax ay ah bx px py qx qy:Int}
theorem Gp (ha:ji (ax,ay)) (hb:ji (bx,ah)) (hp:ji (px,py)) (hq:ji (qx,qy)) (hn:kh (bx-ax) (ah-ay)≠0):∀i,i<4->sz (jI (ax,ay) (bx,ah) (px,py) (qx,qy) i) 15:=by
 obtain⟨a0,a1,a2,a3⟩:=ha;obtain⟨b0,b1,b2,b3⟩:=hb;obtain⟨p0,p1,p2,p3⟩:=hp;obtain⟨q0,q1,q2,q3⟩:=hq;dsimp only at a0 a1 a2 a3 b0 b1 b2 b3 p0 p1 p2 p3 q0 q1 q2 q3;obtain⟨J,I⟩:∃z,bx-ax=z:=⟨_,rfl⟩;obtain⟨M,E⟩:∃z,ah-ay=z:=⟨_,rfl⟩;obtain⟨vx,Z⟩:∃z,qx-px=z:=⟨_,rfl⟩;obtain⟨vy,X⟩:∃z,qy-py=z:=⟨_,rfl⟩;have u1 : -2097152<=J/\J<=2097152:=D5
 have u2 : -2097152<=M/\M<=2097152:=D5
 have u3 : -2097152<=vx/\vx<=2097152:=D5
 have u4 : -2097152<=vy/\vy<=2097152:=D5
 have m1:=z4 u1.1 u1.2 u1.1 u1.2;have m2:=z4 u2.1 u2.2 u2.1 u2.2;have m3:=z4 u3.1 u3.2 u1.1 u1.2;have m4:=z4 u4.1 u4.2 u2.1 u2.2;have m5:=z4 u4.1 u4.2 u1.1 u1.2;have m6:=z4 u3.1 u3.2 u2.1 u2.2;obtain⟨x1,e1⟩:∃x,J*J=x:=⟨_,rfl⟩;obtain⟨x2,e2⟩:∃x,M*M=x:=⟨_,rfl⟩;obtain⟨x3,e3⟩:∃x,vx*J=x:=⟨_,rfl⟩;obtain⟨x4,e4⟩:∃x,vy*M=x:=⟨_,rfl⟩;obtain⟨x5,e5⟩:∃x,vy*J=x:=⟨_,rfl⟩;obtain⟨x6,e6⟩:∃x,vx*M=x:=⟨_,rfl⟩;rw[e1]at m1;rw[e2]at m2;rw[e3]at m3;rw[e4]at m4;rw[e5]at m5;rw[e6]at m6;obtain⟨N,hN⟩:∃x,x1+x2=x:=⟨_,rfl⟩;obtain⟨A,hA⟩:∃x,x3+x4=x:=⟨_,rfl⟩;obtain⟨B0,hB⟩:∃x,x5-x6=x:=⟨_,rfl⟩;have eN:kh (bx-ax) (ah-ay)=N:=by unfold kh; rw[I,E,e1,e2,hN]
 have eA:j5 (bx-ax) (ah-ay) (qx-px) (qy-py)=A:=by unfold j5; rw[I,E,Z,X,e3,e4,hA]
 have eB:kl (bx-ax) (ah-ay) (qx-px) (qy-py)=B0:=by unfold kl; rw[I,E,Z,X,e5,e6,hB]
 rw[eN]at hn;have t0:k_ (ax,ay) (bx,ah) (px,py) (qx,qy)=(A:Rat) / (N:Rat):=by show (j5 _ _ _ _:Rat) / _=_; rw[eN,eA]
 have t1:ve (ax,ay) (bx,ah) (px,py) (qx,qy)=(B0:Rat) / (N:Rat):=by show (kl _ _ _ _:Rat) / _=_; rw[eN,eB]
 have bN : -8796093022208<=N/\N<=8796093022208:=D5
 have bA : -8796093022208<=A/\A<=8796093022208:=D5
 have bB : -8796093022208<=B0/\B0<=8796093022208:=D5
 have z0:sz ((A:Rat) / (N:Rat)) 2:=xW hn (by rw[xE]; unfold zi; omega) (by rw[xE]; unfold zi; omega);have z1:sz ((B0:Rat) / (N:Rat)) 2:=xW hn (by rw[xE]; unfold zi; omega) (by rw[xE]; unfold zi; omega);have T:sz (ax:Rat) 2:=zX ⟨a0,a1⟩;have aY:sz (ay:Rat) 2:=zX ⟨a2,a3⟩;have sp1:sz (px:Rat) 2:=zX ⟨p0,p1⟩;have sp2:sz (py:Rat) 2:=zX ⟨p2,p3⟩;have Y:sz (0:Rat) 2:=by have h:sz ((0:Int):Rat) 2:=zX D7; rwa[Rat.intCast_zero]at h
 rw[<- t0]at z0;rw[<- t1]at z1;intro i hi
 rcases(show i=0\/i=1\/i=2\/i=3 by omega)with rfl | rfl | rfl | rfl
 . exact z0.mono D5
 . exact z1.mono D5
 .
  show sz ((px:Rat)-(k_ _ _ _ _*(ax:Rat)-ve _ _ _ _*(ay:Rat)+0)) 15
  exact(sp1.sub (((z0.mul T).sub (z1.mul aY)).add Y)).mono D5
 .
  show sz ((py:Rat)-(ve _ _ _ _*(ax:Rat)+k_ _ _ _ _*(ay:Rat)+0)) 15
  exact(sp2.sub (((z1.mul T).add (z0.mul aY)).add Y)).mono D5
theorem WD (J:ji (ax,ay)) (N:ji (bx,ah)) (M:ji (px,py)) (E:ji (qx,qy)) (T:kh (bx-ax) (ah-ay)≠0):∀i,i<4->sz (jI (ax,ay) (bx,ah) (px,py) (qx,qy) i) 16:=fun i I=>(Gp J N M E T i I).mono D5
theorem aM.only {w N:Ee} {v:Ef} {l:List Int} {g:Nat} {t:Ei} {cs:Array Ef} (h:aM w v l) (Y:ai w g t cs) (hc:∀x∈cs.toList,∀z,x≠ Ey Ew z) (o:bK g w N):aM N v l:=by
 obtain⟨ao,cap,e,E,X⟩:=h;refine⟨ao,cap,e,E,fun J=> ?_⟩;obtain⟨b,Z,T,I,M⟩:=X J
 have hg:b≠g:=by
  rintro rfl;have c:=M 0 (List.length_pos_iff.2 J);rw[Y.cell]at c;exact hc _ (Array.mem_toList_iff.2 (Array.mem_of_getElem? c)) _ rfl
 refine⟨b,Z,T,by rw[o.1]; exact I,fun t ht=> ?_⟩;have:=M t ht;unfold World.cell? at this|-;rw[o.2 b hg]; exact this
end Go.Proofs.YtffmbepfbienaaaGreat
