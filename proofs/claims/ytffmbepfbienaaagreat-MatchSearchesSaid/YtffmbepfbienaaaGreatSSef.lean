import Derived.Test.YtffmbepfbienaaaGreatSSea
set_option linter.unusedVariables false
set_option linter.unusedSimpArgs false
open Go.Value renaming slice->Ex,bool->Ez,int->Ey,agg->Ej,pointer->Ek,tuple->Ev
open Go.IntKind renaming i64->Ew
open Go.Ending renaming returned->Eh
open Go.Proofs.Tryz renaming prog->Ec
open Go renaming Calls->Ed,World->Ee,Value->Ef,undef->Em
open Nat renaming le_refl->Eo
open Go.RowKit.Below renaming refl->Et
namespace Go.Proofs.YtffmbepfbienaaaGreat
variable {cs:Array Ef} {A R a9:Int} {a b:List aV} {p:List Int} {g n r:Nat} {x:Nat×Nat} {t:Nat->Rat} {e:Option (Nat×Nat)} {l m:PL} {least o off s wq:Rat} {v vm:Ef} {W W7 w w':Ee}
def Cr (least:Rat) (o:Nat×Nat->Rat):Option (Nat×Nat)->Int×Option (Nat×Nat)
 | none=>(6,none)
 | some x=>if o x<least then(6,none)else(0,some x)
theorem Ql {o:Nat×Nat->Rat} (h:o x<least):Cr least o (some x)=(6,none):=E8 h
theorem Qm {o:Nat×Nat->Rat} (h:¬o x<least):Cr least o (some x)=(0,some x):=E9 h
theorem Y6 {most:Int} (I:z6 l=0) (H:z6 m=0) (h0:0<=most) (J:most<=12) (E:zC R A m.length<1) :
  xC true l m most R A off s least=Cr least (oX l m (yO l most).2 (yO m most).2 R (yV s (zC R A m.length)) s) (qu (oX l m (yO l most).2 (yO m most).2 R (yV s (zC R A m.length)) s) (vw (yO l most).2 (yO m most).2 off)):=by
 unfold xC Cr;rw[E9 D8,E9 (by rw[I]; simp),E9 (by rw[H]; simp),E9 (by rintro (h | h | h); omega; omega; exact h E)];generalize qu _ _=z
 cases z<;>rfl
open Go.RowKit Go.Shelf
theorem cO.ae (h:cO w v t p o) (s:zf w w'):cO w' v t p o:=by
 obtain⟨cs,u,J,Y,I,Z,M,N,X,E,e,T,H,h3⟩:=h;exact⟨cs,u,J,Y,I,Z,M,N,X,E,e,T.af (av.ae s),H.ae s,h3.af (av.ae s)⟩
theorem cO.kg (h:cO w v t p o) (X:dJ w g) (s:KG g w w'):cO w' v t p o:=by
 obtain⟨cs,u,J,Z,I,d4,M,N,Y,E,e,T,H,h3⟩:=h;exact⟨cs,u,J,Z,I,d4,M,N,Y,E,e,T.af s.af,H.kg X s,h3.af s.af⟩
def cS (l m:PL) (a b:List aV) (a9:Int) (wq s:Rat) (g n:Nat) (W:Ee):Option (Nat×Nat)->Prop
 | none=>ai W g 123 #[Ek none]
 | some x=>∃p E,ai W g 123 #[Ek (some ⟨p,0,none⟩)]/\n<=p/\ai W p 70 E/\cO W (Ej E) (tX l m a b x) (pX l m a b a9 x) (oX l m a b a9 wq s x)
theorem cS.pp (h:cS l m a b a9 wq s g n W e):dJ W g:=by
 cases e with
 | none=>exact⟨_,h⟩
 | some x=>obtain⟨p,H,E,-⟩:=h; exact⟨_,E⟩
theorem cS.ae {E:Ee} (h:cS l m a b a9 wq s g n W e) (st:zf W E):cS l m a b a9 wq s g n E e:=by
 cases e with
 | none=>exact ai.ae h st
 | some x=>obtain⟨p,J,I,H,M,N⟩:=h; exact⟨p,J,I.ae st,H,M.ae st,N.ae st⟩
theorem cS.put {k:Nat} {o H:Obj} (h:cS l m a b a9 wq s g n W e) (I:W.heap[k]? = some o) (hc:o.isCells=false):cS l m a b a9 wq s g n (W.putObj k H) e:=by
 have E:∀g t cs,ai W g t cs->ai (W.putObj k H) g t cs:=fun g t cs h=>yi h (grownBy_putObj' W _ H) (fun r e=>by cases e; exact⟨o,I,hc⟩);have T:=h.pp
 cases e with
 | none=>exact E _ _ _ h
 | some x=>obtain⟨p,N,M,J,X,Y⟩:=h; exact⟨p,N,E _ _ _ M,J,E _ _ _ X,Y.kg T (KG.put I hc)⟩
def eX (v:Ef):Prop:=∃J T co dc cn bg br I d9 be ci bh b9 cx H Y cU X ce E bi cy aY ah N M bt aX Z cg cN bl,v = Ej #[Ez J,Ex T co dc,Ez cn,Ex bg br I,Ez d9,Ex be ci bh,Ez b9,Ex cx H Y,Ez cU,Ex X ce E,Ez bi,Ex cy aY ah,Ez N,Ex M bt aX,Ez Z,Ex cg cN bl]
theorem eX.mk:eX (Ej H8):=⟨_,_,_,_,_,_,_,_,_,_,_,_,_,_,_,_,_,_,_,_,_,_,_,_,_,_,_,_,_,_,_,_,rfl⟩
theorem bY.eU (h:bY w v t):eX v:=by
 obtain⟨J,T,co,dc,cn,bg,br,I,d9,be,ci,bh,b9,cx,H,Y,cU,X,ce,E,bi,cy,aY,ah,N,M,bt,aX,Z,cg,cN,bl,e,-⟩:=h;exact⟨J,T,co,dc,cn,bg,br,I,d9,be,ci,bh,b9,cx,H,Y,cU,X,ce,E,bi,cy,aY,ah,N,M,bt,aX,Z,cg,cN,bl,e⟩
theorem Co {J cn d9 b9 cU bi N Z:Bool} {T bg be cx X co M cg:Option Addr} {cy dc br I ci bh H Y ce E aY ah bt aX cN bl:Nat} (h:bY w (Ej #[Ez J,Ex T cy dc,Ez cn,Ex bg br I,Ez d9,Ex be ci bh,Ez b9,Ex cx H Y,Ez cU,Ex X ce E,Ez bi,Ex co aY ah,Ez N,Ex M bt aX,Ez Z,Ex cg cN bl]) t):FR w (Ej #[Ez J,Ex T cy dc,Ez cn,Ex bg br I]) (t 0)/\FR w (Ej #[Ez d9,Ex be ci bh,Ez b9,Ex cx H Y]) (t 1)/\FR w (Ej #[Ez cU,Ex X ce E,Ez bi,Ex co aY ah]) (t 2)/\FR w (Ej #[Ez N,Ex M bt aX,Ez Z,Ex cg cN bl]) (t 3):=by
 obtain⟨_,_,_,_,_,_,_,_,_,_,_,_,_,_,_,_,_,_,_,_,_,_,_,_,_,_,_,_,_,_,_,_,e,h⟩:=h;simp only[Value.agg.injEq,Array.mk.injEq,List.cons.injEq,Value.bool.injEq,Value.slice.injEq,and_true]at e;obtain⟨rfl,⟨rfl,rfl,rfl⟩,rfl,⟨rfl,rfl,rfl⟩,rfl,⟨rfl,rfl,rfl⟩,rfl,⟨rfl,rfl,rfl⟩,rfl,⟨rfl,rfl,rfl⟩,rfl,⟨rfl,rfl,rfl⟩,rfl,⟨rfl,rfl,rfl⟩,rfl,⟨rfl,rfl,rfl⟩⟩:=e;exact h
theorem Qn {T c1 c2 c3 c4 c5 X Y Z c9 E M H N I J d0 d1 d2 d3 d4:Ef} {j:Nat} (hj:j<16):(#[T,c1,c2,c3,c4,c5,X,Y,Z,c9,E,M,H,N,I,J]:Array Ef)[j]? = (#[T,c1,c2,c3,c4,c5,X,Y,Z,c9,E,M,H,N,I,J,d0,d1,d2,d3,d4]:Array Ef)[j]? :=by
 rcases(show j=0\/j=1\/j=2\/j=3\/j=4\/j=5\/j=6\/j=7\/j=8\/j=9\/j=10\/j=11\/j=12\/j=13\/j=14\/j=15 by omega)with rfl | rfl | rfl | rfl | rfl | rfl | rfl | rfl | rfl | rfl | rfl | rfl | rfl | rfl | rfl | rfl<;>rfl
def Dz:List Ef->Array Ef:=fun l=>match l with | [Ej c]=>c++#[Ex none 0 0,Ez false,Ex none 0 0,Ez false,Ex none 0 0] | _=>#[]
theorem Wr.fS {a:Ee} (h:Wr r w w') (j:Below n a w) (H:n<=r:=by omega):Below n a w':=j.trans ⟨h.os,h.tape,h.output,Nat.le_of_eq h.only.1.symm,fun k E=>h.only.2 k D5⟩
theorem Wr.fY {t:TypeId} (h:Wr r w w') (E:ai w r t cs) (H:zU cs=true:=by exact rfl):av w w':=av.only E H h.only
theorem WE {t:TypeId} {H:Ee} (s:zf W W7) (h:Wr g W7 H) (J:ai W7 g t cs):KeepsOthers W H:=
 ⟨h.only.1▸s.size,fun k o E hc=>by
  have I:W7.heap[k]? = some o:=(s.block k (Array.getElem?_eq_some_iff.1 E).1).trans E
  by_cases e:k=g
  .
   subst e;have:W7.heap[k]? = _:=J;rw[I]at this
   cases this
   cases hc
  . exact(h.only.2 k e).trans I⟩
theorem WF (s:zf W W7):KeepsOthers W W7:=⟨s.size,fun k o E _=>(s.block k (Array.getElem?_eq_some_iff.1 E).1).trans E⟩
theorem H3 {x y:Option Addr} (E:ai W7 g 123 #[Ek x]):KG g W7 (W7.setCell ⟨g,0,none⟩ (Ek y)):=
 have wr:Wr g W7 (W7.setCell ⟨g,0,none⟩ (Ek y)):=(Wr.refl g W7).set
 ⟨Nat.le_of_eq wr.only.1.symm,wr.fY E,fun k _ _ _ H _=>wr.only.2 k H,fun _=>⟨y,E.bL 0 _⟩⟩
theorem cO.row {ty:TypeId} {old:Array Ef} (h:cO w v t p o) (r:aZ g ty old cs w w') (E:zU old=true) (M:∀x∈old.toList,∀z,x≠ Ey Ew z):cO w' v t p o:=by
 obtain⟨cs,u,T,d2,J,d4,N,Y,Z,H,e,X,I,h3⟩:=h;exact⟨cs,u,T,d2,J,d4,N,Y,Z,H,e,X.af (r.af E),I.only r.was M r.only,h3.af (r.af E)⟩
theorem Vv {F:Nat->List Nat} (E:∀i,∀t∈F i,t<n):∀i,∀x∈qo F i,x.1<i/\x.2<n
 | 0,x,h=>by cases h
 | i+1,x,h=>by
  rcases List.mem_append.1 h with h | h
  . have:=Vv E i x h; omega
  .
   obtain⟨k,H,rfl⟩:=List.mem_map.1 h;exact⟨Nat.lt_succ_self _,E i k H⟩
theorem Vw (h:x∈vw a b off):x.1<a.length/\x.2<b.length:=Vv (fun i t ht=>GN _ _ _ _ t ht) _ x h
theorem WG {gc E:Nat} {vp:Ef} {rc:Array Ef} {u:Ef} {Z N:Bool} {d2 d6:Option Addr} {J Y X M:Nat} {pre:List (Nat×Nat)}
  (sW:zf W W7) (a4:ai W7 w.heap.size 55 #[vp]) (a5:ai W7 (w.heap.size+1) 55 #[vm]) (a7:ai W7 (w.heap.size+1+1) 45 rc) (a8:ai W7 (w.heap.size+1+1+1) 70 yF) (ac:ai W7 gc 89 #[Ey Ew 0]) (hp:dJ W7 g) (hB:Below w.heap.size w W7)
  (om:ai W7 E 70 (cs++#[u,Ez Z,Ex d2 J Y,Ez N,Ex d6 X M])) (hS:bY W7 (Ej cs) (tX l m a b x)) (hu:aM W7 u (pX l m a b R x)) (hF:FR W7 (Ej #[Ez Z,Ex d2 J Y,Ez N,Ex d6 X M]) (oX l m a b R wq s x))
  (hb:q_ (oX l m a b R wq s) (qu (oX l m a b R wq s) pre) x=some x) (h4:w.heap.size+4<=g) (ah:gc≠g) (hn:n<=E) (T:E≠g) :
  KeepsOthers W (W7.setCell ⟨g,0,none⟩ (Ek (some ⟨E,0,none⟩)))/\KG g W (W7.setCell ⟨g,0,none⟩ (Ek (some ⟨E,0,none⟩)))/\
  (ai (W7.setCell ⟨g,0,none⟩ (Ek (some ⟨E,0,none⟩))) w.heap.size 55 #[vp]/\ai (W7.setCell ⟨g,0,none⟩ (Ek (some ⟨E,0,none⟩))) (w.heap.size+1) 55 #[vm]/\ai (W7.setCell ⟨g,0,none⟩ (Ek (some ⟨E,0,none⟩))) (w.heap.size+1+1) 45 rc/\ai (W7.setCell ⟨g,0,none⟩ (Ek (some ⟨E,0,none⟩))) (w.heap.size+1+1+1) 70 yF/\ai (W7.setCell ⟨g,0,none⟩ (Ek (some ⟨E,0,none⟩))) gc 89 #[Ey Ew 0]/\
   cS l m a b R wq s g n (W7.setCell ⟨g,0,none⟩ (Ek (some ⟨E,0,none⟩))) (qu (oX l m a b R wq s) (pre ++ [x]))/\Below w.heap.size w (W7.setCell ⟨g,0,none⟩ (Ek (some ⟨E,0,none⟩)))):=by
 obtain⟨x0,H⟩:=hp;have I:=H3 (y:=some ⟨E,0,none⟩) H;have wr:Wr g W7 (W7.setCell ⟨g,0,none⟩ (Ek (some ⟨E,0,none⟩))):=(Wr.refl g W7).set;have o8:ai (W7.setCell ⟨g,0,none⟩ (Ek (some ⟨E,0,none⟩))) g 123 #[Ek (some ⟨E,0,none⟩)]:=H.bL 0 _;refine⟨WE sW wr H,(KG.ae sW).trans I,wr.f a4,wr.f a5,wr.f a7,wr.f a8,wr.f ac ah,?_,wr.fS hB⟩;rw[xM,hb];exact⟨E,_,o8,hn,wr.f om T,cs,u,Z,d2,J,Y,N,d6,X,M,rfl,hS.af I.af,hu.kg ⟨x0,H⟩ I,hF.af I.af⟩
theorem Vx (x:Nat×Nat) (hw:sz wq 20) (E:sz s 2) (H:l.length<=6):sz (oX l m a b R wq s x) 122:=
 (Zy hw (E.mono D5) _ _ _).mono D5
set_option maxHeartbeats 6400000 in
set_option maxRecDepth 1000000 in
theorem Kx {ua1 ua5 ub1 ub5 uc1 uc5:Bool} {ua2 ua6 ub2 ub6 uc2 uc6:Option Addr} {ua3 ua4 ua7 ua8 ub3 ub4 ub7 ub8 uc3 uc4 uc7 uc8:Nat} {O:Nat->Option Rat} {vl:Ef} (most:Int) (w:Ee) (b0:FB w (Ej #[Ez ua1,Ex ua2 ua3 ua4,Ez ua5,Ex ua6 ua7 ua8]) (O 0)) (b1:FB w (Ej #[Ez ub1,Ex ub2 ub3 ub4,Ez ub5,Ex ub6 ub7 ub8]) (O 1)) (b2:FB w (Ej #[Ez uc1,Ex uc2 uc3 uc4,Ez uc5,Ex uc6 uc7 uc8]) (O 2)) (fw:Yb O (yG ua3 ub3 uc3 uc3) (yG ua7 ub7 uc7 uc7) 3) (hl:bP w vl l) (hm:bP w vm m) (zl:l.length<=6) (zm:m.length<=6)
  (e0:O 0=some off) (e1:O 1=some s) (e2:O 2=some least) (hK:yq O (yG ua3 ub3 uc3 uc3) (yG ua7 ub7 uc7 uc7) R A ua1=true) (c1:z6 l=0) (c2:z6 m=0) (h0:0<=most) (h1:most<=12) (hq:zC R A m.length<1) :
  Ed Ec 31 #[vl,vm,Ey Ew most,Ej #[Ez ua1,Ex ua2 ua3 ua4,Ez ua5,Ex ua6 ua7 ua8,Ey Ew R,Ey Ew A,Ez ub1,Ex ub2 ub3 ub4,Ez ub5,Ex ub6 ub7 ub8,Ez uc1,Ex uc2 uc3 uc4,Ez uc5,Ex uc6 uc7 uc8]] w fun e w'=>∃v,e = Eh (Ev #[v,Ey Ew (xC true l m most R A off s least).1])/\WB w' v l m (yO l most).2 (yO m most).2 R (yV s (zC R A m.length)) s (xC true l m most R A off s least).2/\zf w w':=by
 have hR:=(zJ.1 hK).2.1
 have CK:∀w',av w w'->Ed Ec 26 #[Ej #[Ez ua1,Ex ua2 ua3 ua4,Ez ua5,Ex ua6 ua7 ua8,Ey Ew R,Ey Ew A,Ez ub1,Ex ub2 ub3 ub4,Ez ub5,Ex ub6 ub7 ub8,Ez uc1,Ex uc2 uc3 uc4,Ez uc5,Ex uc6 uc7 uc8]] w' fun e w2=>e = Eh (Ey Ew 0)/\zf w' w2:=fun w' k=>by
  have:=Wk (R:=R) (A:=A) w' (b0.af k) (b1.af k) (b2.af k) fw
  rwa[hK]at this
 have QL:∀w',zf w w'->Ed Ec 37 #[vl] w' fun e w2=>e = Eh (Ey Ew 0)/\zf w' w2:=fun w' s=>by have:=kU w' (hl.ae s) D5; rwa[c1]at this
 have QM:∀w',zf w w'->Ed Ec 37 #[vm] w' fun e w2=>e = Eh (Ey Ew 0)/\zf w' w2:=fun w' s=>by have:=kU w' (hm.ae s) D5; rwa[c2]at this
 have AL:∀w',zf w w'->Ed Ec 71 #[vl,Ey Ew most] w' fun e w2=>∃u,e = Eh (Ev #[u,Ey Ew 0])/\dQ w2 u (yO l most).2/\zf w' w2:=fun w' s=>by have:=Gh most w' (hl.ae s) D5 (fun _ _=>by omega); unfold dt at this; rwa[kY c1 h0 h1]at this
 have AM:∀w',zf w w'->Ed Ec 71 #[vm,Ey Ew most] w' fun e w2=>∃u,e = Eh (Ev #[u,Ey Ew 0])/\dQ w2 u (yO m most).2/\zf w' w2:=fun w' s=>by have:=Gh most w' (hm.ae s) D5 (fun _ _=>by omega); unfold dt at this; rwa[kY c2 h0 h1]at this
 have CH:∀w' g,ai w' g 89 #[Ey Ew 0]->Ed Ec 50 #[Ek (some ⟨g,0,none⟩),Ej #[Ez ua1,Ex ua2 ua3 ua4,Ez ua5,Ex ua6 ua7 ua8,Ey Ew R,Ey Ew A,Ez ub1,Ex ub2 ub3 ub4,Ez ub5,Ex ub6 ub7 ub8,Ez uc1,Ex uc2 uc3 uc4,Ez uc5,Ex uc6 uc7 uc8],Ey Ew m.length] w' fun e w2=>∃v,e = Eh (Ev #[v,Ez true])/\FR w2 v (zC R A m.length)/\zf w' w2:=fun w' g hb=>by
  have:=Qb (ua1:=ua1) (ua2:=ua2) (ua3:=ua3) (ua4:=ua4) (ua5:=ua5) (ua6:=ua6) (ua7:=ua7) (ua8:=ua8) (ub1:=ub1) (ub2:=ub2) (ub3:=ub3) (ub4:=ub4) (ub5:=ub5) (ub6:=ub6) (ub7:=ub7) (ub8:=ub8) (uc1:=uc1) (uc2:=uc2) (uc3:=uc3) (uc4:=uc4) (uc5:=uc5) (uc6:=uc6) (uc7:=uc7) (uc8:=uc8) R A m.length w' hb hR.1 hR.2.1 hR.2.2.1 hR.2.2.2 D5 D5
  rwa[E_ hq]at this
 have mf:0<=off:=by
  have h3:=(zJ.1 hK).2.2.1;have h4:=b0.neg;rw[e0,h3]at h4;obtain⟨q,e,mJ⟩:=Zt (o:=some off) h4
  cases e; exact mJ
 have mr:sz off 2:=by obtain⟨r,e,h⟩:=xm (zJ.1 hK).1 fw 0 D5; rw[e0]at e; cases e; exact h
 have ss:sz s 2:=by obtain⟨r,e,h⟩:=xm (zJ.1 hK).1 fw 1 D5; rw[e1]at e; cases e; exact h
 have sl:sz least 2:=by obtain⟨r,e,h⟩:=xm (zJ.1 hK).1 fw 2 D5; rw[e2]at e; cases e; exact h
 have ML:=Gn zl c1 h0 h1;have MM:=Gn zm c2 h0 h1;have X:=E6 (E7 hl (E7 hm (E7 b0 (E7 b1 (E7 b2 fw)))));obtain⟨al,cl,rfl⟩:=hl.ak;obtain⟨am,cm,rfl⟩:=hm.ak;have be:=E6 (E7 c1 c2);obtain⟨nl,jc⟩:∃n,l.length=n:=⟨_,rfl⟩;obtain⟨nm,iT⟩:∃n,m.length=n:=⟨_,rfl⟩;have HN:=E6 (E7 jc iT);rw[jc]at QL AL X zl|-;rw[iT]at QM AM CH X zm|-;have iY:=E6 (Y6 (R:=R) (A:=A) (off:=off) (s:=s) (least:=least) c1 c2 h0 h1 hq);rw[iT]at iY;clear hl hm b0 b1 b2 fw jc iT hK hq c1 c2 h0 h1;refine(callsIn_wide (n:=3)).1 (callsIn_of_wp_marks Tryz.func31 rfl trivial ((wpIn_wide (n:=3)).2 ?_) rfl);simp only[Tryz.ntmps31,List.size_toArray,List.length_cons,List.length_nil,Nat.reduceAdd,Nat.reduceSub,Array.replicate_succ,Array.replicate_zero,List.push_toArray,List.append_toArray,List.nil_append,List.cons_append];go_wp2_with fail
 go_step3
 go_upto_region 1 with fail
 refine wp_region_lit ?_
 repeat' (first | ((with_reducible show wpList _ _ _ (⟨some 23,_,_,_,_,_⟩::_) _ _); refine zO rfl 45 (.tmp 7) rfl (w.heap.size+1+1) rfl 45 #[Ez ua1,Ex ua2 ua3 ua4,Ez ua5,Ex ua6 ua7 ua8,Ey Ew R,Ey Ew A,Ez ub1,Ex ub2 ub3 ub4,Ez ub5,Ex ub6 ub7 ub8,Ez uc1,Ex uc2 uc3 uc4,Ez uc5,Ex uc6 uc7 uc8] _ zw Tryz.underlying45 rfl D6 ?_) | go_values | go_skip | go_guarded | go_step | go_upon)
 refine(CK _ zj).mono ?_;rintro e w1 ⟨rfl,iz⟩;have B:Below w.heap.size w w1:=zT iz;have o4:ai w1 w.heap.size 55 #[Ex al nl cl]:=ai.au iz;have o5:ai w1 (w.heap.size+1) 55 #[Ex am nm cm]:=ai.au iz;have o7:ai w1 (w.heap.size+1+1) 45 #[Ez ua1,Ex ua2 ua3 ua4,Ez ua5,Ex ua6 ua7 ua8,Ey Ew R,Ey Ew A,Ez ub1,Ex ub2 ub3 ub4,Ez ub5,Ex ub6 ub7 ub8,Ez uc1,Ex uc2 uc3 uc4,Ez uc5,Ex uc6 uc7 uc8]:=ai.au iz;have o8:ai w1 (w.heap.size+1+1+1) 70 yF:=ai.au iz;clear iz;clear CK;dsimp only;have c4:=o4.c 0 rfl
 repeat' (first | go_values | go_skip | go_guarded | go_step | go_upon)
 refine(QL _ B).mono ?_;rintro e w2 ⟨rfl,iv⟩;clear c4;replace B:Below w.heap.size w w2:=zT iv;replace o4:ai w2 w.heap.size 55 #[Ex al nl cl]:=ai.au iv;replace o5:ai w2 (w.heap.size+1) 55 #[Ex am nm cm]:=ai.au iv;replace o7:ai w2 (w.heap.size+1+1) 45 #[Ez ua1,Ex ua2 ua3 ua4,Ez ua5,Ex ua6 ua7 ua8,Ey Ew R,Ey Ew A,Ez ub1,Ex ub2 ub3 ub4,Ez ub5,Ex ub6 ub7 ub8,Ez uc1,Ex uc2 uc3 uc4,Ez uc5,Ex uc6 uc7 uc8]:=ai.au iv;replace o8:ai w2 (w.heap.size+1+1+1) 70 yF:=ai.au iv;clear iv;clear QL;dsimp only;have c5:=o5.c 0 rfl
 repeat' (first | go_values | go_skip | go_guarded | go_step | go_upon)
 refine(QM _ B).mono ?_;rintro e w3 ⟨rfl,iB⟩;clear c5;replace B:Below w.heap.size w w3:=zT iB;replace o4:ai w3 w.heap.size 55 #[Ex al nl cl]:=ai.au iB;replace o5:ai w3 (w.heap.size+1) 55 #[Ex am nm cm]:=ai.au iB;replace o7:ai w3 (w.heap.size+1+1) 45 #[Ez ua1,Ex ua2 ua3 ua4,Ez ua5,Ex ua6 ua7 ua8,Ey Ew R,Ey Ew A,Ez ub1,Ex ub2 ub3 ub4,Ez ub5,Ex ub6 ub7 ub8,Ez uc1,Ex uc2 uc3 uc4,Ez uc5,Ex uc6 uc7 uc8]:=ai.au iB;replace o8:ai w3 (w.heap.size+1+1+1) 70 yF:=ai.au iB;clear iB;clear QM;dsimp only;have c4:=o4.c 0 rfl
 repeat' (first | go_values | go_skip | go_guarded | go_step | go_upon)
 refine(AL _ B).mono ?_;rintro e w4 ⟨u1,rfl,iZ,iy⟩;obtain⟨aa,ca,rfl⟩:=iZ.ak;clear c4;replace B:Below w.heap.size w w4:=zT iy;replace o4:ai w4 w.heap.size 55 #[Ex al nl cl]:=ai.au iy;replace o5:ai w4 (w.heap.size+1) 55 #[Ex am nm cm]:=ai.au iy;replace o7:ai w4 (w.heap.size+1+1) 45 #[Ez ua1,Ex ua2 ua3 ua4,Ez ua5,Ex ua6 ua7 ua8,Ey Ew R,Ey Ew A,Ez ub1,Ex ub2 ub3 ub4,Ez ub5,Ex ub6 ub7 ub8,Ez uc1,Ex uc2 uc3 uc4,Ez uc5,Ex uc6 uc7 uc8]:=ai.au iy;replace o8:ai w4 (w.heap.size+1+1+1) 70 yF:=ai.au iy;clear iy;clear AL;dsimp only;have c5:=o5.c 0 rfl
 repeat' (first | go_values | go_skip | go_guarded | go_step | go_upon)
 refine(AM _ B).mono ?_;rintro e w5 ⟨u2,rfl,k8,it⟩;obtain⟨ab,cb,rfl⟩:=k8.ak;have l8:=iZ.ae it;clear c5 iZ;replace B:Below w.heap.size w w5:=zT it;replace o4:ai w5 w.heap.size 55 #[Ex al nl cl]:=ai.au it;replace o5:ai w5 (w.heap.size+1) 55 #[Ex am nm cm]:=ai.au it;replace o7:ai w5 (w.heap.size+1+1) 45 #[Ez ua1,Ex ua2 ua3 ua4,Ez ua5,Ex ua6 ua7 ua8,Ey Ew R,Ey Ew A,Ez ub1,Ex ub2 ub3 ub4,Ez ub5,Ex ub6 ub7 ub8,Ez uc1,Ex uc2 uc3 uc4,Ez uc5,Ex uc6 uc7 uc8]:=ai.au it;replace o8:ai w5 (w.heap.size+1+1+1) 70 yF:=ai.au it;clear it;clear AM;dsimp only;have c5:=o5.c 0 rfl;have l5:=o5.lt
 repeat' (first | ((with_reducible show wpList _ _ _ (⟨some 62,_,_,_,_,_⟩::_) _ _); refine zO rfl 45 (.tmp 7) rfl (w.heap.size+1+1) rfl 45 #[Ez ua1,Ex ua2 ua3 ua4,Ez ua5,Ex ua6 ua7 ua8,Ey Ew R,Ey Ew A,Ez ub1,Ex ub2 ub3 ub4,Ez ub5,Ex ub6 ub7 ub8,Ez uc1,Ex uc2 uc3 uc4,Ez uc5,Ex uc6 uc7 uc8] _ zw Tryz.underlying45 rfl D6 ?_) | go_values | go_skip | go_guarded | go_step | go_upon)
 refine(CH _ w5.heap.size (ai.new _ _ _)).mono ?_;rintro e Y ⟨v6,rfl,l3,k6⟩;obtain⟨q1,q2,q3,q4,q5,q6,q7,q8,rfl⟩:=l3.ak;have gQ:zf w5 Y:=((Et w5.heap.size w5).alloc (Eo _) _).trans (k6.mono D9);have oc:ai Y w5.heap.size 89 #[Ey Ew 0]:=ai.ae (ai.new _ _ _) k6;have l6:=l8.ae gQ;have mg:=k8.ae gQ;replace o4:=o4.ae gQ;replace o5:=o5.ae gQ;replace o7:=o7.ae gQ;replace o8:=o8.ae gQ;replace B:=bS B gQ;clear CH c5 l5 l3 k6 l8 k8;generalize w5.heap.size=gc at *;clear gQ;have mT:=oc.lt;have nd:=o8.lt;dsimp only
 repeat' (first | go_values | go_skip | go_guarded | go_step | go_upon)
 have gt:zf Y ((Y.alloc (.cells #[Ez q1,Ex q2 q3 q4,Ez q5,Ex q6 q7 q8] 28)).alloc (.cells #[Ek none] 123)):=((Et _ _).alloc (Eo _) _).alloc D9 _;have ob:ai ((Y.alloc (.cells #[Ez q1,Ex q2 q3 q4,Ez q5,Ex q6 q7 q8] 28)).alloc (.cells #[Ek none] 123)) (Y.heap.size+1) 123 #[Ek none]:=ai.bO D8;have lb:((Y.alloc (.cells #[Ez q1,Ex q2 q3 q4,Ez q5,Ex q6 q7 q8] 28)).alloc (.cells #[Ek none] 123)).heap.size=Y.heap.size+2:=by simp
 generalize (Y.alloc (.cells #[Ez q1,Ex q2 q3 q4,Ez q5,Ex q6 q7 q8] 28)).alloc (.cells #[Ek none] 123)=w8 at *;have lX:=l6.ae gt;have l9:=mg.ae gt;replace o4:=o4.ae gt;replace o5:=o5.ae gt;replace o7:=o7.ae gt;replace o8:=o8.ae gt;replace oc:=oc.ae gt;replace B:=bS B gt;clear gt l6 mg;have d0:=o7.c 0 rfl;have d1:=o7.c 1 rfl;have d2:=o7.c 2 rfl;have d3:=o7.c 3 rfl
 go_step3
 repeat' (first | go_values | go_skip | go_guarded | go_step | go_upon)
 refine((callsIn_wide (n:=3)).1 (Wx Fence.wide 3 trivial rfl aa ab _ ca _ cb ua1 ua5 ua2 ua6 ua3 ua4 ua7 ua8 _)).mono ?_;rintro e w7 ⟨rfl,g8⟩;dsimp only
 repeat' (first | go_values | go_skip | go_guarded | go_step | go_upon)
 have dl:zf w8 w7:=by subst g8; exact((((Et _ _).alloc (Eo _) _).alloc D9 _).alloc (by rw[World.size_alloc,World.size_alloc]; omega) _)
 have z7:w7.heap.size=w8.heap.size+3:=by subst g8; simp
 obtain⟨CA,qa,fA⟩:=(lX.ae dl).fC;obtain⟨CB,qb,fB⟩:=(l9.ae dl).fC;obtain⟨a,hA⟩:∃a,(yO l most).2=a:=⟨_,rfl⟩;obtain⟨b,J⟩:∃b,(yO m most).2=b:=⟨_,rfl⟩;rw[hA]at qa fA g8 ML|-;rw[J]at qb fB g8 MM|-;obtain⟨na,ln⟩:∃n,a.length=n:=⟨_,rfl⟩;obtain⟨nb,kw⟩:∃n,b.length=n:=⟨_,rfl⟩;rw[ln]at qa fA g8 ML|-;rw[kw]at qb fB g8 MM|-;have n0:ai w7 w8.heap.size 76 #[Ex aa na ca]:=by subst g8; exact((ai.new _ _ _).alloc _).alloc _
 have n1:ai w7 (w8.heap.size+1) 76 #[Ex ab nb cb]:=by subst g8; exact(ai.bO D8).alloc _
 have n2:ai w7 (w8.heap.size+1+1) 28 #[Ez ua1,Ex ua2 ua3 ua4,Ez ua5,Ex ua6 ua7 ua8]:=by subst g8; exact ai.bO D8
 have b7:Below w.heap.size w w7:=bS B dl;have NB:cM w8.heap.size (w8.heap.size+1) (w8.heap.size+1+1) (Y.heap.size+1) na nb aa ab ca cb CA CB (fun t j=>some (rA (a.getD t zK) j)) (fun t j=>some (rA (b.getD t zK) j)) #[Ez ua1,Ex ua2 ua3 ua4,Ez ua5,Ex ua6 ua7 ua8] (some off) w7:=⟨n0,n1,n2,qa,qb,by have:=X.out.2.2.1.af (av.ae b7); rwa[e0]at this,⟨none,ob.ae dl⟩⟩;replace o4:=o4.ae dl;replace o5:=o5.ae dl;replace o7:=o7.ae dl;replace o8:=o8.ae dl;replace oc:=oc.ae dl;replace ob:=ob.ae dl;obtain⟨wq,iG⟩:∃x,yV s (zC R A nm)=x:=⟨_,rfl⟩;have lc:=oc.lt;have mZ:=B.size;clear g8 dl n0 n1 n2 lX l9 B d0 d1 d2 d3;obtain⟨FV,lI⟩:∃v,Value.func (.func 109) #[] #[Ek (some ⟨w8.heap.size,0,none⟩),Ek (some ⟨w8.heap.size+1,0,none⟩),Ek (some ⟨w8.heap.size+1+1,0,none⟩)]=v:=⟨_,rfl⟩;rw[lI];have mH:w8.heap.size≠Y.heap.size+1:=D5
 refine(wpIn_wide (n:=3)).1 ?_
 refine Ks (n:=3) rfl (show 1<=3 by omega) (gf:=109) (lb:=#[Ek (some ⟨w8.heap.size,0,none⟩),Ek (some ⟨w8.heap.size+1,0,none⟩),Ek (some ⟨w8.heap.size+1+1,0,none⟩)]) lI.symm trivial (enters_of Tryz.func109 D6 rfl)
  (encs:=Vu CA CB) (Kp:=KG (Y.heap.size+1)) (S:=fun xs=>xs=vw a b off) (El:=fun _ x=>x.1<na/\x.2<nb) (Pr:=cM w8.heap.size (w8.heap.size+1) (w8.heap.size+1+1) (Y.heap.size+1) na nb aa ab ca cb CA CB (fun t j=>some (rA (a.getD t zK) j)) (fun t j=>some (rA (b.getD t zK) j)) #[Ez ua1,Ex ua2 ua3 ua4,Ez ua5,Ex ua6 ua7 ua8] (some off))
  ?seq (fun o o'=>NB.ae (((Et _ _).alloc (Eo _) _).alloc D9 _)) (fun _=>rfl) KG.trans (fun A o o' ho hc=>KG.put ho hc)
  (fun xs W=>ai W w.heap.size 55 #[Ex al nl cl]/\ai W (w.heap.size+1) 55 #[Ex am nm cm]/\ai W (w.heap.size+1+1) 45 #[Ez ua1,Ex ua2 ua3 ua4,Ez ua5,Ex ua6 ua7 ua8,Ey Ew R,Ey Ew A,Ez ub1,Ex ub2 ub3 ub4,Ez ub5,Ex ub6 ub7 ub8,Ez uc1,Ex uc2 uc3 uc4,Ez uc5,Ex uc6 uc7 uc8]/\ai W (w.heap.size+1+1+1) 70 yF/\ai W gc 89 #[Ey Ew 0]/\cS l m a b R wq s (Y.heap.size+1) w7.heap.size W (qu (oX l m a b R wq s) xs)/\Below w.heap.size w W)
  ?al ?io ?h0
  (fun x a' W=>∃p q:Nat,a' = { tmps:=#[Value.slice al nl cl,Value.slice am nm cm,Value.int Ew most,Ej #[Ez ua1,Ex ua2 ua3 ua4,Ez ua5,Ex ua6 ua7 ua8,Ey Ew R,Ey Ew A,Ez ub1,Ex ub2 ub3 ub4,Ez ub5,Ex ub6 ub7 ub8,Ez uc1,Ex uc2 uc3 uc4,Ez uc5,Ex uc6 uc7 uc8],Value.pointer (some ⟨w.heap.size,0,none⟩),Value.pointer (some ⟨w.heap.size+1,0,none⟩),Em,Value.pointer (some ⟨w.heap.size+1+1,0,none⟩),Value.pointer (some ⟨w.heap.size+1+1+1,0,none⟩),Value.int Ew 0,Value.int Ew 0,Value.int Ew 0,Value.int Ew 0,Value.slice aa na ca,Value.int Ew 0,Value.slice ab nb cb,Value.pointer (some ⟨gc,0,none⟩),Value.pointer (some ⟨Y.heap.size,0,none⟩),Value.bool true,Value.pointer (some ⟨Y.heap.size+1,0,none⟩),Value.pointer (some ⟨p,0,none⟩),Value.pointer (some ⟨q,0,none⟩),Em,Ej #[Ez ua1,Ex ua2 ua3 ua4,Ez ua5,Ex ua6 ua7 ua8,Ey Ew R,Ey Ew A,Ez ub1,Ex ub2 ub3 ub4,Ez ub5,Ex ub6 ub7 ub8,Ez uc1,Ex uc2 uc3 uc4,Ez uc5,Ex uc6 uc7 uc8],Value.int Ew 0,Value.int Ew 0,Value.bool false,Em,Em,Value.slice al nl cl,Value.int Ew 0,Value.int Ew 0,Value.bool false,Em,Em,Value.slice am nm cm,Value.int Ew 0,Value.int Ew 0,Value.bool false,Em,Em,Ev #[Value.slice aa na ca,Value.int Ew 0],Value.slice al nl cl,Value.int Ew most,Ev #[Value.slice aa na ca,Value.int Ew 0],Value.slice aa na ca,Value.int Ew 0,Value.int Ew 0,Value.bool false,Em,Em,Ev #[Value.slice ab nb cb,Value.int Ew 0],Value.slice am nm cm,Value.int Ew most,Ev #[Value.slice ab nb cb,Value.int Ew 0],Value.slice ab nb cb,Value.int Ew 0,Value.int Ew 0,Value.bool false,Em,Em,Ev #[Ej #[Ez q1,Ex q2 q3 q4,Ez q5,Ex q6 q7 q8],Value.bool true],Ej #[Ez ua1,Ex ua2 ua3 ua4,Ez ua5,Ex ua6 ua7 ua8,Ey Ew R,Ey Ew A,Ez ub1,Ex ub2 ub3 ub4,Ez ub5,Ex ub6 ub7 ub8,Ez uc1,Ex uc2 uc3 uc4,Ez uc5,Ex uc6 uc7 uc8],Value.slice am nm cm,Value.int Ew (nm:Nat),Ev #[Ej #[Ez q1,Ex q2 q3 q4,Ez q5,Ex q6 q7 q8],Value.bool true],Ej #[Ez q1,Ex q2 q3 q4,Ez q5,Ex q6 q7 q8],Value.bool true,Value.bool true,Value.bool false,Em,Value.slice aa na ca,Value.slice ab nb cb,Value.pointer (some ⟨w.heap.size+1+1,0,none⟩),Ej #[Ez ua1,Ex ua2 ua3 ua4,Ez ua5,Ex ua6 ua7 ua8],FV,Ej (CA x.1),Ej (CB x.2),Em,Em,Em,Em,Em,Em,Em,Em,Em,Em,Em,Em,Em,Em,Em,Em,Em,Em,Em,Em,Em,Em,Em,Em,Em,Em,Em,Em,Em,Em,Em,Em,Em,Em,Em,Em,Em,Em,Em,Em,Em,Em,Em,Em,Em,Em,Em,Em,Em,Em,Em,Em,Em,Em,Em,Em,Em,Em,Em,Em,Em,Em,Em,Em,Em,Em,Em,Em,Em,Em,Em,Em,Em,Em,Em,Em,Em,Em,Em],defers:= [] }/\ai W p 83 (CA x.1)/\ai W q 83 (CB x.2))
  ?ao ?assign ?body ?done
 case seq=>
  have z2:sz off 500:=mr.mono D5;have hS:vw a b off=qo (fun i=>fN (fun t j=>some (rA (b.getD t zK) j)) (fun j=>some (rA (a.getD i zK) j)) off nb) na:=by unfold vw; rw[ln,kw]
  rw[hS]
  exact Kt 2 w8.heap.size (w8.heap.size+1) (w8.heap.size+1+1) (Y.heap.size+1) na nb aa ab ca cb CA CB (fun t j=>some (rA (a.getD t zK) j)) (fun t j=>some (rA (b.getD t zK) j)) ua1 ua5 ua2 ua6 ua3 ua4 ua7 ua8 (some off) _ mH D5 D5 (by have:=MM.1; omega) (by have:=ML.1; omega)
   (fun i hi=>by rw[Ku (by have:=MM.1; omega) mf]; exact Ww _ _ _ _) (fun i hi t ht=>GN _ _ _ _ t ht) (fun i hi=>Nat.le_trans (Hy _ _ _ _) (by have:=MM.1; omega))
   (fun t ht i _=>((MM.2 t ht).1 i).mono D5) (fun t ht i _=>((ML.2 t ht).1 i).mono D5) z2
 case al=>
  rintro xs W W' ⟨a4,a5,N,a8,Z,ab,J⟩ st;exact⟨a4.ae st,a5.ae st,N.ae st,a8.ae st,Z.ae st,ab.ae st,zt J (Eo _) st⟩
 case io=>
  rintro xs W o o' ⟨a4,a5,N,a8,Z,ab,J⟩ ho iQ;have kp:∀g t cs,ai W g t cs->ai (W.putObj (w7.heap.size+1) o') g t cs:=fun g t cs h=>yi h (grownBy_putObj' W _ o') (fun r e=>by cases e; exact⟨o,ho,iQ⟩);exact⟨kp _ _ _ a4,kp _ _ _ a5,kp _ _ _ N,kp _ _ _ a8,kp _ _ _ Z,ab.put ho iQ,J.grown (grownBy_putObj' W _ o') J.size (fun k hk=>by cases hk; omega)⟩
 case h0=>exact⟨o4,o5,o7,o8,oc,ob,b7⟩
 case ao=>
  rintro x a' W o o' ⟨p,q,e,h1,h2⟩ ho iQ;have kp:∀g t cs,ai W g t cs->ai (W.putObj (w7.heap.size+1) o') g t cs:=fun g t cs h=>yi h (grownBy_putObj' W _ o') (fun r e=>by cases e; exact⟨o,ho,iQ⟩);exact⟨p,q,e,kp _ _ _ h1,kp _ _ _ h2⟩
 case assign=>
  rintro pre x W K' ⟨a4,a5,N,a8,Z,ax,J⟩ ⟨x1,x2⟩ mE iI;have HI:=E6 (E7 a4 (E7 a5 (E7 N (E7 a8 (E7 Z (E7 ax J))))));have iX:=NB.qa.1 x.1 x1;have iR:=NB.qb.1 x.2 x2;unfold Vu;dsimp only at iI|-;generalize CA x.1=C at iI iX|-;generalize CB x.2=D_ at iI iR|-;have HK:=E6 iI;have ic:(Tryz.prog.info? 83).map (·.size)=some C.size:=by rw[iX.1]; kernel_rfl
  have mN:(Tryz.prog.info? 83).map (·.size)=some D_.size:=by rw[iR.1]; kernel_rfl
  clear a4 a5 N a8 Z ax J iI NB X
  gi_upto_region 22 with fail
  refine yI D6 ?_
  repeat' (first | ((with_reducible show wpList _ _ _ (⟨none,.store _ _ _,_,_,_,_⟩::_) _ _); refine zF rfl 83 (.tmp 20) (.tmp 76) rfl W.heap.size C rfl rfl 83 ZT zw ic iX.1.symm iX.2.1 (fun W1 r1=> ?_)) | go_values | go_skip | go_guarded | go_step | go_upon)
  have me:zf W W1:=r1.below ((Et W.heap.size W).alloc (Eo _) _) (Eo _);have mz:=r1.bz;clear r1;generalize W.heap.size=pp at *;dsimp only[xf,Act.put]
  gi_upto_region 23 with fail
  refine yI D6 ?_
  repeat' (first | ((with_reducible show wpList _ _ _ (⟨none,.store _ _ _,_,_,_,_⟩::_) _ _); refine zF rfl 83 (.tmp 21) (.tmp 77) rfl W1.heap.size D_ rfl rfl 83 ZT zw mN iR.1.symm iR.2.1 (fun W2 r2=> ?_)) | go_values | go_skip | go_guarded | go_step | go_upon)
  have lf:zf W1 W2:=r2.below ((Et W1.heap.size W1).alloc (Eo _) _) (Eo _);have st:zf W W2:=Below.trans me (lf.mono me.size);have mw:=r2.bz;obtain⟨a4,a5,N,a8,Z,ax,J⟩:=HI.out;dsimp only[xf,Act.put];exact HK.out _ _ ⟨st.size,fun k o hk _=>(st.block k (Array.getElem?_eq_some_iff.1 hk).1).trans hk⟩ (KG.ae st) ⟨a4.ae st,a5.ae st,N.ae st,a8.ae st,Z.ae st,ax.ae st,zt J (Eo _) st⟩ ⟨_,_,rfl,mz.ae lf,mw⟩
 case body=>
  rintro pre x a' W ⟨mK,lh⟩ ⟨a4,a5,N,a8,Z,ax,J⟩ ⟨p,q,rfl,h1,h2⟩ ⟨x1,x2⟩ mE;clear lh mK;obtain⟨j0,j1,j2,j3,k0,k1,k2,k3,y0,y1,y2,y3,ko⟩:=(ML.2 x.1 x1).2.ex;obtain⟨i0,i1,i2,i3,m0,m1,m2,m3,z0,z1,z2,z3,lH⟩:=(MM.2 x.2 x2).2.ex;have ja:bP W (Ex al nl cl) l:=X.out.1.ae J;have k7:bP W (Ex am nm cm) m:=X.out.2.1.ae J
  have mG:∀i,i<4->sz (tX l m a b x i) 16:=fun i hi=>by
   have e:tX l m a b x=jI (pt l j0) (pt l j1) (pt m i0) (pt m i1):=by unfold tX; rw[k0,k1,m0,m1]; rfl
   rw[e];exact WD (yx be.out.1 j0 y0) (yx be.out.1 j1 y1) (yx be.out.2 i0 z0) (yx be.out.2 i1 z1) ko i hi
  have SM:∀w',zf W w'->Ed Ec 38 #[Ek (some ⟨gc,0,none⟩),Ej #[Ey Ew (pt l j0).1,Ey Ew (pt l j0).2],Ej #[Ey Ew (pt l j1).1,Ey Ew (pt l j1).2],Ej #[Ey Ew (pt m i0).1,Ey Ew (pt m i0).2],Ej #[Ey Ew (pt m i1).1,Ey Ew (pt m i1).2]] w' fun e w2=>∃v,e = Eh v/\bY w2 v (tX l m a b x)/\zf w' w2:=fun w' s=>by
   have e:tX l m a b x=jI (pt l j0) (pt l j1) (pt m i0) (pt m i1):=by unfold tX; rw[k0,k1,m0,m1]; rfl
   rw[e];exact Wd w' (Z.ae s) (yx be.out.1 j0 y0) (yx be.out.1 j1 y1) (yx be.out.2 i0 z0) (yx be.out.2 i1 z1) ko
  obtain⟨b0,o0,rfl,iF,lJ,lG⟩:=ja.at y0;obtain⟨mY,mR,e,lk,lZ,lK⟩:=ja.at y1;simp only[Option.some.injEq,Addr.mk.injEq,and_true]at e;obtain⟨rfl,rfl⟩:=e;obtain⟨b1,o1,rfl,iE,m9,mh⟩:=k7.at z0;obtain⟨n8,mP,e,lW,lC,lE⟩:=k7.at z1;simp only[Option.some.injEq,Addr.mk.injEq,and_true]at e;obtain⟨rfl,rfl⟩:=e;have ki:(CA x.1)[0]? = some (Ey Ew (j0:Nat)):=by have:=(fA x.1 x1).2.2.1 0 D5; rwa[show kA (a.getD x.1 zK) 0=(j0:Int) from k0]at this
  have kx:(CA x.1)[1]? = some (Ey Ew (j1:Nat)):=by have:=(fA x.1 x1).2.2.1 1 D5; rwa[show kA (a.getD x.1 zK) 1=(j1:Int) from k1]at this
  have mb:(CB x.2)[0]? = some (Ey Ew (i0:Nat)):=by have:=(fB x.2 x2).2.2.1 0 D5; rwa[show kA (b.getD x.2 zK) 0=(i0:Int) from m0]at this
  have lw:(CB x.2)[1]? = some (Ey Ew (i1:Nat)):=by have:=(fB x.2 x2).2.2.1 1 D5; rwa[show kA (b.getD x.2 zK) 1=(i1:Int) from m1]at this
  have p0:W.cell? ⟨p,0,none⟩=some (Ey Ew (j0:Nat)):=h1.c 0 ki;have p1:W.cell? ⟨p,1,none⟩=some (Ey Ew (j1:Nat)):=h1.c 1 kx;have q0:W.cell? ⟨q,0,none⟩=some (Ey Ew (i0:Nat)):=h2.c 0 mb;have lF:W.cell? ⟨q,1,none⟩=some (Ey Ew (i1:Nat)):=h2.c 1 lw
  have ho:aM W (Ex (some ⟨p,0,none⟩) 4 4) [(j0:Int),j1,j2,j3]:=by
   have mD:(CA x.1)[2]? = some (Ey Ew (j2:Nat)):=by have:=(fA x.1 x1).2.2.1 2 D5; rwa[show kA (a.getD x.1 zK) 2=(j2:Int) from k2]at this
   have mF:(CA x.1)[3]? = some (Ey Ew (j3:Nat)):=by have:=(fA x.1 x1).2.2.1 3 D5; rwa[show kA (a.getD x.1 zK) 3=(j3:Int) from k3]at this
   refine⟨_,4,rfl,Eo _,fun _=>⟨p,0,rfl,h1.lt,fun t ht=> ?_⟩⟩
   rcases(show t=0\/t=1\/t=2\/t=3 by simp at ht; omega)with rfl | rfl | rfl | rfl
   . exact h1.c 0 ki
   . exact h1.c 1 kx
   . exact h1.c 2 mD
   . exact h1.c 3 mF
  have lQ:qr wq s (pX l m a b R x) (fun i:Nat=>qz [(j0:Int),j1,j2,j3] (i:Int) [(j0:Int),j1,j2,j3].length) nl=oX l m a b R wq s x:=by
   rw[WA]; unfold oX; rw[k0,k1,k2,k3,HN.out.1]
  have f4:W.cell? ⟨w.heap.size,0,none⟩=some (Ex (some ⟨b0,o0,none⟩) nl cl):=a4.c 0 rfl;have f5:W.cell? ⟨w.heap.size+1,0,none⟩=some (Ex (some ⟨b1,o1,none⟩) nm cm):=a5.c 0 rfl;have l4:=a4.lt;have l5:=a5.lt;have lp:=h1.lt;have lq:=h2.lt;have mS:j0<nl:=by have:=HN.out.1; omega
  have mX:j1<nl:=by have:=HN.out.1; omega
  have n7:i0<nm:=by have:=HN.out.2; omega
  have ne:i1<nm:=by have:=HN.out.2; omega
  have HI:=E6 (E7 a4 (E7 a5 (E7 N (E7 a8 (E7 Z (E7 ax J))))));have HP:=E6 (E7 h1 h2);clear a4 a5 N a8 Z ax J h1 h2 ko lH ja k7 ki kx mb lw
  gi_upto_region 24 with fail
  refine aj.eI W W [.n 26 70 yF 27 [24] Dz] [24,26,27] [(24,eX),(26,xI)] [(24,fun x_ W'=>bY W' x_ (tX l m a b x))] [(27,[(26,some 22),(24,some 102)]),(28,[(26,some 22),(24,some 102)])] [(26,[27])] (by simp only[aP]; exact⟨zh,zj,trivial⟩) (fun N0 ft M Q' H hQ=> ?_)
   (by intro p hp; simp only[List.mem_cons,List.not_mem_nil,or_false]at hp; rcases hp with rfl | rfl; exact⟨_,eX.mk⟩; exact⟨_,0,rfl⟩) (by intro p hp; simp only[List.mem_cons,List.not_mem_nil,or_false]at hp; subst hp; intro x W W' k h; exact bY.af h k)
  refine aj.bH H 78 (fun _ _ _ _ h=>(h.b.cell (p:=⟨w.heap.size,0,none⟩) l4).trans f4) ?_
  iterate 2 refine aj.RQ H _ ?_
  refine aj.bH H 81 (fun _ _ _ _ h=>(h.b.cell (p:=⟨p,0,none⟩) lp).trans p0) ?_
  iterate 1 refine aj.RQ H _ ?_
  refine aj.bH H 83 (fun _ _ _ _ h=>E7 ((h.b.cell (p:=⟨b0,o0+j0*2,none⟩) iF).trans lJ) ((h.b.cell (p:=⟨b0,o0+j0*2+1,none⟩) iF).trans lG)) ?_;refine aj.bH H 84 (fun _ _ _ _ h=>(h.b.cell (p:=⟨w.heap.size,0,none⟩) l4).trans f4) ?_
  iterate 2 refine aj.RQ H _ ?_
  refine aj.bH H 87 (fun _ _ _ _ h=>(h.b.cell (p:=⟨p,1,none⟩) lp).trans p1) ?_
  iterate 1 refine aj.RQ H _ ?_
  refine aj.bH H 89 (fun _ _ _ _ h=>E7 ((h.b.cell (p:=⟨b0,o0+j1*2,none⟩) iF).trans lZ) ((h.b.cell (p:=⟨b0,o0+j1*2+1,none⟩) iF).trans lK)) ?_;refine aj.bH H 90 (fun _ _ _ _ h=>(h.b.cell (p:=⟨w.heap.size+1,0,none⟩) l5).trans f5) ?_
  iterate 2 refine aj.RQ H _ ?_
  refine aj.bH H 93 (fun _ _ _ _ h=>(h.b.cell (p:=⟨q,0,none⟩) lq).trans q0) ?_
  iterate 1 refine aj.RQ H _ ?_
  refine aj.bH H 95 (fun _ _ _ _ h=>E7 ((h.b.cell (p:=⟨b1,o1+i0*2,none⟩) iE).trans m9) ((h.b.cell (p:=⟨b1,o1+i0*2+1,none⟩) iE).trans mh)) ?_;refine aj.bH H 96 (fun _ _ _ _ h=>(h.b.cell (p:=⟨w.heap.size+1,0,none⟩) l5).trans f5) ?_
  iterate 2 refine aj.RQ H _ ?_
  refine aj.bH H 99 (fun _ _ _ _ h=>(h.b.cell (p:=⟨q,1,none⟩) lq).trans lF) ?_
  iterate 1 refine aj.RQ H _ ?_
  refine aj.bH H 101 (fun _ _ _ _ h=>E7 ((h.b.cell (p:=⟨b1,o1+i1*2,none⟩) iE).trans lC) ((h.b.cell (p:=⟨b1,o1+i1*2+1,none⟩) iE).trans lE)) ?_;refine aj.sC (m:=fun u=>u) (F:=fun W' u=>bY W' u (tX l m a b x)) H (fun D v W' hj _=>SM W' hj.b) ?_ (hv:=fun W' u h=>h.eU);rintro _ ⟨bi,d9,bh,ed,cN,b9,dc,cU,aY,bl,dk,br,f9,co,er,cy,f8,em,bt,cx,cg,eW,bg,dx,ek,ey,ci,aX,eM,ce,dz,dP,rfl⟩;refine aj.dB rfl ?_;refine aj.RQ H 103 ?_ (h:=fun W' K hK=>by refine YO 70 #[(0,.tmp 102)] rfl #[Ez bi,Ex d9 bh ed,Ez cN,Ex b9 dc cU,Ez aY,Ex bl dk br,Ez f9,Ex co er cy,Ez f8,Ex em bt cx,Ez cg,Ex eW bg dx,Ez ek,Ex ey ci aX,Ez eM,Ex ce dz dP,Ex none 0 0,Ez false,Ex none 0 0,Ez false,Ex none 0 0] D6 ?_; exact hK.out);refine aj.sA H ?_;rintro _ ⟨pm,rfl⟩;refine aj.dB rfl ?_;refine aj.sN H ?_ (h:=fun W' hb K hK=>by refine wp_store_row 70 (.tmp 22) (.tmp 103) rfl pm #[Ez bi,Ex d9 bh ed,Ez cN,Ex b9 dc cU,Ez aY,Ex bl dk br,Ez f9,Ex co er cy,Ez f8,Ex em bt cx,Ez cg,Ex eW bg dx,Ez ek,Ex ey ci aX,Ez eM,Ex ce dz dP,Ex none 0 0,Ez false,Ex none 0 0,Ez false,Ex none 0 0] rfl rfl 70 _ hb D6 rfl (by simp[Value.oneCell']) ?_; exact hK.out _ ⟨rfl,rfl,rfl,(aZ.eL hb).only⟩ (aZ.eL hb).bz);refine aj.sE (fun _ v' W2 B2 jk hl _ _ hf=> ?_);simp only[xx,xA]at hl;obtain⟨ea,-⟩:=hl;obtain⟨zc,om⟩:N0<=pm/\ai W2 pm 70 #[Ez bi,Ex d9 bh ed,Ez cN,Ex b9 dc cU,Ez aY,Ex bl dk br,Ez f9,Ex co er cy,Ez f8,Ex em bt cx,Ez cg,Ex eW bg dx,Ez ek,Ex ey ci aX,Ez eM,Ex ce dz dP,Ex none 0 0,Ez false,Ex none 0 0,Ez false,Ex none 0 0]:=ea pm rfl;have S0:bY W2 (Ej #[Ez bi,Ex d9 bh ed,Ez cN,Ex b9 dc cU,Ez aY,Ex bl dk br,Ez f9,Ex co er cy,Ez f8,Ex em bt cx,Ez cg,Ex eW bg dx,Ez ek,Ex ey ci aX,Ez eM,Ex ce dz dP]) (tX l m a b x):=(hf (24,some 102) (.tail _ (.head _)) rfl).2.2;have zN:W.heap.size<=N0:=Nat.le_of_eq ft.out.symm;clear hf ea jk ft;refine hQ _ _ ?_;clear hQ H Q' M;obtain⟨a4,a5,N,a8,Z,ax,J⟩:=HI.out;replace a4:=a4.ae B2;replace a5:=a5.ae B2;replace N:=N.ae B2;replace a8:=a8.ae B2;replace Z:=Z.ae B2;replace ax:=ax.ae B2;replace J:=zt J (Eo _) B2;have h1:=HP.out.1.ae B2;have mA:KG (Y.heap.size+1) W W2:=KG.ae B2;have lY:=E6 B2;have lP:W.heap.size<=pm:=D5
  clear f4 f5 p0 p1 q0 lF l4 l5 lp lq lJ lG lZ lK m9 mh lC lE iF lk iE lW SM zc zN B2;obtain⟨S1,S2,S3,S4⟩:=Co S0;have PR:=fun(w':Ee) (st:zf W2 w')=>Ht (gc:=gc) (tc:=89) R w' (Z.ae st) (S1.af (av.ae st)) (S2.af (av.ae st)) (S3.af (av.ae st)) (S4.af (av.ae st)) (fun i hi=>mG i hi) (X.out.1.ae (zt J (Eo _) st)) (X.out.2.1.ae (zt J (Eo _) st)) be.out.1 be.out.2 hR.1 hR.2.1;have f4:W2.cell? ⟨w.heap.size,0,none⟩=some (Ex (some ⟨b0,o0,none⟩) nl cl):=a4.c 0 rfl;have f5:W2.cell? ⟨w.heap.size+1,0,none⟩=some (Ex (some ⟨b1,o1,none⟩) nm cm):=a5.c 0 rfl;have f7:W2.cell? ⟨w.heap.size+1+1,4,none⟩=some (Ey Ew R):=N.c 4 rfl
  have lM:∀j,j<(#[Ez bi,Ex d9 bh ed,Ez cN,Ex b9 dc cU,Ez aY,Ex bl dk br,Ez f9,Ex co er cy,Ez f8,Ex em bt cx,Ez cg,Ex eW bg dx,Ez ek,Ex ey ci aX,Ez eM,Ex ce dz dP]:Array Ef).size->W2.cell? ⟨pm,0+j,none⟩=(#[Ez bi,Ex d9 bh ed,Ez cN,Ex b9 dc cU,Ez aY,Ex bl dk br,Ez f9,Ex co er cy,Ez f8,Ex em bt cx,Ez cg,Ex eW bg dx,Ez ek,Ex ey ci aX,Ez eM,Ex ce dz dP]:Array Ef)[j]? :=fun j hj=>by
   rw[Nat.zero_add,om.cell j];exact(Qn hj).symm
  gi_upto_region 25 with fail
  refine yI D6 ?_
  repeat' (first | ((with_reducible show wpList _ _ _ (⟨some 105,_,_,_,_,_⟩::_) _ _); refine j8 rfl 30 (.tmp 104) rfl pm 0 rfl #[Ez bi,Ex d9 bh ed,Ez cN,Ex b9 dc cU,Ez aY,Ex bl dk br,Ez f9,Ex co er cy,Ez f8,Ex em bt cx,Ez cg,Ex eW bg dx,Ez ek,Ex ey ci aX,Ez eM,Ex ce dz dP] _ lM Tryz.underlying30 rfl D6 ?_) | go_values | go_skip | go_guarded | go_step | go_upon)
  refine(PR W2 (Et _ _)).mono ?_;rintro e W3 ⟨u,rfl,hu,iV⟩;replace hu:aM W3 u (pX l m a b R x):=hu;have iP:=Kw l m a b R x;rw[HN.out.1]at iP;obtain⟨uo,uc,rfl⟩:=hu.ak;rw[iP]at hu|-;have iq:=om.ae iV;clear f4 f5 f7 lM PR;have iS:=iq.fX;have lm:=iq.lt;have fm:=iq.fr;dsimp only
  repeat' (first | go_values | go_skip | go_guarded | go_step | go_upon)
  dsimp only[xf,Act.put];have iA:ai (W3.setCell ⟨pm,16,none⟩ (Ex uo nl uc)) pm 70 #[Ez bi,Ex d9 bh ed,Ez cN,Ex b9 dc cU,Ez aY,Ex bl dk br,Ez f9,Ex co er cy,Ez f8,Ex em bt cx,Ez cg,Ex eW bg dx,Ez ek,Ex ey ci aX,Ez eM,Ex ce dz dP,Ex uo nl uc,Ez false,Ex none 0 0,Ez false,Ex none 0 0]:=iq.bL 16 _;have lO:av W3 (W3.setCell ⟨pm,16,none⟩ (Ex uo nl uc)):=av.only iq rfl ((bK.refl _ _).set);have iN:zf W (W3.setCell ⟨pm,16,none⟩ (Ex uo nl uc)):=Below.setCell (p:=⟨pm,16,none⟩) (zt lY.out (Eo _) iV) lP _;have jb:aM (W3.setCell ⟨pm,16,none⟩ (Ex uo nl uc)) (Ex uo nl uc) (pX l m a b R x):=hu.only iq D8 ((bK.refl _ _).set);have ms:=(S0.af (av.ae iV)).af lO;generalize W3.setCell ⟨pm,16,none⟩ (Ex uo nl uc)=W4 at *;clear iS lm fm iq iV hu lO om S0 S1 S2 S3 S4 a4 a5 N a8 Z ax J h1 mA lY;obtain⟨a4,a5,N,a8,Z,ax,J⟩:=HI.out
  have OD:∀w',zf W4 w'->Ed Ec 51 #[Ek (some ⟨gc,0,none⟩),Ej #[Ez ua1,Ex ua2 ua3 ua4,Ez ua5,Ex ua6 ua7 ua8,Ey Ew R,Ey Ew A,Ez ub1,Ex ub2 ub3 ub4,Ez ub5,Ex ub6 ub7 ub8,Ez uc1,Ex uc2 uc3 uc4,Ez uc5,Ex uc6 uc7 uc8],Ex uo nl uc,Ey Ew nm,Ex (some ⟨p,0,none⟩) 4 4] w' fun e w2=>∃v,e = Eh v/\FR w2 v (oX l m a b R wq s x)/\zf w' w2:=fun w' st=>by
   have sw:zf W w':=zt iN (Eo _) st;have ub:=(X.out.2.2.2.1.af (av.ae J)).af (av.ae sw);rw[e1]at ub;have:=Ck (ua1:=ua1) (ua2:=ua2) (ua3:=ua3) (ua4:=ua4) (ua5:=ua5) (ua6:=ua6) (ua7:=ua7) (ua8:=ua8) (uc1:=uc1) (uc2:=uc2) (uc3:=uc3) (uc4:=uc4) (uc5:=uc5) (uc6:=uc6) (uc7:=uc7) (uc8:=uc8) (R:=R) (A:=A) (n:=(nm:Int)) w' (Z.ae sw) ub ss hR.1 hR.2.1 hR.2.2.1 hR.2.2.2 D5 D5 (jb.ae st) (ho.ae sw) (by rw[iP]; omega) D8;rw[iG,iP,lQ]at this;exact this
  have l4:=N.lt;have l5:=a5.lt;have f5:W.cell? ⟨w.heap.size+1,0,none⟩=some (Ex (some ⟨b1,o1,none⟩) nm cm):=a5.c 0 rfl;have iS:=iA.fX;have lm:=iA.lt
  gi_upto_region 26 with fail
  refine jx (fun D v W'=>(D 9=false->zf W4 W')/\(D 9=true->D 7=true/\∃W5 c,zf W4 W5/\Wr pm W5 W'/\v 7 = Ej c/\ai W' pm 70 (#[Ez bi,Ex d9 bh ed,Ez cN,Ex b9 dc cU,Ez aY,Ex bl dk br,Ez f9,Ex co er cy,Ez f8,Ex em bt cx,Ez cg,Ex eW bg dx,Ez ek,Ex ey ci aX,Ez eM,Ex ce dz dP,Ex uo nl uc]++c))) (aj.inl [7,9]) (aj.gv [(7,ym)]) (gw [(7,bc (oX l m a b R wq s x))]) (fun _=>av) (fun _ _=>False) (aj.pl [(9,[(7,some 119)]),(10,[(7,some 119)])]) (aj.pl [(0,[9]),(2,[9]),(3,[9]),(7,[9])])
   D6 D6 D6 D6 (aj.bj _ (by intro p hp; simp only[List.mem_cons,List.not_mem_nil,or_false]at hp; rcases hp with rfl; exact⟨_,false,none,0,0,false,none,0,0,rfl⟩)) (fun _=>⟨fun _=>zh,fun h=>by cases h⟩) (fun D v v' W' hv hj=>⟨hj.1,fun h=>by obtain⟨d,W5,c,g1,g2,g3,g4⟩:=hj.2 h; exact⟨d,W5,c,g1,g2,(hv 7 d)▸g3,g4⟩⟩)
   (fun _ _ _ _ _ _ _ _ _ _ _ hk hx=>qT _ (by intro p hp; simp only[List.mem_cons,List.not_mem_nil,or_false]at hp; subst hp; exact bc.af) hk hx) (fun _ _ _ _ h=>h.elim) (fun M Q' H hQ=> ?_)
  refine aj.bH H 112 (fun _ _ _ hc hj=>N.ae (zt iN (Eo _) (hj.1 (hc.2 9 D7)))) ?_ (h:=fun W' hf K hK=>by refine wp_load_row 45 (.tmp 7) rfl (w.heap.size+1+1) rfl 45 #[Ez ua1,Ex ua2 ua3 ua4,Ez ua5,Ex ua6 ua7 ua8,Ey Ew R,Ey Ew A,Ez ub1,Ex ub2 ub3 ub4,Ez ub5,Ex ub6 ub7 ub8,Ez uc1,Ex uc2 uc3 uc4,Ez uc5,Ex uc6 uc7 uc8] (0,0) _ hf Tryz.underlying45 rfl D6 ?_; exact hK.out);refine aj.dB rfl ?_;refine aj.RQ H _ ?_;refine aj.bH H 114 (fun _ _ _ hc hj=>((hj.1 (hc.2 9 D7)).cell (p:=⟨pm,16,none⟩) lm).trans iS) ?_;refine aj.bH H 115 (fun _ _ _ hc hj=>((zt iN (Eo _) (hj.1 (hc.2 9 D7))).cell (p:=⟨w.heap.size+1,0,none⟩) l5).trans f5) ?_
  iterate 3 refine aj.RQ H _ ?_
  refine aj.aC rfl (ZB rfl) (by rw[H]; rfl) (fun D v' W' hc hj hf K hK=> ?_) ?_
  .
   have s4:=hj.1 (hc.2 9 D7);go_step;refine(OD W' s4).mono ?_;rintro e W6 ⟨u,rfl,hF,s5⟩;exact hK.out _ _ (av.ae s5) ⟨fun _=>zt s4 (Eo _) s5,fun h=>Bool.noConfusion ((hc.2 9 D7).symm.trans h)⟩ hF hF.ak
  rintro _ ⟨d1,d2,d3,d4,d5,d6,d7,d8,rfl⟩;refine aj.dB rfl ?_;refine aj.RQ H _ ?_;refine aj.aC rfl (by intro t ht; cases ht) (by rw[H]; rfl) (fun D v' W' hc hj hf K hK=> ?_) (fun _ _=>aj.aB (b:=⟨_,_⟩) rfl ?_)
  .
   have s4:=hj.1 hc.1;have f:=hf (7,some 119) (.head _) rfl;have e7:v' 7 = Ej #[Ez d1,Ex d2 d3 d4,Ez d5,Ex d6 d7 d8]:=f.2.1;have hb:=iA.ae s4;have ff:=hb.fr;have lp:=hb.lt;have n5:=hb.gr;have mO:=hb.gi;have mV:=hb.gj;have n6:=hb.gg;go_step;exact hK.out Em _ (av.only hb rfl ((bK.refl _ _).set.set.set.set)) ⟨fun h=>Bool.noConfusion h,fun _=>⟨f.1,W',_,s4,(Wr.refl _ _).set.set.set.set,e7,((((hb.bL 17 _).bL 18 _).bL 19 _).bL 20 _)⟩⟩ trivial trivial
  refine aj.aF (fun Dn v' W6 hd hj hf=> ?_);obtain⟨-,W5,c,g1,g2,g3,ij⟩:=hj.2 (hd 9 D7);have f:=hf (7,some 119) (.head _) rfl;have e7:v' 7 = Ej #[Ez d1,Ex d2 d3 d4,Ez d5,Ex d6 d7 d8]:=f.2.1;have e8:#[Ez d1,Ex d2 d3 d4,Ez d5,Ex d6 d7 d8]=c:=by have e9:=e7.symm.trans g3; injection e9
  subst e8;have F6:FR W6 (Ej #[Ez d1,Ex d2 d3 d4,Ez d5,Ex d6 d7 d8]) (oX l m a b R wq s x):=f.2.2;have fd:zf W W6:=g2.fS (zt iN (Eo _) g1) lP;have iu:aM W6 (Ex uo nl uc) (pX l m a b R x):=(jb.ae g1).only (iA.ae g1) D8 g2.only;have ir:=(ms.af (av.ae g1)).af (g2.fY (iA.ae g1));clear hd hf hj f e7 g3 g1 g2 iA iN jb ms OD l4 l5 f5 iS lm W5;refine hQ _ _ ?_;clear hQ H Q' M;replace a4:=a4.ae fd;replace a5:=a5.ae fd;replace N:=N.ae fd;replace a8:=a8.ae fd;replace Z:=Z.ae fd;replace ax:=ax.ae fd;replace J:=zt J (Eo _) fd;have iK:KG (Y.heap.size+1) W W6:=KG.ae fd;have km:=E6 fd;have iW:sz wq 20:=by rw[<- iG]; exact kX ss (xq hR.1 hR.2.1 hR.2.2.1 hR.2.2.2 (show (0:Int)<=(nm:Int) by omega) D5).1 (Rat.ne_of_gt (qg hR.1 hR.2.2.1 D5))
  have ma:=fun y=>Vx (l:=l) (m:=m) (a:=a) (b:=b) (R:=R) y iW ss (show l.length<=6 by have:=HN.out.1; omega);clear fd ho lQ;obtain⟨bo,i8⟩:∃z,qu (oX l m a b R wq s) pre=z:=⟨_,rfl⟩;rw[i8]at ax;have ks:=E6 (E7 iK (E7 a4 (E7 a5 (E7 N (E7 a8 (E7 J (E7 ir iu)))))));clear iK a4 a5 N a8 J ir iu HI HP;have ff:=ij.fr;have lm:=ij.lt;have lc:=Z.lt
  rcases bo with _ | y
  .
   have fp:W6.cell? ⟨Y.heap.size+1,0,none⟩=some (Ek none):=ai.c ax 0 rfl;have ah:=ai.lt ax
   gi_upto_region 27 with fail
   refine aj.eI W6 W6 [] [] [] [] [] [] (by simp only[aP]; exact⟨zh,zj,trivial⟩) (fun N0 ft M Q' H hQ=> ?_) (by intro p hp; cases hp) (by intro p hp; cases hp);refine aj.bH H 121 (fun _ _ _ _ h=>(h.b.cell (p:=⟨Y.heap.size+1,0,none⟩) ah).trans fp) ?_
   iterate 2 refine aj.RQ H _ ?_
   iterate 8 refine aj.dh rfl (by rw[H]; rfl) (aj.aB (b:=⟨#[_,_,_,_,_,_,_,_,_,_,_,_,_,_,_,_,_,_,_,_,_,_,_,_,_,_,_,_,_,_,_,_,_,_,_,_,_,_,_,_,_,_,_,_,_,_,_,_,_,_,_,_,_,_,_,_,_,_,_,_,_,_,_,_,_,_,_,_,_,_,_,_,_,_,_,_,_,_,_,_,_,_,_,_,_,_,_,_,_,_,_,_,_,_,_,_,_,_,_,_,_,_,_,_,_,_,_,_,_,_,_,_,_,_,_,_,_,_,_,_,_,_,_,_,_,_,_,_,_,_,_,_,_,_,_,_,_,_,_,_,_,_,_,_,_,_,_,_,_,_,_,_,_,_,_,_,_],_⟩) rfl ?_)
   refine aj.RQ H _ ?_;refine aj.sE (fun _ v' W7 I jk hl _ _ hf=> ?_);refine hQ _ _ ?_;clear hl hf hQ H Q' M jk ft;have g9:=ai.ae ax I;have f7:=g9.c 0 rfl;have l7:=g9.lt;have my:=g9.fr
   gi_upto_region 28 with fail
   refine yI D6 ?_
   repeat' (first | go_values | go_skip | go_guarded | go_step | go_upon)
   dsimp only[xf,Act.put];obtain⟨iK,a4,a5,N,a8,J,ir,iu⟩:=ks.out;have h:=WG (zt km.out (Eo _) I) (a4.ae I) (a5.ae I) (N.ae I) (a8.ae I) (Z.ae I) ⟨_,g9⟩ (zt J (Eo _) I) (ai.cast (c':=#[Ez bi,Ex d9 bh ed,Ez cN,Ex b9 dc cU,Ez aY,Ex bl dk br,Ez f9,Ex co er cy,Ez f8,Ex em bt cx,Ez cg,Ex eW bg dx,Ez ek,Ex ey ci aX,Ez eM,Ex ce dz dP]++#[Ex uo nl uc,Ez d1,Ex d2 d3 d4,Ez d5,Ex d6 d7 d8]) (ij.ae I) D8) (ir.af (av.ae I)) (iu.ae I) (F6.af (av.ae I)) (Qk i8) (n:=w7.heap.size) D5 D5 D5 D5;exact⟨h.1.from _,h.2.1,h.2.2⟩
  .
   have iJ:=E6 ax;obtain⟨pb,CS,fl,mB,T,iU⟩:=ax;obtain⟨cs,u2,t1,t2,t3,t4,t5,t6,t7,t8,gd,bs,bu,bf⟩:=iU;obtain⟨gF,gV,gD,ik,gN,gH,gE,i5,gT,ip,gC,i7,gO,gB,gI,gW,i6,gL,im,gG,gY,hE,gP,h9,gz,gM,gR,gX,gJ,gA,ig,gK,es⟩:=bs.eU;have iC:cs=#[Ez gF,Ex gV gD ik,Ez gN,Ex gH gE i5,Ez gT,Ex ip gC i7,Ez gO,Ex gB gI gW,Ez i6,Ex gL im gG,Ez gY,Ex hE gP h9,Ez gz,Ex gM gR gX,Ez gJ,Ex gA ig gK]:=by injection es
   have iO:CS=#[Ez gF,Ex gV gD ik,Ez gN,Ex gH gE i5,Ez gT,Ex ip gC i7,Ez gO,Ex gB gI gW,Ez i6,Ex gL im gG,Ez gY,Ex hE gP h9,Ez gz,Ex gM gR gX,Ez gJ,Ex gA ig gK,u2,Ez t1,Ex t2 t3 t4,Ez t5,Ex t6 t7 t8]:=by rw[iC]at gd; injection gd
   rw[iO]at T;have mW:=E6 (E7 bs (E7 bu gd));clear es iO gd bs bu iC;have fp:W6.cell? ⟨Y.heap.size+1,0,none⟩=some (Ek (some ⟨pb,0,none⟩)):=ai.c fl 0 rfl;have ah:=ai.lt fl;have dy:=ai.lt T;have m8:=ij.c 17 rfl;have ml:=ij.c 18 rfl;have m7:=ij.c 19 rfl;have mt:=ij.c 20 rfl;have iD:=T.c 17 rfl;have iM:=T.c 18 rfl;have iL:=T.c 19 rfl;have iH:=T.c 20 rfl;obtain⟨c,hc⟩:∃c,z8 (oX l m a b R wq s x) (oX l m a b R wq s y)=c:=⟨_,rfl⟩;have CP:∀w',zf W6 w'->Ed Ec 67 #[Ek (some ⟨gc,0,none⟩),Ej #[Ez d1,Ex d2 d3 d4,Ez d5,Ex d6 d7 d8],Ej #[Ez t1,Ex t2 t3 t4,Ez t5,Ex t6 t7 t8]] w' fun e w2=>e = Eh (Ey Ew c)/\zf w' w2:=fun w' st=>by rw[<- hc]; exact xL w' (Z.ae st) (F6.af (av.ae st)) (bf.af (av.ae st)) (ma x) (ma y) D5
   obtain⟨tc,fe⟩:∃d,decide (c<=0)=d:=⟨_,rfl⟩
   gi_upto_region 27 with fail
   refine aj.eI W6 W6 [] [6,9] [(6,fun x=>x = Ek (some ⟨pb,0,none⟩)),(9,fun x=>x = Ey Ew c)] [] [] [] (by simp only[aP]; exact⟨zh,zj,trivial⟩) (fun N0 ft M Q' H hQ=> ?_) (by intro p hp; simp only[List.mem_cons,List.not_mem_nil,or_false]at hp; rcases hp with rfl | rfl<;>exact⟨_,rfl⟩) (by intro p hp; cases hp);refine aj.bH H 121 (fun _ _ _ _ h=>(h.b.cell (p:=⟨Y.heap.size+1,0,none⟩) ah).trans fp) ?_
   iterate 3 refine aj.RQ H _ ?_
   refine aj.bH H 125 (fun _ _ _ _ h=>E7 ((h.b.cell (p:=⟨pm,17,none⟩) lm).trans m8) (E7 ((h.b.cell (p:=⟨pm,18,none⟩) lm).trans ml) (E7 ((h.b.cell (p:=⟨pm,19,none⟩) lm).trans m7) ((h.b.cell (p:=⟨pm,20,none⟩) lm).trans mt)))) ?_;refine aj.bH H 126 (fun _ _ _ _ h=>(h.b.cell (p:=⟨Y.heap.size+1,0,none⟩) ah).trans fp) ?_;refine aj.aC rfl (YJ rfl rfl) (by rw[H]; rfl) (fun D v W' ky hj hf K hK=> ?_) ?_
   .
    go_step;exact hK.out _ _ (av.refl _) (hj.call ky.1 (by rfl) (Et _ _)) trivial rfl
   rintro _ rfl;refine aj.dB rfl ?_;refine aj.RQ H _ ?_;refine aj.bH H 129 (fun _ _ _ _ h=>E7 ((h.b.cell (p:=⟨pb,17,none⟩) dy).trans iD) (E7 ((h.b.cell (p:=⟨pb,18,none⟩) dy).trans iM) (E7 ((h.b.cell (p:=⟨pb,19,none⟩) dy).trans iL) ((h.b.cell (p:=⟨pb,20,none⟩) dy).trans iH)))) ?_;refine aj.sV H (fun D v W' hj _=>CP W' hj.b) ?_;refine aj.dB rfl ?_
   iterate 2 refine aj.RQ H _ ?_
   refine aj.sE (fun _ v' W7 I jk hl _ _ hf=> ?_);refine hQ _ _ ?_;clear hl hf hQ H Q' M jk ft fp ah dy m8 ml m7 mt iD iM iL iH CP;have g9:=ai.ae fl I
   try rw[fe]
   clear bf fl T
   cases tc with
   | true=>
    have mu:=of_decide_eq_true fe;clear fe
    gi_wp2_with fail
    obtain⟨iK,a4,a5,N,a8,J,ir,iu⟩:=ks.out;have mj:=zt km.out (Eo _) I;refine⟨(WF mj).from _,KG.ae mj,a4.ae I,a5.ae I,N.ae I,a8.ae I,Z.ae I,?_,zt J (Eo _) I⟩;rw[xM,XM i8 (by rw[hc]; exact mu),i8];have h:=iJ.out.ae I
    rwa[show w7.heap.size=Y.heap.size+2+3 by omega]at h
   | false=>
    have f7:=g9.c 0 rfl;have l7:=g9.lt;have my:=g9.fr
    gi_upto_region 28 with fail
    refine yI D6 ?_
    repeat' (first | go_values | go_skip | go_guarded | go_step | go_upon)
    dsimp only[xf,Act.put];obtain⟨iK,a4,a5,N,a8,J,ir,iu⟩:=ks.out;have h:=WG (zt km.out (Eo _) I) (a4.ae I) (a5.ae I) (N.ae I) (a8.ae I) (Z.ae I) ⟨_,g9⟩ (zt J (Eo _) I) (ai.cast (c':=#[Ez bi,Ex d9 bh ed,Ez cN,Ex b9 dc cU,Ez aY,Ex bl dk br,Ez f9,Ex co er cy,Ez f8,Ex em bt cx,Ez cg,Ex eW bg dx,Ez ek,Ex ey ci aX,Ez eM,Ex ce dz dP]++#[Ex uo nl uc,Ez d1,Ex d2 d3 d4,Ez d5,Ex d6 d7 d8]) (ij.ae I) D8) (ir.af (av.ae I)) (iu.ae I) (F6.af (av.ae I)) (Y4 i8 (by rw[hc]; have:=of_decide_eq_false fe; omega)) (n:=w7.heap.size) D5 D5 D5 D5;exact⟨h.1.from _,h.2.1,h.2.2⟩
 case done=>
  rintro D xs W hD rfl ⟨a4,a5,N,a8,Z,ax,gn⟩ cn;have E:=iY.out;rw[hA,J,iG]at E;have mI:FR W (Ej #[Ez uc1,Ex uc2 uc3 uc4,Ez uc5,Ex uc6 uc7 uc8]) least:=by have h:=X.out.2.2.2.2.1; rw[e2]at h; exact h.af (av.ae gn)
  have iJ:=E6 (E7 ax (E7 gn cn));obtain⟨bo,i8⟩:∃z,qu (oX l m a b R wq s) (vw a b off)=z:=⟨_,rfl⟩;rw[i8]at ax E;have HE:=E6 E;clear NB E gn cn be iY;have f0:=Z.c 0 rfl;have mU:=Z.lt
  rcases bo with _ | y
  .
   have fp:W.cell? ⟨Y.heap.size+1,0,none⟩=some (Ek none):=ai.c ax 0 rfl;have ah:=ai.lt ax
   go_upto_region 31 with fail
   refine aj.cC W W [] [] [] [] [] [] (by simp only[aP]; exact⟨zh,zj,trivial⟩) (fun N0 ft M Q' H hQ=> ?_);refine aj.bH H 141 (fun _ _ _ _ h=>(h.b.cell (p:=⟨Y.heap.size+1,0,none⟩) ah).trans fp) ?_
   iterate 2 refine aj.RQ H _ ?_
   iterate 8 refine aj.dh rfl (by rw[H]; rfl) (aj.aB (b:=⟨#[_,_,_,_,_,_,_,_,_,_,_,_,_,_,_,_,_,_,_,_,_,_,_,_,_,_,_,_,_,_,_,_,_,_,_,_,_,_,_,_,_,_,_,_,_,_,_,_,_,_,_,_,_,_,_,_,_,_,_,_,_,_,_,_,_,_,_,_,_,_,_,_,_,_,_,_,_,_,_,_,_,_,_,_,_,_,_,_,_,_,_,_,_,_,_,_,_,_,_,_,_,_,_,_,_,_,_,_,_,_,_,_,_,_,_,_,_,_,_,_,_,_,_,_,_,_,_,_,_,_,_,_,_,_,_,_,_,_,_,_,_,_,_,_,_,_,_,_,_,_,_,_,_,_,_,_,_],_⟩) rfl ?_)
   iterate 2 refine aj.RQ H _ ?_
   refine aj.sE (fun _ v' W7 I jk hl _ _ hf=> ?_);refine hQ _ _ ?_;clear hl hf hQ H Q' M jk ft fp ah;have o8:=a8.ae I
   go_upto_region 32 with fail
   refine wp_region_lit ?_
   repeat' (first | ((with_reducible show wpList _ _ _ (⟨some 153,_,_,_,_,_⟩::_) _ _); refine yp rfl 70 #[] rfl yF D6 ?_) | ((with_reducible show wpList _ _ _ (⟨none,.store _ _ _,_,_,_,_⟩::_) _ _); refine zF rfl 70 (.tmp 8) (.tmp 153) rfl (w.heap.size+1+1+1) yF rfl rfl 70 yF o8 D6 rfl (by simp[yF,Value.oneCell']) (fun wz rz=> ?_)) | go_values | go_skip | go_guarded | go_step | go_upon)
   obtain⟨ax,gn,cn⟩:=iJ.out;have B8:Below w.heap.size w wz:=rz.below (zt gn (Eo _) I) D5;have jd:wz.heap[D]? = some (.deferred (some [])):=(rz.only.2 D D5).trans ((I.block D (Array.getElem?_eq_some_iff.1 cn).1).trans cn);have gZ:∀r,some D=some r->∃o:Obj,wz.heap[r]? = some o/\o.isCells=false:=fun r e=>by cases e; exact⟨_,jd,rfl⟩
   have R8:=yi rz.bz (grownBy_putObj' wz D (.deferred none)) gZ;have BX:=B8.grown (grownBy_putObj' wz D (.deferred none)) B8.size (fun k hk=>by cases hk; omega);rw[Exit.noGoto_ret];refine⟨by simp,.inl ⟨_,_,rfl,run_takeDeferred jd,?_⟩⟩;refine⟨_,zV rfl _ _ (w.heap.size+1+1+1) rfl (cs:=yF) R8 Tryz.underlying70 rfl D6,?_⟩;refine⟨_,by rw[HE.out]; rfl,?_,BX⟩;rw[HE.out];rfl
  .
   obtain⟨pb,CS,fl,mB,T,iU⟩:=ax;have HM:=E6 iU;obtain⟨cs,u2,t1,t2,t3,t4,t5,t6,t7,t8,gd,bs,bu,bf⟩:=iU;obtain⟨gF,gV,gD,ik,gN,gH,gE,i5,gT,ip,gC,i7,gO,gB,gI,gW,i6,gL,im,gG,gY,hE,gP,h9,gz,gM,gR,gX,gJ,gA,ig,gK,es⟩:=bs.eU;obtain⟨v2,v3,rfl⟩:=bu.ak;obtain⟨v4,mM⟩:∃n,(pX l m a b R y).length=n:=⟨_,rfl⟩;rw[mM]at gd;have iC:cs=#[Ez gF,Ex gV gD ik,Ez gN,Ex gH gE i5,Ez gT,Ex ip gC i7,Ez gO,Ex gB gI gW,Ez i6,Ex gL im gG,Ez gY,Ex hE gP h9,Ez gz,Ex gM gR gX,Ez gJ,Ex gA ig gK]:=by injection es
   have iO:CS=#[Ez gF,Ex gV gD ik,Ez gN,Ex gH gE i5,Ez gT,Ex ip gC i7,Ez gO,Ex gB gI gW,Ez i6,Ex gL im gG,Ez gY,Ex hE gP h9,Ez gz,Ex gM gR gX,Ez gJ,Ex gA ig gK,Ex v2 v4 v3,Ez t1,Ex t2 t3 t4,Ez t5,Ex t6 t7 t8]:=by rw[iC]at gd; injection gd
   rw[iO]at T HM;have yl:=Vw (XN i8)
   have mQ:1<=nm:=by
    obtain⟨i0,i1,i2,i3,-,-,-,-,z0,-,-,-,-⟩:=(MM.2 y.2 (by rw[<- kw]; exact yl.2)).2.ex;have:=HN.out.2;omega
   have iW:sz wq 20:=by rw[<- iG]; exact kX ss (xq hR.1 hR.2.1 hR.2.2.1 hR.2.2.2 (show (0:Int)<=(nm:Int) by omega) D5).1 (Rat.ne_of_gt (qg hR.1 hR.2.2.1 D5))
   have lN:sz (oX l m a b R wq s y) 122:=Vx (l:=l) (m:=m) (a:=a) (b:=b) (R:=R) y iW ss (show l.length<=6 by have:=HN.out.1; omega);have mL:=E6 fl;have fp:W.cell? ⟨Y.heap.size+1,0,none⟩=some (Ek (some ⟨pb,0,none⟩)):=ai.c fl 0 rfl;have ah:=ai.lt fl;have dy:=ai.lt T;have l7:=N.lt;have iD:=T.c 17 rfl;have iM:=T.c 18 rfl;have iL:=T.c 19 rfl;have iH:=T.c 20 rfl;have eV:=N.c 10 rfl;have eZ:=N.c 11 rfl;have eY:=N.c 12 rfl;have dN:=N.c 13 rfl;obtain⟨c,hc⟩:∃c,z8 (oX l m a b R wq s y) least=c:=⟨_,rfl⟩;have CP:∀w',zf W w'->Ed Ec 67 #[Ek (some ⟨gc,0,none⟩),Ej #[Ez t1,Ex t2 t3 t4,Ez t5,Ex t6 t7 t8],Ej #[Ez uc1,Ex uc2 uc3 uc4,Ez uc5,Ex uc6 uc7 uc8]] w' fun e w2=>e = Eh (Ey Ew c)/\zf w' w2:=fun w' st=>by rw[<- hc]; exact xL w' (Z.ae st) (bf.af (av.ae st)) (mI.af (av.ae st)) lN sl D5
   obtain⟨tc,fe⟩:∃d,decide (c<0)=d:=⟨_,rfl⟩;clear es iO gd bs bu iC bf iW lN
   go_upto_region 31 with fail
   refine aj.cC W W [] [4,9] [(4,fun x=>x = Ek (some ⟨pb,0,none⟩)),(9,fun x=>x = Ey Ew c)] [] [] [] (by simp only[aP]; exact⟨zh,zj,trivial⟩) (fun N0 ft M Q' H hQ=> ?_);refine aj.bH H 141 (fun _ _ _ _ h=>(h.b.cell (p:=⟨Y.heap.size+1,0,none⟩) ah).trans fp) ?_
   iterate 2 refine aj.RQ H _ ?_
   refine aj.bH H 144 (fun _ _ _ _ h=>(h.b.cell (p:=⟨Y.heap.size+1,0,none⟩) ah).trans fp) ?_;refine aj.aC rfl (YJ rfl rfl) (by rw[H]; rfl) (fun D v W' ky hj hf K hK=> ?_) ?_
   .
    go_step;exact hK.out _ _ (av.refl _) (hj.call ky.1 (by rfl) (Et _ _)) trivial rfl
   rintro _ rfl;refine aj.dB rfl ?_;refine aj.RQ H _ ?_;refine aj.bH H 147 (fun _ _ _ _ h=>E7 ((h.b.cell (p:=⟨pb,17,none⟩) dy).trans iD) (E7 ((h.b.cell (p:=⟨pb,18,none⟩) dy).trans iM) (E7 ((h.b.cell (p:=⟨pb,19,none⟩) dy).trans iL) ((h.b.cell (p:=⟨pb,20,none⟩) dy).trans iH)))) ?_;refine aj.RQ H _ ?_;refine aj.bH H 149 (fun _ _ _ _ h=>E7 ((h.b.cell (p:=⟨w.heap.size+1+1,10,none⟩) l7).trans eV) (E7 ((h.b.cell (p:=⟨w.heap.size+1+1,11,none⟩) l7).trans eZ) (E7 ((h.b.cell (p:=⟨w.heap.size+1+1,12,none⟩) l7).trans eY) ((h.b.cell (p:=⟨w.heap.size+1+1,13,none⟩) l7).trans dN)))) ?_;refine aj.sV H (fun D v W' hj _=>CP W' hj.b) ?_;refine aj.dB rfl ?_
   iterate 3 refine aj.RQ H _ ?_
   refine aj.sE (fun _ v' W7 I jk hl _ _ hf=> ?_);refine hQ _ _ ?_;clear hl hf hQ H Q' M jk ft ah dy iD iM iL iH eV eZ eY dN CP l7
   try rw[fe]
   have o8:=a8.ae I;have mC:=T.ae I;have n9:W7.cell? ⟨Y.heap.size+1,0,none⟩=some (Ek (some ⟨pb,0,none⟩)):=ai.c (ai.ae fl I) 0 rfl;clear fp fl T
   cases tc with
   | true=>
    have lj:oX l m a b R wq s y<least:=aU.1 (by rw[hc]; exact of_decide_eq_true fe);clear fe hc
    go_upto_region 32 with fail
    refine wp_region_lit ?_
    repeat' (first | ((with_reducible show wpList _ _ _ (⟨some 153,_,_,_,_,_⟩::_) _ _); refine yp rfl 70 #[] rfl yF D6 ?_) | ((with_reducible show wpList _ _ _ (⟨none,.store _ _ _,_,_,_,_⟩::_) _ _); refine zF rfl 70 (.tmp 8) (.tmp 153) rfl (w.heap.size+1+1+1) yF rfl rfl 70 yF o8 D6 rfl (by simp[yF,Value.oneCell']) (fun wz rz=> ?_)) | go_values | go_skip | go_guarded | go_step | go_upon)
    obtain⟨ax,gn,cn⟩:=iJ.out;have B8:Below w.heap.size w wz:=rz.below (zt gn (Eo _) I) D5;have jd:wz.heap[D]? = some (.deferred (some [])):=(rz.only.2 D D5).trans ((I.block D (Array.getElem?_eq_some_iff.1 cn).1).trans cn);have gZ:∀r,some D=some r->∃o:Obj,wz.heap[r]? = some o/\o.isCells=false:=fun r e=>by cases e; exact⟨_,jd,rfl⟩
    have R8:=yi rz.bz (grownBy_putObj' wz D (.deferred none)) gZ;have BX:=B8.grown (grownBy_putObj' wz D (.deferred none)) B8.size (fun k hk=>by cases hk; omega);rw[Exit.noGoto_ret];refine⟨by simp,.inl ⟨_,_,rfl,run_takeDeferred jd,?_⟩⟩;refine⟨_,zV rfl _ _ (w.heap.size+1+1+1) rfl (cs:=yF) R8 Tryz.underlying70 rfl D6,?_⟩;refine⟨_,by rw[HE.out,Ql lj]; rfl,?_,BX⟩;rw[HE.out,Ql lj];rfl
   | false=>
    have mn:¬oX l m a b R wq s y<least:=fun h=>of_decide_eq_false fe (by rw[<- hc]; exact aU.2 h);clear fe hc
    go_upto_region 33 with fail
    refine wp_region_lit ?_
    repeat' (first | ((with_reducible show wpList _ _ _ (⟨some 156,_,_,_,_,_⟩::_) _ _); refine zO rfl 70 (.tmp 155) rfl pb rfl 70 #[Ez gF,Ex gV gD ik,Ez gN,Ex gH gE i5,Ez gT,Ex ip gC i7,Ez gO,Ex gB gI gW,Ez i6,Ex gL im gG,Ez gY,Ex hE gP h9,Ez gz,Ex gM gR gX,Ez gJ,Ex gA ig gK,Ex v2 v4 v3,Ez t1,Ex t2 t3 t4,Ez t5,Ex t6 t7 t8] _ mC Tryz.underlying70 rfl D6 ?_) | ((with_reducible show wpList _ _ _ (⟨none,.store _ _ _,_,_,_,_⟩::_) _ _); refine zF rfl 70 (.tmp 8) (.tmp 156) rfl (w.heap.size+1+1+1) #[Ez gF,Ex gV gD ik,Ez gN,Ex gH gE i5,Ez gT,Ex ip gC i7,Ez gO,Ex gB gI gW,Ez i6,Ex gL im gG,Ez gY,Ex hE gP h9,Ez gz,Ex gM gR gX,Ez gJ,Ex gA ig gK,Ex v2 v4 v3,Ez t1,Ex t2 t3 t4,Ez t5,Ex t6 t7 t8] rfl rfl 70 yF o8 D6 rfl (by simp[yF,Value.oneCell']) (fun wz rz=> ?_)) | go_values | go_skip | go_guarded | go_step | go_upon)
    obtain⟨ax,gn,cn⟩:=iJ.out;have B8:Below w.heap.size w wz:=rz.below (zt gn (Eo _) I) D5;have jd:wz.heap[D]? = some (.deferred (some [])):=(rz.only.2 D D5).trans ((I.block D (Array.getElem?_eq_some_iff.1 cn).1).trans cn);have gZ:∀r,some D=some r->∃o:Obj,wz.heap[r]? = some o/\o.isCells=false:=fun r e=>by cases e; exact⟨_,jd,rfl⟩
    have R8:=yi rz.bz (grownBy_putObj' wz D (.deferred none)) gZ;have BX:=B8.grown (grownBy_putObj' wz D (.deferred none)) B8.size (fun k hk=>by cases hk; omega);rw[Exit.noGoto_ret];refine⟨by simp,.inl ⟨_,_,rfl,run_takeDeferred jd,?_⟩⟩;refine⟨_,zV rfl _ _ (w.heap.size+1+1+1) rfl (cs:=#[Ez gF,Ex gV gD ik,Ez gN,Ex gH gE i5,Ez gT,Ex ip gC i7,Ez gO,Ex gB gI gW,Ez i6,Ex gL im gG,Ez gY,Ex hE gP h9,Ez gz,Ex gM gR gX,Ez gJ,Ex gA ig gK,Ex v2 v4 v3,Ez t1,Ex t2 t3 t4,Ez t5,Ex t6 t7 t8]) R8 Tryz.underlying70 rfl D6,?_⟩;refine⟨_,by rw[HE.out,Qm mn]; rfl,?_,BX⟩;rw[HE.out,Qm mn,hA,J,iG];exact cO.kg ((HM.out.ae I).row rz rfl (by simp[yF])) (g:=Y.heap.size+1) ⟨_,rz.bG (mL.out.ae I) D5⟩ (KG.put jd rfl)
end Go.Proofs.YtffmbepfbienaaaGreat
