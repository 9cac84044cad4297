import Derived.Test.YtffmbepfbienaaaGreatOSea
set_option linter.unusedVariables false
set_option linter.unusedSimpArgs false
open Go.Value renaming slice->Ex,bool->Ez,int->Ey,agg->Ej,pointer->Ek,tuple->Ev
open Go.IntKind renaming i64->Ew
open Go.Ending renaming returned->Eh
open Go.Proofs.Tryz renaming prog->Ed
open Go renaming Calls->Ee,World->Ef,Value->Ei,undef->En
open Nat renaming le_refl->Ep
open Go.RowKit.Below renaming refl->Fz
namespace Go.Proofs.YtffmbepfbienaaaGreat
section
variable {cs:Array Ei} {A R a9:Int} {a b:List aU} {p:List Int} {g n r:Nat} {x:Nat×Nat} {t:Nat->Rat} {e:Option (Nat×Nat)} {l m:PL} {least o off s wq:Rat} {v vm:Ei} {W W7 w w':Ef}
def CW (least:Rat) (o:Nat×Nat->Rat):Option (Nat×Nat)->Int×Option (Nat×Nat)
 | none=>(6,none)
 | some x=>if o x<least then(6,none)else(0,some x)
theorem WQ {o:Nat×Nat->Rat} (h:o x<least):CW least o (some x)=(6,none):=E9 h
theorem WR {o:Nat×Nat->Rat} (h:¬o x<least):CW least o (some x)=(0,some x):=E_ h
theorem YR {most:Int} (E:zP l=0) (I:zP m=0) (h0:0<=most) (J:most<=12) (H:zF R A m.length<1) :
  qj true l m most R A off s least=CW least (oX l m (zO l most).2 (zO m most).2 R (yU s (zF R A m.length)) s) (jL (oX l m (zO l most).2 (zO m most).2 R (yU s (zF R A m.length)) s) (ZJ (zO l most).2 (zO m most).2 off)):=by
 unfold qj CW;rw[E_ D9,E_ (by rw[E]; simp),E_ (by rw[I]; simp),E_ (by rintro (h | h | h); omega; omega; exact h H)];generalize jL _ _=z
 cases z<;>rfl
open Go.RowKit Go.Shelf
theorem cK.ae (h:cK w v t p o) (s:zf w w'):cK w' v t p o:=by
 obtain⟨cs,u,N,X,M,E,d5,Z,H,I,e,T,J,Y⟩:=h;exact⟨cs,u,N,X,M,E,d5,Z,H,I,e,T.af (av.ae s),J.ae s,Y.af (av.ae s)⟩
theorem cK.kg (h:cK w v t p o) (E:dz w g) (s:KG g w w'):cK w' v t p o:=by
 obtain⟨cs,u,T,Y,N,H,d5,d6,I,J,e,X,M,Z⟩:=h;exact⟨cs,u,T,Y,N,H,d5,d6,I,J,e,X.af s.af,M.kg E s,Z.af s.af⟩
def cL (l m:PL) (a b:List aU) (a9:Int) (wq s:Rat) (g n:Nat) (W:Ef):Option (Nat×Nat)->Prop
 | none=>ai W g 123 #[Ek none]
 | some x=>∃p E,ai W g 123 #[Ek (some ⟨p,0,none⟩)]/\n<=p/\ai W p 70 E/\cK W (Ej E) (tX l m a b x) (pX l m a b a9 x) (oX l m a b a9 wq s x)
theorem cL.pp (h:cL l m a b a9 wq s g n W e):dz W g:=by
 cases e with
 | none=>exact⟨_,h⟩
 | some x=>obtain⟨p,H,E,-⟩:=h; exact⟨_,E⟩
theorem cL.ae {E:Ef} (h:cL l m a b a9 wq s g n W e) (st:zf W E):cL l m a b a9 wq s g n E e:=by
 cases e with
 | none=>exact ai.ae h st
 | some x=>obtain⟨p,H,M,I,N,J⟩:=h; exact⟨p,H,M.ae st,I,N.ae st,J.ae st⟩
theorem cL.put {k:Nat} {o H:Obj} (h:cL l m a b a9 wq s g n W e) (I:W.heap[k]? = some o) (hc:o.isCells=false):cL l m a b a9 wq s g n (W.putObj k H) e:=by
 have E:∀g t cs,ai W g t cs->ai (W.putObj k H) g t cs:=fun g t cs h=>z' h (grownBy_putObj' W _ H) (fun r e=>by cases e; exact⟨o,I,hc⟩);have J:=h.pp
 cases e with
 | none=>exact E _ _ _ h
 | some x=>obtain⟨p,M,X,N,Y,T⟩:=h; exact⟨p,M,E _ _ _ X,N,E _ _ _ Y,T.kg J (KG.put I hc)⟩
def fh (v:Ei):Prop:=∃N dk bi J cn cy cx M bl E bh ci Z cg ah H d9 T bf bg cZ cN ce I X be b9 Y dc dl br bt,v = Ej #[Ez N,Ex dk bi J,Ez cn,Ex cy cx M,Ez bl,Ex E bh ci,Ez Z,Ex cg ah H,Ez d9,Ex T bf bg,Ez cZ,Ex cN ce I,Ez X,Ex be b9 Y,Ez dc,Ex dl br bt]
theorem fh.mk:fh (Ej W_):=⟨_,_,_,_,_,_,_,_,_,_,_,_,_,_,_,_,_,_,_,_,_,_,_,_,_,_,_,_,_,_,_,_,rfl⟩
theorem bY.fk (h:bY w v t):fh v:=by
 obtain⟨N,dk,bi,J,cn,cy,cx,M,bl,E,bh,ci,Z,cg,ah,H,d9,T,bf,bg,cZ,cN,ce,I,X,be,b9,Y,dc,dl,br,bt,e,-⟩:=h;exact⟨N,dk,bi,J,cn,cy,cx,M,bl,E,bh,ci,Z,cg,ah,H,d9,T,bf,bg,cZ,cN,ce,I,X,be,b9,Y,dc,dl,br,bt,e⟩
theorem CY {N cn bl Z d9 cZ X dc:Bool} {dk cy E cg T cN be cx:Option Addr} {bi J dl M bh ci ah H bf bg ce I b9 Y br bt:Nat} (h:bY w (Ej #[Ez N,Ex dk bi J,Ez cn,Ex cy dl M,Ez bl,Ex E bh ci,Ez Z,Ex cg ah H,Ez d9,Ex T bf bg,Ez cZ,Ex cN ce I,Ez X,Ex be b9 Y,Ez dc,Ex cx br bt]) t):FR w (Ej #[Ez N,Ex dk bi J,Ez cn,Ex cy dl M]) (t 0)/\FR w (Ej #[Ez bl,Ex E bh ci,Ez Z,Ex cg ah H]) (t 1)/\FR w (Ej #[Ez d9,Ex T bf bg,Ez cZ,Ex cN ce I]) (t 2)/\FR w (Ej #[Ez X,Ex be b9 Y,Ez dc,Ex cx br bt]) (t 3):=by
 obtain⟨_,_,_,_,_,_,_,_,_,_,_,_,_,_,_,_,_,_,_,_,_,_,_,_,_,_,_,_,_,_,_,_,e,h⟩:=h;simp only[Value.agg.injEq,Array.mk.injEq,List.cons.injEq,Value.bool.injEq,Value.slice.injEq,and_true]at e;obtain⟨rfl,⟨rfl,rfl,rfl⟩,rfl,⟨rfl,rfl,rfl⟩,rfl,⟨rfl,rfl,rfl⟩,rfl,⟨rfl,rfl,rfl⟩,rfl,⟨rfl,rfl,rfl⟩,rfl,⟨rfl,rfl,rfl⟩,rfl,⟨rfl,rfl,rfl⟩,rfl,⟨rfl,rfl,rfl⟩⟩:=e;exact h
theorem Vt {c0 c1 Y Z c4 c5 c6 X c8 T N J I H E M d0 d1 d2 d3 d4:Ei} {j:Nat} (hj:j<16):(#[c0,c1,Y,Z,c4,c5,c6,X,c8,T,N,J,I,H,E,M]:Array Ei)[j]? = (#[c0,c1,Y,Z,c4,c5,c6,X,c8,T,N,J,I,H,E,M,d0,d1,d2,d3,d4]:Array Ei)[j]? :=by
 rcases(show j=0\/j=1\/j=2\/j=3\/j=4\/j=5\/j=6\/j=7\/j=8\/j=9\/j=10\/j=11\/j=12\/j=13\/j=14\/j=15 by omega)with rfl | rfl | rfl | rfl | rfl | rfl | rfl | rfl | rfl | rfl | rfl | rfl | rfl | rfl | rfl | rfl<;>rfl
def DT:List Ei->Array Ei:=fun l=>match l with | [Ej c]=>c++#[Ex none 0 0,Ez false,Ex none 0 0,Ez false,Ex none 0 0] | _=>#[]
theorem Wr.fO {a:Ef} (h:Wr r w w') (j:Below n a w) (E:n<=r:=by omega):Below n a w':=j.trans ⟨h.os,h.tape,h.output,Nat.le_of_eq h.only.1.symm,fun k H=>h.only.2 k D6⟩
theorem Wr.fS {t:TypeId} (h:Wr r w w') (E:ai w r t cs) (H:zV cs=true:=by exact rfl):av w w':=av.only E H h.only
theorem WT {t:TypeId} {E:Ef} (s:zf W W7) (h:Wr g W7 E) (J:ai W7 g t cs):KeepsOthers W E:=
 ⟨h.only.1▸s.size,fun k o H hc=>by
  have I:W7.heap[k]? = some o:=(s.block k (Array.getElem?_eq_some_iff.1 H).1).trans H
  by_cases e:k=g
  .
   subst e;have:W7.heap[k]? = _:=J;rw[I]at this
   cases this
   cases hc
  . exact(h.only.2 k e).trans I⟩
theorem WU (s:zf W W7):KeepsOthers W W7:=⟨s.size,fun k o E _=>(s.block k (Array.getElem?_eq_some_iff.1 E).1).trans E⟩
theorem Br {x y:Option Addr} (E:ai W7 g 123 #[Ek x]):KG g W7 (W7.setCell ⟨g,0,none⟩ (Ek y)):=
 have wr:Wr g W7 (W7.setCell ⟨g,0,none⟩ (Ek y)):=(Wr.refl g W7).set
 ⟨Nat.le_of_eq wr.only.1.symm,wr.fS E,fun k _ _ _ H _=>wr.only.2 k H,fun _=>⟨y,E.bH 0 _⟩⟩
theorem cK.row {ty:TypeId} {old:Array Ei} (h:cK w v t p o) (r:bz g ty old cs w w') (E:zV old=true) (hi:∀x∈old.toList,∀z,x≠ Ey Ew z):cK w' v t p o:=by
 obtain⟨cs,u,Z,Y,N,H,d5,d6,I,J,e,X,M,T⟩:=h;exact⟨cs,u,Z,Y,N,H,d5,d6,I,J,e,X.af (r.af E),M.only r.was hi r.only,T.af (r.af E)⟩
theorem Vu {F:Nat->List Nat} (E:∀i,∀t∈F i,t<n):∀i,∀x∈kv F i,x.1<i/\x.2<n
 | 0,x,h=>by cases h
 | i+1,x,h=>by
  rcases List.mem_append.1 h with h | h
  . have:=Vu E i x h; omega
  .
   obtain⟨k,H,rfl⟩:=List.mem_map.1 h;exact⟨Nat.lt_succ_self _,E i k H⟩
theorem Vv (h:x∈ZJ a b off):x.1<a.length/\x.2<b.length:=Vu (fun i t ht=>G6 _ _ _ _ t ht) _ x h
theorem WV {gc E:Nat} {vp:Ei} {rc:Array Ei} {u:Ei} {X Y:Bool} {M d6:Option Addr} {d3 N d7 T:Nat} {pre:List (Nat×Nat)}
  (sW:zf W W7) (a4:ai W7 w.heap.size 55 #[vp]) (a5:ai W7 (w.heap.size+1) 55 #[vm]) (a7:ai W7 (w.heap.size+1+1) 45 rc) (a8:ai W7 (w.heap.size+1+1+1) 70 xW) (ac:ai W7 gc 89 #[Ey Ew 0]) (hp:dz W7 g) (hB:Below w.heap.size w W7)
  (om:ai W7 E 70 (cs++#[u,Ez X,Ex M d3 N,Ez Y,Ex d6 d7 T])) (hS:bY W7 (Ej cs) (tX l m a b x)) (hu:aF W7 u (pX l m a b R x)) (hF:FR W7 (Ej #[Ez X,Ex M d3 N,Ez Y,Ex d6 d7 T]) (oX l m a b R wq s x))
  (hb:kC (oX l m a b R wq s) (jL (oX l m a b R wq s) pre) x=some x) (h4:w.heap.size+4<=g) (Z:gc≠g) (hn:n<=E) (J:E≠g) :
  KeepsOthers W (W7.setCell ⟨g,0,none⟩ (Ek (some ⟨E,0,none⟩)))/\KG g W (W7.setCell ⟨g,0,none⟩ (Ek (some ⟨E,0,none⟩)))/\
  (ai (W7.setCell ⟨g,0,none⟩ (Ek (some ⟨E,0,none⟩))) w.heap.size 55 #[vp]/\ai (W7.setCell ⟨g,0,none⟩ (Ek (some ⟨E,0,none⟩))) (w.heap.size+1) 55 #[vm]/\ai (W7.setCell ⟨g,0,none⟩ (Ek (some ⟨E,0,none⟩))) (w.heap.size+1+1) 45 rc/\ai (W7.setCell ⟨g,0,none⟩ (Ek (some ⟨E,0,none⟩))) (w.heap.size+1+1+1) 70 xW/\ai (W7.setCell ⟨g,0,none⟩ (Ek (some ⟨E,0,none⟩))) gc 89 #[Ey Ew 0]/\
   cL l m a b R wq s g n (W7.setCell ⟨g,0,none⟩ (Ek (some ⟨E,0,none⟩))) (jL (oX l m a b R wq s) (pre ++ [x]))/\Below w.heap.size w (W7.setCell ⟨g,0,none⟩ (Ek (some ⟨E,0,none⟩)))):=by
 obtain⟨x0,I⟩:=hp;have H:=Br (y:=some ⟨E,0,none⟩) I;have wr:Wr g W7 (W7.setCell ⟨g,0,none⟩ (Ek (some ⟨E,0,none⟩))):=(Wr.refl g W7).set;have o8:ai (W7.setCell ⟨g,0,none⟩ (Ek (some ⟨E,0,none⟩))) g 123 #[Ek (some ⟨E,0,none⟩)]:=I.bH 0 _;refine⟨WT sW wr I,(KG.ae sW).trans H,wr.f a4,wr.f a5,wr.f a7,wr.f a8,wr.f ac Z,?_,wr.fO hB⟩;rw[YQ,hb];exact⟨E,_,o8,hn,wr.f om J,cs,u,X,M,d3,N,Y,d6,d7,T,rfl,hS.af H.af,hu.kg ⟨x0,I⟩ H,hF.af H.af⟩
theorem WW (x:Nat×Nat) (hw:sz wq 20) (E:sz s 2) (H:l.length<=6):sz (oX l m a b R wq s x) 122:=
 (YN hw (E.mono D6) _ _ _).mono D6
set_option maxHeartbeats 6400000 in
set_option maxRecDepth 1000000 in
theorem Kr {ua1 ua5 ub1 ub5 uc1 uc5:Bool} {ua2 ua6 ub2 ub6 uc2 uc6:Option Addr} {ua3 ua4 ua7 ua8 ub3 ub4 ub7 ub8 uc3 uc4 uc7 uc8:Nat} {O:Nat->Option Rat} {vl:Ei} (most:Int) (w:Ef) (b0:FB w (Ej #[Ez ua1,Ex ua2 ua3 ua4,Ez ua5,Ex ua6 ua7 ua8]) (O 0)) (b1:FB w (Ej #[Ez ub1,Ex ub2 ub3 ub4,Ez ub5,Ex ub6 ub7 ub8]) (O 1)) (b2:FB w (Ej #[Ez uc1,Ex uc2 uc3 uc4,Ez uc5,Ex uc6 uc7 uc8]) (O 2)) (fw:kM O (yh ua3 ub3 uc3 uc3) (yh ua7 ub7 uc7 uc7) 3) (hl:bT w vl l) (hm:bT w vm m) (zl:l.length<=6) (zm:m.length<=6)
  (e0:O 0=some off) (e1:O 1=some s) (e2:O 2=some least) (hK:yu O (yh ua3 ub3 uc3 uc3) (yh ua7 ub7 uc7 uc7) R A ua1=true) (c1:zP l=0) (c2:zP m=0) (h0:0<=most) (h1:most<=12) (hq:zF R A m.length<1) :
  Ee Ed 31 #[vl,vm,Ey Ew most,Ej #[Ez ua1,Ex ua2 ua3 ua4,Ez ua5,Ex ua6 ua7 ua8,Ey Ew R,Ey Ew A,Ez ub1,Ex ub2 ub3 ub4,Ez ub5,Ex ub6 ub7 ub8,Ez uc1,Ex uc2 uc3 uc4,Ez uc5,Ex uc6 uc7 uc8]] w fun e w'=>∃v,e = Eh (Ev #[v,Ey Ew (qj true l m most R A off s least).1])/\CV w' v l m (zO l most).2 (zO m most).2 R (yU s (zF R A m.length)) s (qj true l m most R A off s least).2/\zf w w':=by
 have hR:=(zT.1 hK).2.1
 have CK:∀w',av w w'->Ee Ed 26 #[Ej #[Ez ua1,Ex ua2 ua3 ua4,Ez ua5,Ex ua6 ua7 ua8,Ey Ew R,Ey Ew A,Ez ub1,Ex ub2 ub3 ub4,Ez ub5,Ex ub6 ub7 ub8,Ez uc1,Ex uc2 uc3 uc4,Ez uc5,Ex uc6 uc7 uc8]] w' fun e w2=>e = Eh (Ey Ew 0)/\zf w' w2:=fun w' k=>by
  have:=Kc (R:=R) (A:=A) w' (b0.af k) (b1.af k) (b2.af k) fw
  rwa[hK]at this
 have QL:∀w',zf w w'->Ee Ed 37 #[vl] w' fun e w2=>e = Eh (Ey Ew 0)/\zf w' w2:=fun w' s=>by have:=qX w' (hl.ae s) D6; rwa[c1]at this
 have QM:∀w',zf w w'->Ee Ed 37 #[vm] w' fun e w2=>e = Eh (Ey Ew 0)/\zf w' w2:=fun w' s=>by have:=qX w' (hm.ae s) D6; rwa[c2]at this
 have AL:∀w',zf w w'->Ee Ed 71 #[vl,Ey Ew most] w' fun e w2=>∃u,e = Eh (Ev #[u,Ey Ew 0])/\dJ w2 u (zO l most).2/\zf w' w2:=fun w' s=>by have:=GA most w' (hl.ae s) D6 (fun _ _=>by omega); unfold cG at this; rwa[Z_ c1 h0 h1]at this
 have AM:∀w',zf w w'->Ee Ed 71 #[vm,Ey Ew most] w' fun e w2=>∃u,e = Eh (Ev #[u,Ey Ew 0])/\dJ w2 u (zO m most).2/\zf w' w2:=fun w' s=>by have:=GA most w' (hm.ae s) D6 (fun _ _=>by omega); unfold cG at this; rwa[Z_ c2 h0 h1]at this
 have CH:∀w' g,ai w' g 89 #[Ey Ew 0]->Ee Ed 50 #[Ek (some ⟨g,0,none⟩),Ej #[Ez ua1,Ex ua2 ua3 ua4,Ez ua5,Ex ua6 ua7 ua8,Ey Ew R,Ey Ew A,Ez ub1,Ex ub2 ub3 ub4,Ez ub5,Ex ub6 ub7 ub8,Ez uc1,Ex uc2 uc3 uc4,Ez uc5,Ex uc6 uc7 uc8],Ey Ew m.length] w' fun e w2=>∃v,e = Eh (Ev #[v,Ez true])/\FR w2 v (zF R A m.length)/\zf w' w2:=fun w' g hb=>by
  have:=ZZ (ua1:=ua1) (ua2:=ua2) (ua3:=ua3) (ua4:=ua4) (ua5:=ua5) (ua6:=ua6) (ua7:=ua7) (ua8:=ua8) (ub1:=ub1) (ub2:=ub2) (ub3:=ub3) (ub4:=ub4) (ub5:=ub5) (ub6:=ub6) (ub7:=ub7) (ub8:=ub8) (uc1:=uc1) (uc2:=uc2) (uc3:=uc3) (uc4:=uc4) (uc5:=uc5) (uc6:=uc6) (uc7:=uc7) (uc8:=uc8) R A m.length w' hb hR.1 hR.2.1 hR.2.2.1 hR.2.2.2 D6 D6
  rwa[E' hq]at this
 have mr:0<=off:=by
  have h3:=(zT.1 hK).2.2.1;have h4:=b0.neg;rw[e0,h3]at h4;obtain⟨q,e,mG⟩:=QT (o:=some off) h4
  cases e; exact mG
 have lQ:sz off 2:=by obtain⟨r,e,h⟩:=yZ (zT.1 hK).1 fw 0 D6; rw[e0]at e; cases e; exact h
 have ss:sz s 2:=by obtain⟨r,e,h⟩:=yZ (zT.1 hK).1 fw 1 D6; rw[e1]at e; cases e; exact h
 have sl:sz least 2:=by obtain⟨r,e,h⟩:=yZ (zT.1 hK).1 fw 2 D6; rw[e2]at e; cases e; exact h
 have ML:=GI zl c1 h0 h1;have MM:=GI zm c2 h0 h1;have Y:=E7 (E8 hl (E8 hm (E8 b0 (E8 b1 (E8 b2 fw)))));obtain⟨al,cl,rfl⟩:=hl.ak;obtain⟨am,cm,rfl⟩:=hm.ak;have dy:=E7 (E8 c1 c2);obtain⟨nl,jb⟩:∃n,l.length=n:=⟨_,rfl⟩;obtain⟨nm,iQ⟩:∃n,m.length=n:=⟨_,rfl⟩;have HN:=E7 (E8 jb iQ);rw[jb]at QL AL Y zl|-;rw[iQ]at QM AM CH Y zm|-;have iZ:=E7 (YR (R:=R) (A:=A) (off:=off) (s:=s) (least:=least) c1 c2 h0 h1 hq);rw[iQ]at iZ;clear hl hm b0 b1 b2 fw jb iQ hK hq c1 c2 h0 h1;refine(callsIn_wide (n:=3)).1 (callsIn_of_wp_marks Tryz.func31 rfl trivial ((wpIn_wide (n:=3)).2 ?_) rfl);simp only[Tryz.ntmps31,List.size_toArray,List.length_cons,List.length_nil,Nat.reduceAdd,Nat.reduceSub,Array.replicate_succ,Array.replicate_zero,List.push_toArray,List.append_toArray,List.nil_append,List.cons_append];go_wp2_with fail
 go_step3
 go_upto_region 1 with fail
 refine wp_region_lit ?_
 repeat' (first | ((with_reducible show wpList _ _ _ (⟨some 23,_,_,_,_,_⟩::_) _ _); refine yg rfl 45 (.tmp 7) rfl (w.heap.size+1+1) rfl 45 #[Ez ua1,Ex ua2 ua3 ua4,Ez ua5,Ex ua6 ua7 ua8,Ey Ew R,Ey Ew A,Ez ub1,Ex ub2 ub3 ub4,Ez ub5,Ex ub6 ub7 ub8,Ez uc1,Ex uc2 uc3 uc4,Ez uc5,Ex uc6 uc7 uc8] _ zC Tryz.underlying45 rfl D7 ?_) | go_values | go_skip | go_guarded | go_step | go_upon)
 refine(CK _ zw).mono ?_;rintro e w1 ⟨rfl,iu⟩;have B:Below w.heap.size w w1:=yI iu;have o4:ai w1 w.heap.size 55 #[Ex al nl cl]:=ai.au iu;have o5:ai w1 (w.heap.size+1) 55 #[Ex am nm cm]:=ai.au iu;have o7:ai w1 (w.heap.size+1+1) 45 #[Ez ua1,Ex ua2 ua3 ua4,Ez ua5,Ex ua6 ua7 ua8,Ey Ew R,Ey Ew A,Ez ub1,Ex ub2 ub3 ub4,Ez ub5,Ex ub6 ub7 ub8,Ez uc1,Ex uc2 uc3 uc4,Ez uc5,Ex uc6 uc7 uc8]:=ai.au iu;have o8:ai w1 (w.heap.size+1+1+1) 70 xW:=ai.au iu;clear iu;clear CK;dsimp only;have c4:=o4.c 0 rfl
 repeat' (first | go_values | go_skip | go_guarded | go_step | go_upon)
 refine(QL _ B).mono ?_;rintro e w2 ⟨rfl,iy⟩;clear c4;replace B:Below w.heap.size w w2:=yI iy;replace o4:ai w2 w.heap.size 55 #[Ex al nl cl]:=ai.au iy;replace o5:ai w2 (w.heap.size+1) 55 #[Ex am nm cm]:=ai.au iy;replace o7:ai w2 (w.heap.size+1+1) 45 #[Ez ua1,Ex ua2 ua3 ua4,Ez ua5,Ex ua6 ua7 ua8,Ey Ew R,Ey Ew A,Ez ub1,Ex ub2 ub3 ub4,Ez ub5,Ex ub6 ub7 ub8,Ez uc1,Ex uc2 uc3 uc4,Ez uc5,Ex uc6 uc7 uc8]:=ai.au iy;replace o8:ai w2 (w.heap.size+1+1+1) 70 xW:=ai.au iy;clear iy;clear QL;dsimp only;have c5:=o5.c 0 rfl
 repeat' (first | go_values | go_skip | go_guarded | go_step | go_upon)
 refine(QM _ B).mono ?_;rintro e w3 ⟨rfl,iv⟩;clear c5;replace B:Below w.heap.size w w3:=yI iv;replace o4:ai w3 w.heap.size 55 #[Ex al nl cl]:=ai.au iv;replace o5:ai w3 (w.heap.size+1) 55 #[Ex am nm cm]:=ai.au iv;replace o7:ai w3 (w.heap.size+1+1) 45 #[Ez ua1,Ex ua2 ua3 ua4,Ez ua5,Ex ua6 ua7 ua8,Ey Ew R,Ey Ew A,Ez ub1,Ex ub2 ub3 ub4,Ez ub5,Ex ub6 ub7 ub8,Ez uc1,Ex uc2 uc3 uc4,Ez uc5,Ex uc6 uc7 uc8]:=ai.au iv;replace o8:ai w3 (w.heap.size+1+1+1) 70 xW:=ai.au iv;clear iv;clear QM;dsimp only;have c4:=o4.c 0 rfl
 repeat' (first | go_values | go_skip | go_guarded | go_step | go_upon)
 refine(AL _ B).mono ?_;rintro e w4 ⟨u1,rfl,ko,it⟩;obtain⟨aa,ca,rfl⟩:=ko.ak;clear c4;replace B:Below w.heap.size w w4:=yI it;replace o4:ai w4 w.heap.size 55 #[Ex al nl cl]:=ai.au it;replace o5:ai w4 (w.heap.size+1) 55 #[Ex am nm cm]:=ai.au it;replace o7:ai w4 (w.heap.size+1+1) 45 #[Ez ua1,Ex ua2 ua3 ua4,Ez ua5,Ex ua6 ua7 ua8,Ey Ew R,Ey Ew A,Ez ub1,Ex ub2 ub3 ub4,Ez ub5,Ex ub6 ub7 ub8,Ez uc1,Ex uc2 uc3 uc4,Ez uc5,Ex uc6 uc7 uc8]:=ai.au it;replace o8:ai w4 (w.heap.size+1+1+1) 70 xW:=ai.au it;clear it;clear AL;dsimp only;have c5:=o5.c 0 rfl
 repeat' (first | go_values | go_skip | go_guarded | go_step | go_upon)
 refine(AM _ B).mono ?_;rintro e w5 ⟨u2,rfl,ks,ij⟩;obtain⟨ab,cb,rfl⟩:=ks.ak;have lC:=ko.ae ij;clear c5 ko;replace B:Below w.heap.size w w5:=yI ij;replace o4:ai w5 w.heap.size 55 #[Ex al nl cl]:=ai.au ij;replace o5:ai w5 (w.heap.size+1) 55 #[Ex am nm cm]:=ai.au ij;replace o7:ai w5 (w.heap.size+1+1) 45 #[Ez ua1,Ex ua2 ua3 ua4,Ez ua5,Ex ua6 ua7 ua8,Ey Ew R,Ey Ew A,Ez ub1,Ex ub2 ub3 ub4,Ez ub5,Ex ub6 ub7 ub8,Ez uc1,Ex uc2 uc3 uc4,Ez uc5,Ex uc6 uc7 uc8]:=ai.au ij;replace o8:ai w5 (w.heap.size+1+1+1) 70 xW:=ai.au ij;clear ij;clear AM;dsimp only;have c5:=o5.c 0 rfl;have l5:=o5.lt
 repeat' (first | ((with_reducible show wpList _ _ _ (⟨some 62,_,_,_,_,_⟩::_) _ _); refine yg rfl 45 (.tmp 7) rfl (w.heap.size+1+1) rfl 45 #[Ez ua1,Ex ua2 ua3 ua4,Ez ua5,Ex ua6 ua7 ua8,Ey Ew R,Ey Ew A,Ez ub1,Ex ub2 ub3 ub4,Ez ub5,Ex ub6 ub7 ub8,Ez uc1,Ex uc2 uc3 uc4,Ez uc5,Ex uc6 uc7 uc8] _ zC Tryz.underlying45 rfl D7 ?_) | go_values | go_skip | go_guarded | go_step | go_upon)
 refine(CH _ w5.heap.size (ai.new _ _ _)).mono ?_;rintro e Z ⟨v6,rfl,ma,k6⟩;obtain⟨q1,q2,q3,q4,q5,q6,q7,q8,rfl⟩:=ma.ak;have gM:zf w5 Z:=((Fz w5.heap.size w5).alloc (Ep _) _).trans (k6.mono E6);have oc:ai Z w5.heap.size 89 #[Ey Ew 0]:=ai.ae (ai.new _ _ _) k6;have lE:=lC.ae gM;have lW:=ks.ae gM;replace o4:=o4.ae gM;replace o5:=o5.ae gM;replace o7:=o7.ae gM;replace o8:=o8.ae gM;replace B:=bS B gM;clear CH c5 l5 ma k6 lC ks;generalize w5.heap.size=gc at *;clear gM;have mN:=oc.lt;have mP:=o8.lt;dsimp only
 repeat' (first | go_values | go_skip | go_guarded | go_step | go_upon)
 have gk:zf Z ((Z.alloc (.cells #[Ez q1,Ex q2 q3 q4,Ez q5,Ex q6 q7 q8] 28)).alloc (.cells #[Ek none] 123)):=((Fz _ _).alloc (Ep _) _).alloc E6 _;have ob:ai ((Z.alloc (.cells #[Ez q1,Ex q2 q3 q4,Ez q5,Ex q6 q7 q8] 28)).alloc (.cells #[Ek none] 123)) (Z.heap.size+1) 123 #[Ek none]:=ai.bK D9;have lb:((Z.alloc (.cells #[Ez q1,Ex q2 q3 q4,Ez q5,Ex q6 q7 q8] 28)).alloc (.cells #[Ek none] 123)).heap.size=Z.heap.size+2:=by simp
 generalize (Z.alloc (.cells #[Ez q1,Ex q2 q3 q4,Ez q5,Ex q6 q7 q8] 28)).alloc (.cells #[Ek none] 123)=w8 at *;have lI:=lE.ae gk;have lf:=lW.ae gk;replace o4:=o4.ae gk;replace o5:=o5.ae gk;replace o7:=o7.ae gk;replace o8:=o8.ae gk;replace oc:=oc.ae gk;replace B:=bS B gk;clear gk lE lW;have d0:=o7.c 0 rfl;have d1:=o7.c 1 rfl;have d2:=o7.c 2 rfl;have d3:=o7.c 3 rfl
 go_step3
 repeat' (first | go_values | go_skip | go_guarded | go_step | go_upon)
 refine((callsIn_wide (n:=3)).1 (WG Fence.wide 3 trivial rfl aa ab _ ca _ cb ua1 ua5 ua2 ua6 ua3 ua4 ua7 ua8 _)).mono ?_;rintro e w7 ⟨rfl,fl⟩;dsimp only
 repeat' (first | go_values | go_skip | go_guarded | go_step | go_upon)
 have bi:zf w8 w7:=by subst fl; exact((((Fz _ _).alloc (Ep _) _).alloc E6 _).alloc (by rw[World.size_alloc,World.size_alloc]; omega) _)
 have z7:w7.heap.size=w8.heap.size+3:=by subst fl; simp
 obtain⟨CA,qa,fA⟩:=(lI.ae bi).fI;obtain⟨CB,qb,fB⟩:=(lf.ae bi).fI;obtain⟨a,hA⟩:∃a,(zO l most).2=a:=⟨_,rfl⟩;obtain⟨b,J⟩:∃b,(zO m most).2=b:=⟨_,rfl⟩;rw[hA]at qa fA fl ML|-;rw[J]at qb fB fl MM|-;obtain⟨na,l8⟩:∃n,a.length=n:=⟨_,rfl⟩;obtain⟨nb,iW⟩:∃n,b.length=n:=⟨_,rfl⟩;rw[l8]at qa fA fl ML|-;rw[iW]at qb fB fl MM|-;have n0:ai w7 w8.heap.size 76 #[Ex aa na ca]:=by subst fl; exact((ai.new _ _ _).alloc _).alloc _
 have n1:ai w7 (w8.heap.size+1) 76 #[Ex ab nb cb]:=by subst fl; exact(ai.bK D9).alloc _
 have n2:ai w7 (w8.heap.size+1+1) 28 #[Ez ua1,Ex ua2 ua3 ua4,Ez ua5,Ex ua6 ua7 ua8]:=by subst fl; exact ai.bK D9
 have b7:Below w.heap.size w w7:=bS B bi;have NB:cI w8.heap.size (w8.heap.size+1) (w8.heap.size+1+1) (Z.heap.size+1) na nb aa ab ca cb CA CB (fun t j=>some (rA (a.getD t zH) j)) (fun t j=>some (rA (b.getD t zH) j)) #[Ez ua1,Ex ua2 ua3 ua4,Ez ua5,Ex ua6 ua7 ua8] (some off) w7:=⟨n0,n1,n2,qa,qb,by have:=Y.out.2.2.1.af (av.ae b7); rwa[e0]at this,⟨none,ob.ae bi⟩⟩;replace o4:=o4.ae bi;replace o5:=o5.ae bi;replace o7:=o7.ae bi;replace o8:=o8.ae bi;replace oc:=oc.ae bi;replace ob:=ob.ae bi;obtain⟨wq,iE⟩:∃x,yU s (zF R A nm)=x:=⟨_,rfl⟩;have lc:=oc.lt;have mM:=B.size;clear fl bi n0 n1 n2 lI lf B d0 d1 d2 d3;obtain⟨FV,m8⟩:∃v,Value.func (.func 109) #[] #[Ek (some ⟨w8.heap.size,0,none⟩),Ek (some ⟨w8.heap.size+1,0,none⟩),Ek (some ⟨w8.heap.size+1+1,0,none⟩)]=v:=⟨_,rfl⟩;rw[m8];have mA:w8.heap.size≠Z.heap.size+1:=D6
 refine(wpIn_wide (n:=3)).1 ?_
 refine Kl (n:=3) rfl (show 1<=3 by omega) (gf:=109) (lb:=#[Ek (some ⟨w8.heap.size,0,none⟩),Ek (some ⟨w8.heap.size+1,0,none⟩),Ek (some ⟨w8.heap.size+1+1,0,none⟩)]) m8.symm trivial (enters_of Tryz.func109 D7 rfl)
  (encs:=Vr CA CB) (Kp:=KG (Z.heap.size+1)) (S:=fun xs=>xs=ZJ a b off) (El:=fun _ x=>x.1<na/\x.2<nb) (Pr:=cI w8.heap.size (w8.heap.size+1) (w8.heap.size+1+1) (Z.heap.size+1) na nb aa ab ca cb CA CB (fun t j=>some (rA (a.getD t zH) j)) (fun t j=>some (rA (b.getD t zH) j)) #[Ez ua1,Ex ua2 ua3 ua4,Ez ua5,Ex ua6 ua7 ua8] (some off))
  ?seq (fun o o'=>NB.ae (((Fz _ _).alloc (Ep _) _).alloc E6 _)) (fun _=>rfl) KG.trans (fun A o o' ho hc=>KG.put ho hc)
  (fun xs W=>ai W w.heap.size 55 #[Ex al nl cl]/\ai W (w.heap.size+1) 55 #[Ex am nm cm]/\ai W (w.heap.size+1+1) 45 #[Ez ua1,Ex ua2 ua3 ua4,Ez ua5,Ex ua6 ua7 ua8,Ey Ew R,Ey Ew A,Ez ub1,Ex ub2 ub3 ub4,Ez ub5,Ex ub6 ub7 ub8,Ez uc1,Ex uc2 uc3 uc4,Ez uc5,Ex uc6 uc7 uc8]/\ai W (w.heap.size+1+1+1) 70 xW/\ai W gc 89 #[Ey Ew 0]/\cL l m a b R wq s (Z.heap.size+1) w7.heap.size W (jL (oX l m a b R wq s) xs)/\Below w.heap.size w W)
  ?al ?io ?h0
  (fun x a' W=>∃p q:Nat,a' = { tmps:=#[Value.slice al nl cl,Value.slice am nm cm,Value.int Ew most,Ej #[Ez ua1,Ex ua2 ua3 ua4,Ez ua5,Ex ua6 ua7 ua8,Ey Ew R,Ey Ew A,Ez ub1,Ex ub2 ub3 ub4,Ez ub5,Ex ub6 ub7 ub8,Ez uc1,Ex uc2 uc3 uc4,Ez uc5,Ex uc6 uc7 uc8],Value.pointer (some ⟨w.heap.size,0,none⟩),Value.pointer (some ⟨w.heap.size+1,0,none⟩),En,Value.pointer (some ⟨w.heap.size+1+1,0,none⟩),Value.pointer (some ⟨w.heap.size+1+1+1,0,none⟩),Value.int Ew 0,Value.int Ew 0,Value.int Ew 0,Value.int Ew 0,Value.slice aa na ca,Value.int Ew 0,Value.slice ab nb cb,Value.pointer (some ⟨gc,0,none⟩),Value.pointer (some ⟨Z.heap.size,0,none⟩),Value.bool true,Value.pointer (some ⟨Z.heap.size+1,0,none⟩),Value.pointer (some ⟨p,0,none⟩),Value.pointer (some ⟨q,0,none⟩),En,Ej #[Ez ua1,Ex ua2 ua3 ua4,Ez ua5,Ex ua6 ua7 ua8,Ey Ew R,Ey Ew A,Ez ub1,Ex ub2 ub3 ub4,Ez ub5,Ex ub6 ub7 ub8,Ez uc1,Ex uc2 uc3 uc4,Ez uc5,Ex uc6 uc7 uc8],Value.int Ew 0,Value.int Ew 0,Value.bool false,En,En,Value.slice al nl cl,Value.int Ew 0,Value.int Ew 0,Value.bool false,En,En,Value.slice am nm cm,Value.int Ew 0,Value.int Ew 0,Value.bool false,En,En,Ev #[Value.slice aa na ca,Value.int Ew 0],Value.slice al nl cl,Value.int Ew most,Ev #[Value.slice aa na ca,Value.int Ew 0],Value.slice aa na ca,Value.int Ew 0,Value.int Ew 0,Value.bool false,En,En,Ev #[Value.slice ab nb cb,Value.int Ew 0],Value.slice am nm cm,Value.int Ew most,Ev #[Value.slice ab nb cb,Value.int Ew 0],Value.slice ab nb cb,Value.int Ew 0,Value.int Ew 0,Value.bool false,En,En,Ev #[Ej #[Ez q1,Ex q2 q3 q4,Ez q5,Ex q6 q7 q8],Value.bool true],Ej #[Ez ua1,Ex ua2 ua3 ua4,Ez ua5,Ex ua6 ua7 ua8,Ey Ew R,Ey Ew A,Ez ub1,Ex ub2 ub3 ub4,Ez ub5,Ex ub6 ub7 ub8,Ez uc1,Ex uc2 uc3 uc4,Ez uc5,Ex uc6 uc7 uc8],Value.slice am nm cm,Value.int Ew (nm:Nat),Ev #[Ej #[Ez q1,Ex q2 q3 q4,Ez q5,Ex q6 q7 q8],Value.bool true],Ej #[Ez q1,Ex q2 q3 q4,Ez q5,Ex q6 q7 q8],Value.bool true,Value.bool true,Value.bool false,En,Value.slice aa na ca,Value.slice ab nb cb,Value.pointer (some ⟨w.heap.size+1+1,0,none⟩),Ej #[Ez ua1,Ex ua2 ua3 ua4,Ez ua5,Ex ua6 ua7 ua8],FV,Ej (CA x.1),Ej (CB x.2),En,En,En,En,En,En,En,En,En,En,En,En,En,En,En,En,En,En,En,En,En,En,En,En,En,En,En,En,En,En,En,En,En,En,En,En,En,En,En,En,En,En,En,En,En,En,En,En,En,En,En,En,En,En,En,En,En,En,En,En,En,En,En,En,En,En,En,En,En,En,En,En,En,En,En,En,En,En,En],defers:= [] }/\ai W p 83 (CA x.1)/\ai W q 83 (CB x.2))
  ?ao ?assign ?body ?done
 case seq=>
  have z2:sz off 500:=lQ.mono D6;have hS:ZJ a b off=kv (fun i=>fN (fun t j=>some (rA (b.getD t zH) j)) (fun j=>some (rA (a.getD i zH) j)) off nb) na:=by unfold ZJ; rw[l8,iW]
  rw[hS]
  exact Km 2 w8.heap.size (w8.heap.size+1) (w8.heap.size+1+1) (Z.heap.size+1) na nb aa ab ca cb CA CB (fun t j=>some (rA (a.getD t zH) j)) (fun t j=>some (rA (b.getD t zH) j)) ua1 ua5 ua2 ua6 ua3 ua4 ua7 ua8 (some off) _ mA D6 D6 (by have:=MM.1; omega) (by have:=ML.1; omega)
   (fun i hi=>by rw[Kn (by have:=MM.1; omega) mr]; exact WF _ _ _ _) (fun i hi t ht=>G6 _ _ _ _ t ht) (fun i hi=>Nat.le_trans (Bo _ _ _ _) (by have:=MM.1; omega))
   (fun t ht i _=>((MM.2 t ht).1 i).mono D6) (fun t ht i _=>((ML.2 t ht).1 i).mono D6) z2
 case al=>
  rintro xs W W' ⟨a4,X,N,a8,ac,ab,J⟩ st;exact⟨a4.ae st,X.ae st,N.ae st,a8.ae st,ac.ae st,ab.ae st,zA J (Ep _) st⟩
 case io=>
  rintro xs W o o' ⟨a4,X,N,a8,ac,ab,J⟩ ho iO;have kp:∀g t cs,ai W g t cs->ai (W.putObj (w7.heap.size+1) o') g t cs:=fun g t cs h=>z' h (grownBy_putObj' W _ o') (fun r e=>by cases e; exact⟨o,ho,iO⟩);exact⟨kp _ _ _ a4,kp _ _ _ X,kp _ _ _ N,kp _ _ _ a8,kp _ _ _ ac,ab.put ho iO,J.grown (grownBy_putObj' W _ o') J.size (fun k hk=>by cases hk; omega)⟩
 case h0=>exact⟨o4,o5,o7,o8,oc,ob,b7⟩
 case ao=>
  rintro x a' W o o' ⟨p,q,e,h1,h2⟩ ho iO;have kp:∀g t cs,ai W g t cs->ai (W.putObj (w7.heap.size+1) o') g t cs:=fun g t cs h=>z' h (grownBy_putObj' W _ o') (fun r e=>by cases e; exact⟨o,ho,iO⟩);exact⟨p,q,e,kp _ _ _ h1,kp _ _ _ h2⟩
 case assign=>
  rintro pre x W K' ⟨a4,X,N,a8,ac,ax,J⟩ ⟨x1,x2⟩ mD iz;have HI:=E7 (E8 a4 (E8 X (E8 N (E8 a8 (E8 ac (E8 ax J))))));have iN:=NB.qa.1 x.1 x1;have iS:=NB.qb.1 x.2 x2;unfold Vr;dsimp only at iz|-;generalize CA x.1=C at iz iN|-;generalize CB x.2=D_ at iz iS|-;have HK:=E7 iz;have ic:(Tryz.prog.info? 83).map (·.size)=some C.size:=by rw[iN.1]; kernel_rfl
  have mz:(Tryz.prog.info? 83).map (·.size)=some D_.size:=by rw[iS.1]; kernel_rfl
  clear a4 X N a8 ac ax J iz NB Y
  gi_upto_region 22 with fail
  refine yD D7 ?_
  repeat' (first | ((with_reducible show wpList _ _ _ (⟨none,.store _ _ _,_,_,_,_⟩::_) _ _); refine zL rfl 83 (.tmp 20) (.tmp 76) rfl W.heap.size C rfl rfl 83 Zz zC ic iN.1.symm iN.2.1 (fun W1 r1=> ?_)) | go_values | go_skip | go_guarded | go_step | go_upon)
  have l6:zf W W1:=r1.below ((Fz W.heap.size W).alloc (Ep _) _) (Ep _);have mt:=r1.bI;clear r1;generalize W.heap.size=pp at *;dsimp only[y_,Act.put]
  gi_upto_region 23 with fail
  refine yD D7 ?_
  repeat' (first | ((with_reducible show wpList _ _ _ (⟨none,.store _ _ _,_,_,_,_⟩::_) _ _); refine zL rfl 83 (.tmp 21) (.tmp 77) rfl W1.heap.size D_ rfl rfl 83 Zz zC mz iS.1.symm iS.2.1 (fun W2 r2=> ?_)) | go_values | go_skip | go_guarded | go_step | go_upon)
  have mf:zf W1 W2:=r2.below ((Fz W1.heap.size W1).alloc (Ep _) _) (Ep _);have st:zf W W2:=Below.trans l6 (mf.mono l6.size);have mE:=r2.bI;obtain⟨a4,X,N,a8,ac,ax,J⟩:=HI.out;dsimp only[y_,Act.put];exact HK.out _ _ ⟨st.size,fun k o hk _=>(st.block k (Array.getElem?_eq_some_iff.1 hk).1).trans hk⟩ (KG.ae st) ⟨a4.ae st,X.ae st,N.ae st,a8.ae st,ac.ae st,ax.ae st,zA J (Ep _) st⟩ ⟨_,_,rfl,mt.ae mf,mE⟩
 case body=>
  rintro pre x a' W ⟨mx,lG⟩ ⟨a4,X,N,a8,ac,ax,J⟩ ⟨p,q,rfl,h1,h2⟩ ⟨x1,x2⟩ mD;clear lG mx;obtain⟨j0,j1,j2,j3,k0,k1,k2,k3,y0,y1,y2,y3,k8⟩:=(ML.2 x.1 x1).2.ex;obtain⟨i0,i1,i2,i3,m0,m1,m2,m3,z0,z1,z2,z3,lw⟩:=(MM.2 x.2 x2).2.ex;have kx:bT W (Ex al nl cl) l:=Y.out.1.ae J;have iX:bT W (Ex am nm cm) m:=Y.out.2.1.ae J
  have mH:∀i,i<4->sz (tX l m a b x i) 16:=fun i hi=>by
   have e:tX l m a b x=v_ (pt l j0) (pt l j1) (pt m i0) (pt m i1):=by unfold tX; rw[k0,k1,m0,m1]; rfl
   rw[e];exact Bq (y9 dy.out.1 j0 y0) (y9 dy.out.1 j1 y1) (y9 dy.out.2 i0 z0) (y9 dy.out.2 i1 z1) k8 i hi
  have SM:∀w',zf W w'->Ee Ed 38 #[Ek (some ⟨gc,0,none⟩),Ej #[Ey Ew (pt l j0).1,Ey Ew (pt l j0).2],Ej #[Ey Ew (pt l j1).1,Ey Ew (pt l j1).2],Ej #[Ey Ew (pt m i0).1,Ey Ew (pt m i0).2],Ej #[Ey Ew (pt m i1).1,Ey Ew (pt m i1).2]] w' fun e w2=>∃v,e = Eh v/\bY w2 v (tX l m a b x)/\zf w' w2:=fun w' s=>by
   have e:tX l m a b x=v_ (pt l j0) (pt l j1) (pt m i0) (pt m i1):=by unfold tX; rw[k0,k1,m0,m1]; rfl
   rw[e];exact Q8 w' (ac.ae s) (y9 dy.out.1 j0 y0) (y9 dy.out.1 j1 y1) (y9 dy.out.2 i0 z0) (y9 dy.out.2 i1 z1) k8
  obtain⟨b0,o0,rfl,iD,mb,m7⟩:=kx.at y0;obtain⟨n6,mO,e,l9,lJ,lh⟩:=kx.at y1;simp only[Option.some.injEq,Addr.mk.injEq,and_true]at e;obtain⟨rfl,rfl⟩:=e;obtain⟨b1,o1,rfl,iL,lX,m9⟩:=iX.at z0;obtain⟨mQ,n7,e,lY,lM,lP⟩:=iX.at z1;simp only[Option.some.injEq,Addr.mk.injEq,and_true]at e;obtain⟨rfl,rfl⟩:=e;have iY:(CA x.1)[0]? = some (Ey Ew (j0:Nat)):=by have:=(fA x.1 x1).2.2.1 0 D6; rwa[show kA (a.getD x.1 zH) 0=(j0:Int) from k0]at this
  have k7:(CA x.1)[1]? = some (Ey Ew (j1:Nat)):=by have:=(fA x.1 x1).2.2.1 1 D6; rwa[show kA (a.getD x.1 zH) 1=(j1:Int) from k1]at this
  have ky:(CB x.2)[0]? = some (Ey Ew (i0:Nat)):=by have:=(fB x.2 x2).2.2.1 0 D6; rwa[show kA (b.getD x.2 zH) 0=(i0:Int) from m0]at this
  have l3:(CB x.2)[1]? = some (Ey Ew (i1:Nat)):=by have:=(fB x.2 x2).2.2.1 1 D6; rwa[show kA (b.getD x.2 zH) 1=(i1:Int) from m1]at this
  have p0:W.cell? ⟨p,0,none⟩=some (Ey Ew (j0:Nat)):=h1.c 0 iY;have p1:W.cell? ⟨p,1,none⟩=some (Ey Ew (j1:Nat)):=h1.c 1 k7;have q0:W.cell? ⟨q,0,none⟩=some (Ey Ew (i0:Nat)):=h2.c 0 ky;have lK:W.cell? ⟨q,1,none⟩=some (Ey Ew (i1:Nat)):=h2.c 1 l3
  have ho:aF W (Ex (some ⟨p,0,none⟩) 4 4) [(j0:Int),j1,j2,j3]:=by
   have mJ:(CA x.1)[2]? = some (Ey Ew (j2:Nat)):=by have:=(fA x.1 x1).2.2.1 2 D6; rwa[show kA (a.getD x.1 zH) 2=(j2:Int) from k2]at this
   have mw:(CA x.1)[3]? = some (Ey Ew (j3:Nat)):=by have:=(fA x.1 x1).2.2.1 3 D6; rwa[show kA (a.getD x.1 zH) 3=(j3:Int) from k3]at this
   refine⟨_,4,rfl,Ep _,fun _=>⟨p,0,rfl,h1.lt,fun t ht=> ?_⟩⟩
   rcases(show t=0\/t=1\/t=2\/t=3 by simp at ht; omega)with rfl | rfl | rfl | rfl
   . exact h1.c 0 iY
   . exact h1.c 1 k7
   . exact h1.c 2 mJ
   . exact h1.c 3 mw
  have lk:xu wq s (pX l m a b R x) (fun i:Nat=>qp [(j0:Int),j1,j2,j3] (i:Int) [(j0:Int),j1,j2,j3].length) nl=oX l m a b R wq s x:=by
   rw[WM]; unfold oX; rw[k0,k1,k2,k3,HN.out.1]
  have f4:W.cell? ⟨w.heap.size,0,none⟩=some (Ex (some ⟨b0,o0,none⟩) nl cl):=a4.c 0 rfl;have f5:W.cell? ⟨w.heap.size+1,0,none⟩=some (Ex (some ⟨b1,o1,none⟩) nm cm):=X.c 0 rfl;have l4:=a4.lt;have l5:=X.lt;have lp:=h1.lt;have lq:=h2.lt;have mR:j0<nl:=by have:=HN.out.1; omega
  have mV:j1<nl:=by have:=HN.out.1; omega
  have mL:i0<nm:=by have:=HN.out.2; omega
  have mY:i1<nm:=by have:=HN.out.2; omega
  have HI:=E7 (E8 a4 (E8 X (E8 N (E8 a8 (E8 ac (E8 ax J))))));have HP:=E7 (E8 h1 h2);clear a4 X N a8 ac ax J h1 h2 k8 lw kx iX iY k7 ky l3
  gi_upto_region 24 with fail
  refine aj.ew W W [.n 26 70 xW 27 [24] DT] [24,26,27] [(24,fh),(26,jE)] [(24,fun x_ W'=>bY W' x_ (tX l m a b x))] [(27,[(26,some 22),(24,some 102)]),(28,[(26,some 22),(24,some 102)])] [(26,[27])] (by simp only[aV]; exact⟨zh,zw,trivial⟩) (fun N0 g8 M Q' H hQ=> ?_)
   (by intro p hp; simp only[List.mem_cons,List.not_mem_nil,or_false]at hp; rcases hp with rfl | rfl; exact⟨_,fh.mk⟩; exact⟨_,0,rfl⟩) (by intro p hp; simp only[List.mem_cons,List.not_mem_nil,or_false]at hp; subst hp; intro x W W' k h; exact bY.af h k)
  refine aj.b_ H 78 (fun _ _ _ _ h=>(h.b.cell (p:=⟨w.heap.size,0,none⟩) l4).trans f4) ?_
  iterate 2 refine aj.RQ H _ ?_
  refine aj.b_ H 81 (fun _ _ _ _ h=>(h.b.cell (p:=⟨p,0,none⟩) lp).trans p0) ?_
  iterate 1 refine aj.RQ H _ ?_
  refine aj.b_ H 83 (fun _ _ _ _ h=>E8 ((h.b.cell (p:=⟨b0,o0+j0*2,none⟩) iD).trans mb) ((h.b.cell (p:=⟨b0,o0+j0*2+1,none⟩) iD).trans m7)) ?_;refine aj.b_ H 84 (fun _ _ _ _ h=>(h.b.cell (p:=⟨w.heap.size,0,none⟩) l4).trans f4) ?_
  iterate 2 refine aj.RQ H _ ?_
  refine aj.b_ H 87 (fun _ _ _ _ h=>(h.b.cell (p:=⟨p,1,none⟩) lp).trans p1) ?_
  iterate 1 refine aj.RQ H _ ?_
  refine aj.b_ H 89 (fun _ _ _ _ h=>E8 ((h.b.cell (p:=⟨b0,o0+j1*2,none⟩) iD).trans lJ) ((h.b.cell (p:=⟨b0,o0+j1*2+1,none⟩) iD).trans lh)) ?_;refine aj.b_ H 90 (fun _ _ _ _ h=>(h.b.cell (p:=⟨w.heap.size+1,0,none⟩) l5).trans f5) ?_
  iterate 2 refine aj.RQ H _ ?_
  refine aj.b_ H 93 (fun _ _ _ _ h=>(h.b.cell (p:=⟨q,0,none⟩) lq).trans q0) ?_
  iterate 1 refine aj.RQ H _ ?_
  refine aj.b_ H 95 (fun _ _ _ _ h=>E8 ((h.b.cell (p:=⟨b1,o1+i0*2,none⟩) iL).trans lX) ((h.b.cell (p:=⟨b1,o1+i0*2+1,none⟩) iL).trans m9)) ?_;refine aj.b_ H 96 (fun _ _ _ _ h=>(h.b.cell (p:=⟨w.heap.size+1,0,none⟩) l5).trans f5) ?_
  iterate 2 refine aj.RQ H _ ?_
  refine aj.b_ H 99 (fun _ _ _ _ h=>(h.b.cell (p:=⟨q,1,none⟩) lq).trans lK) ?_
  iterate 1 refine aj.RQ H _ ?_
  refine aj.b_ H 101 (fun _ _ _ _ h=>E8 ((h.b.cell (p:=⟨b1,o1+i1*2,none⟩) iL).trans lM) ((h.b.cell (p:=⟨b1,o1+i1*2+1,none⟩) iL).trans lP)) ?_;refine aj.sC (m:=fun u=>u) (F:=fun W' u=>bY W' u (tX l m a b x)) H (fun D v W' hj _=>SM W' hj.b) ?_ (hv:=fun W' u h=>h.fk);rintro _ ⟨cx,bg,dl,b9,cy,ci,eM,d9,bt,cn,dk,dP,ey,ek,be,bh,em,dc,br,dt,f9,eW,cN,er,bl,fd,ec,cg,ce,eS,ed,dx,rfl⟩;refine aj.dg rfl ?_;refine aj.RQ H 103 ?_ (h:=fun W' K hK=>by refine JT 70 #[(0,.tmp 102)] rfl #[Ez cx,Ex bg dl b9,Ez cy,Ex ci eM d9,Ez bt,Ex cn dk dP,Ez ey,Ex ek be bh,Ez em,Ex dc br dt,Ez f9,Ex eW cN er,Ez bl,Ex fd ec cg,Ez ce,Ex eS ed dx,Ex none 0 0,Ez false,Ex none 0 0,Ez false,Ex none 0 0] D7 ?_; exact hK.out);refine aj.sA H ?_;rintro _ ⟨pm,rfl⟩;refine aj.dg rfl ?_;refine aj.sN H ?_ (h:=fun W' hb K hK=>by refine wp_store_row 70 (.tmp 22) (.tmp 103) rfl pm #[Ez cx,Ex bg dl b9,Ez cy,Ex ci eM d9,Ez bt,Ex cn dk dP,Ez ey,Ex ek be bh,Ez em,Ex dc br dt,Ez f9,Ex eW cN er,Ez bl,Ex fd ec cg,Ez ce,Ex eS ed dx,Ex none 0 0,Ez false,Ex none 0 0,Ez false,Ex none 0 0] rfl rfl 70 _ hb D7 rfl (by simp[Value.oneCell']) ?_; exact hK.out _ ⟨rfl,rfl,rfl,(bz.eQ hb).only⟩ (bz.eQ hb).bI);refine aj.sE (fun _ v' W2 B2 jk hl _ _ hf=> ?_);simp only[xZ,qk]at hl;obtain⟨ea,-⟩:=hl;obtain⟨zc,om⟩:N0<=pm/\ai W2 pm 70 #[Ez cx,Ex bg dl b9,Ez cy,Ex ci eM d9,Ez bt,Ex cn dk dP,Ez ey,Ex ek be bh,Ez em,Ex dc br dt,Ez f9,Ex eW cN er,Ez bl,Ex fd ec cg,Ez ce,Ex eS ed dx,Ex none 0 0,Ez false,Ex none 0 0,Ez false,Ex none 0 0]:=ea pm rfl;have S0:bY W2 (Ej #[Ez cx,Ex bg dl b9,Ez cy,Ex ci eM d9,Ez bt,Ex cn dk dP,Ez ey,Ex ek be bh,Ez em,Ex dc br dt,Ez f9,Ex eW cN er,Ez bl,Ex fd ec cg,Ez ce,Ex eS ed dx]) (tX l m a b x):=(hf (24,some 102) (.tail _ (.head _)) rfl).2.2;have zN:W.heap.size<=N0:=Nat.le_of_eq g8.out.symm;clear hf ea jk g8;refine hQ _ _ ?_;clear hQ H Q' M;obtain⟨a4,X,N,a8,ac,ax,J⟩:=HI.out;replace a4:=a4.ae B2;replace X:=X.ae B2;replace N:=N.ae B2;replace a8:=a8.ae B2;replace ac:=ac.ae B2;replace ax:=ax.ae B2;replace J:=zA J (Ep _) B2;have h1:=HP.out.1.ae B2;have mF:KG (Z.heap.size+1) W W2:=KG.ae B2;have lO:=E7 B2;have lZ:W.heap.size<=pm:=D6
  clear f4 f5 p0 p1 q0 lK l4 l5 lp lq mb m7 lJ lh lX m9 lM lP iD l9 iL lY SM zc zN B2;obtain⟨S1,S2,S3,S4⟩:=CY S0;have PR:=fun(w':Ef) (st:zf W2 w')=>WB (gc:=gc) (tc:=89) R w' (ac.ae st) (S1.af (av.ae st)) (S2.af (av.ae st)) (S3.af (av.ae st)) (S4.af (av.ae st)) (fun i hi=>mH i hi) (Y.out.1.ae (zA J (Ep _) st)) (Y.out.2.1.ae (zA J (Ep _) st)) dy.out.1 dy.out.2 hR.1 hR.2.1;have f4:W2.cell? ⟨w.heap.size,0,none⟩=some (Ex (some ⟨b0,o0,none⟩) nl cl):=a4.c 0 rfl;have f5:W2.cell? ⟨w.heap.size+1,0,none⟩=some (Ex (some ⟨b1,o1,none⟩) nm cm):=X.c 0 rfl;have f7:W2.cell? ⟨w.heap.size+1+1,4,none⟩=some (Ey Ew R):=N.c 4 rfl
  have ln:∀j,j<(#[Ez cx,Ex bg dl b9,Ez cy,Ex ci eM d9,Ez bt,Ex cn dk dP,Ez ey,Ex ek be bh,Ez em,Ex dc br dt,Ez f9,Ex eW cN er,Ez bl,Ex fd ec cg,Ez ce,Ex eS ed dx]:Array Ei).size->W2.cell? ⟨pm,0+j,none⟩=(#[Ez cx,Ex bg dl b9,Ez cy,Ex ci eM d9,Ez bt,Ex cn dk dP,Ez ey,Ex ek be bh,Ez em,Ex dc br dt,Ez f9,Ex eW cN er,Ez bl,Ex fd ec cg,Ez ce,Ex eS ed dx]:Array Ei)[j]? :=fun j hj=>by
   rw[Nat.zero_add,om.cell j];exact(Vt hj).symm
  gi_upto_region 25 with fail
  refine yD D7 ?_
  repeat' (first | ((with_reducible show wpList _ _ _ (⟨some 105,_,_,_,_,_⟩::_) _ _); refine kK rfl 30 (.tmp 104) rfl pm 0 rfl #[Ez cx,Ex bg dl b9,Ez cy,Ex ci eM d9,Ez bt,Ex cn dk dP,Ez ey,Ex ek be bh,Ez em,Ex dc br dt,Ez f9,Ex eW cN er,Ez bl,Ex fd ec cg,Ez ce,Ex eS ed dx] _ ln Tryz.underlying30 rfl D7 ?_) | go_values | go_skip | go_guarded | go_step | go_upon)
  refine(PR W2 (Fz _ _)).mono ?_;rintro e W3 ⟨u,rfl,hu,iR⟩;replace hu:aF W3 u (pX l m a b R x):=hu;have iM:=WN l m a b R x;rw[HN.out.1]at iM;obtain⟨uo,uc,rfl⟩:=hu.ak;rw[iM]at hu|-;have ip:=om.ae iR;clear f4 f5 f7 ln PR;have iT:=ip.fK;have lm:=ip.lt;have fm:=ip.fr;dsimp only
  repeat' (first | go_values | go_skip | go_guarded | go_step | go_upon)
  dsimp only[y_,Act.put];have ir:ai (W3.setCell ⟨pm,16,none⟩ (Ex uo nl uc)) pm 70 #[Ez cx,Ex bg dl b9,Ez cy,Ex ci eM d9,Ez bt,Ex cn dk dP,Ez ey,Ex ek be bh,Ez em,Ex dc br dt,Ez f9,Ex eW cN er,Ez bl,Ex fd ec cg,Ez ce,Ex eS ed dx,Ex uo nl uc,Ez false,Ex none 0 0,Ez false,Ex none 0 0]:=ip.bH 16 _;have mh:av W3 (W3.setCell ⟨pm,16,none⟩ (Ex uo nl uc)):=av.only ip rfl ((bJ.refl _ _).set);have iI:zf W (W3.setCell ⟨pm,16,none⟩ (Ex uo nl uc)):=Below.setCell (p:=⟨pm,16,none⟩) (zA lO.out (Ep _) iR) lZ _;have iV:aF (W3.setCell ⟨pm,16,none⟩ (Ex uo nl uc)) (Ex uo nl uc) (pX l m a b R x):=hu.only ip D9 ((bJ.refl _ _).set);have lN:=(S0.af (av.ae iR)).af mh;generalize W3.setCell ⟨pm,16,none⟩ (Ex uo nl uc)=W4 at *;clear iT lm fm ip iR hu mh om S0 S1 S2 S3 S4 a4 X N a8 ac ax J h1 mF lO;obtain⟨a4,X,N,a8,ac,ax,J⟩:=HI.out
  have OD:∀w',zf W4 w'->Ee Ed 51 #[Ek (some ⟨gc,0,none⟩),Ej #[Ez ua1,Ex ua2 ua3 ua4,Ez ua5,Ex ua6 ua7 ua8,Ey Ew R,Ey Ew A,Ez ub1,Ex ub2 ub3 ub4,Ez ub5,Ex ub6 ub7 ub8,Ez uc1,Ex uc2 uc3 uc4,Ez uc5,Ex uc6 uc7 uc8],Ex uo nl uc,Ey Ew nm,Ex (some ⟨p,0,none⟩) 4 4] w' fun e w2=>∃v,e = Eh v/\FR w2 v (oX l m a b R wq s x)/\zf w' w2:=fun w' st=>by
   have sw:zf W w':=zA iI (Ep _) st;have ub:=(Y.out.2.2.2.1.af (av.ae J)).af (av.ae sw);rw[e1]at ub;have:=G2 (ua1:=ua1) (ua2:=ua2) (ua3:=ua3) (ua4:=ua4) (ua5:=ua5) (ua6:=ua6) (ua7:=ua7) (ua8:=ua8) (uc1:=uc1) (uc2:=uc2) (uc3:=uc3) (uc4:=uc4) (uc5:=uc5) (uc6:=uc6) (uc7:=uc7) (uc8:=uc8) (R:=R) (A:=A) (n:=(nm:Int)) w' (ac.ae sw) ub ss hR.1 hR.2.1 hR.2.2.1 hR.2.2.2 D6 D6 (iV.ae st) (ho.ae sw) (by rw[iM]; omega) D9;rw[iE,iM,lk]at this;exact this
  have l4:=N.lt;have l5:=X.lt;have f5:W.cell? ⟨w.heap.size+1,0,none⟩=some (Ex (some ⟨b1,o1,none⟩) nm cm):=X.c 0 rfl;have iT:=ir.fK;have lm:=ir.lt
  gi_upto_region 26 with fail
  refine jg (fun D v W'=>(D 9=false->zf W4 W')/\(D 9=true->D 7=true/\∃W5 c,zf W4 W5/\Wr pm W5 W'/\v 7 = Ej c/\ai W' pm 70 (#[Ez cx,Ex bg dl b9,Ez cy,Ex ci eM d9,Ez bt,Ex cn dk dP,Ez ey,Ex ek be bh,Ez em,Ex dc br dt,Ez f9,Ex eW cN er,Ez bl,Ex fd ec cg,Ez ce,Ex eS ed dx,Ex uo nl uc]++c))) (aj.inl [7,9]) (aj.gv [(7,xh)]) (gw [(7,bV (oX l m a b R wq s x))]) (fun _=>av) (fun _ _=>False) (aj.pl [(9,[(7,some 119)]),(10,[(7,some 119)])]) (aj.pl [(0,[9]),(2,[9]),(3,[9]),(7,[9])])
   D7 D7 D7 D7 (aj.aY _ (by intro p hp; simp only[List.mem_cons,List.not_mem_nil,or_false]at hp; rcases hp with rfl; exact⟨_,false,none,0,0,false,none,0,0,rfl⟩)) (fun _=>⟨fun _=>zh,fun h=>by cases h⟩) (fun D v v' W' hv hj=>⟨hj.1,fun h=>by obtain⟨d,W5,c,g1,g2,g3,g4⟩:=hj.2 h; exact⟨d,W5,c,g1,g2,(hv 7 d)▸g3,g4⟩⟩)
   (fun _ _ _ _ _ _ _ _ _ _ _ hk hx=>qN _ (by intro p hp; simp only[List.mem_cons,List.not_mem_nil,or_false]at hp; subst hp; exact bV.af) hk hx) (fun _ _ _ _ h=>h.elim) (fun M Q' H hQ=> ?_)
  refine aj.b_ H 112 (fun _ _ _ hc hj=>N.ae (zA iI (Ep _) (hj.1 (hc.2 9 D8)))) ?_ (h:=fun W' hf K hK=>by refine wp_load_row 45 (.tmp 7) rfl (w.heap.size+1+1) rfl 45 #[Ez ua1,Ex ua2 ua3 ua4,Ez ua5,Ex ua6 ua7 ua8,Ey Ew R,Ey Ew A,Ez ub1,Ex ub2 ub3 ub4,Ez ub5,Ex ub6 ub7 ub8,Ez uc1,Ex uc2 uc3 uc4,Ez uc5,Ex uc6 uc7 uc8] (0,0) _ hf Tryz.underlying45 rfl D7 ?_; exact hK.out);refine aj.dg rfl ?_;refine aj.RQ H _ ?_;refine aj.b_ H 114 (fun _ _ _ hc hj=>((hj.1 (hc.2 9 D8)).cell (p:=⟨pm,16,none⟩) lm).trans iT) ?_;refine aj.b_ H 115 (fun _ _ _ hc hj=>((zA iI (Ep _) (hj.1 (hc.2 9 D8))).cell (p:=⟨w.heap.size+1,0,none⟩) l5).trans f5) ?_
  iterate 3 refine aj.RQ H _ ?_
  refine aj.aC rfl (ve rfl) (by rw[H]; rfl) (fun D v' W' hc hj hf K hK=> ?_) ?_
  .
   have s4:=hj.1 (hc.2 9 D8);go_step;refine(OD W' s4).mono ?_;rintro e W6 ⟨u,rfl,hF,s5⟩;exact hK.out _ _ (av.ae s5) ⟨fun _=>zA s4 (Ep _) s5,fun h=>Bool.noConfusion ((hc.2 9 D8).symm.trans h)⟩ hF hF.ak
  rintro _ ⟨d1,d2,d3,d4,d5,d6,d7,d8,rfl⟩;refine aj.dg rfl ?_;refine aj.RQ H _ ?_;refine aj.aC rfl (by intro t ht; cases ht) (by rw[H]; rfl) (fun D v' W' hc hj hf K hK=> ?_) (fun _ _=>aj.aB (b:=⟨_,_⟩) rfl ?_)
  .
   have s4:=hj.1 hc.1;have f:=hf (7,some 119) (.head _) rfl;have e7:v' 7 = Ej #[Ez d1,Ex d2 d3 d4,Ez d5,Ex d6 d7 d8]:=f.2.1;have hb:=ir.ae s4;have ff:=hb.fr;have lp:=hb.lt;have mW:=hb.fZ;have mZ:=hb.fU;have n8:=hb.gh;have mU:=hb.fT;go_step;exact hK.out En _ (av.only hb rfl ((bJ.refl _ _).set.set.set.set)) ⟨fun h=>Bool.noConfusion h,fun _=>⟨f.1,W',_,s4,(Wr.refl _ _).set.set.set.set,e7,((((hb.bH 17 _).bH 18 _).bH 19 _).bH 20 _)⟩⟩ trivial trivial
  refine aj.aE (fun Dn v' W6 hd hj hf=> ?_);obtain⟨-,W5,c,g1,g2,g3,gN⟩:=hj.2 (hd 9 D8);have f:=hf (7,some 119) (.head _) rfl;have e7:v' 7 = Ej #[Ez d1,Ex d2 d3 d4,Ez d5,Ex d6 d7 d8]:=f.2.1;have e8:#[Ez d1,Ex d2 d3 d4,Ez d5,Ex d6 d7 d8]=c:=by have e9:=e7.symm.trans g3; injection e9
  subst e8;have F6:FR W6 (Ej #[Ez d1,Ex d2 d3 d4,Ez d5,Ex d6 d7 d8]) (oX l m a b R wq s x):=f.2.2;have ft:zf W W6:=g2.fO (zA iI (Ep _) g1) lZ;have iq:aF W6 (Ex uo nl uc) (pX l m a b R x):=(iV.ae g1).only (ir.ae g1) D9 g2.only;have ik:=(lN.af (av.ae g1)).af (g2.fS (ir.ae g1));clear hd hf hj f e7 g3 g1 g2 ir iI iV lN OD l4 l5 f5 iT lm W5;refine hQ _ _ ?_;clear hQ H Q' M;replace a4:=a4.ae ft;replace X:=X.ae ft;replace N:=N.ae ft;replace a8:=a8.ae ft;replace ac:=ac.ae ft;replace ax:=ax.ae ft;replace J:=zA J (Ep _) ft;have iC:KG (Z.heap.size+1) W W6:=KG.ae ft;have ki:=E7 ft;have iP:sz wq 20:=by rw[<- iE]; exact Z6 ss (jJ hR.1 hR.2.1 hR.2.2.1 hR.2.2.2 (show (0:Int)<=(nm:Int) by omega) D6).1 (Rat.ne_of_gt (jX hR.1 hR.2.2.1 D6))
  have mj:=fun y=>WW (l:=l) (m:=m) (a:=a) (b:=b) (R:=R) y iP ss (show l.length<=6 by have:=HN.out.1; omega);clear ft ho lk;obtain⟨bo,ig⟩:∃z,jL (oX l m a b R wq s) pre=z:=⟨_,rfl⟩;rw[ig]at ax;have ji:=E7 (E8 iC (E8 a4 (E8 X (E8 N (E8 a8 (E8 J (E8 ik iq)))))));clear iC a4 X N a8 J ik iq HI HP;have ff:=gN.fr;have lm:=gN.lt;have lc:=ac.lt
  rcases bo with _ | y
  .
   have fp:W6.cell? ⟨Z.heap.size+1,0,none⟩=some (Ek none):=ai.c ax 0 rfl;have ah:=ai.lt ax
   gi_upto_region 27 with fail
   refine aj.ew W6 W6 [] [] [] [] [] [] (by simp only[aV]; exact⟨zh,zw,trivial⟩) (fun N0 g8 M Q' H hQ=> ?_) (by intro p hp; cases hp) (by intro p hp; cases hp);refine aj.b_ H 121 (fun _ _ _ _ h=>(h.b.cell (p:=⟨Z.heap.size+1,0,none⟩) ah).trans fp) ?_
   iterate 2 refine aj.RQ H _ ?_
   iterate 8 refine aj.cV rfl (by rw[H]; rfl) (aj.aB (b:=⟨#[_,_,_,_,_,_,_,_,_,_,_,_,_,_,_,_,_,_,_,_,_,_,_,_,_,_,_,_,_,_,_,_,_,_,_,_,_,_,_,_,_,_,_,_,_,_,_,_,_,_,_,_,_,_,_,_,_,_,_,_,_,_,_,_,_,_,_,_,_,_,_,_,_,_,_,_,_,_,_,_,_,_,_,_,_,_,_,_,_,_,_,_,_,_,_,_,_,_,_,_,_,_,_,_,_,_,_,_,_,_,_,_,_,_,_,_,_,_,_,_,_,_,_,_,_,_,_,_,_,_,_,_,_,_,_,_,_,_,_,_,_,_,_,_,_,_,_,_,_,_,_,_,_,_,_,_,_],_⟩) rfl ?_)
   refine aj.RQ H _ ?_;refine aj.sE (fun _ v' W7 I jk hl _ _ hf=> ?_);refine hQ _ _ ?_;clear hl hf hQ H Q' M jk g8;have gj:=ai.ae ax I;have f7:=gj.c 0 rfl;have l7:=gj.lt;have mu:=gj.fr
   gi_upto_region 28 with fail
   refine yD D7 ?_
   repeat' (first | go_values | go_skip | go_guarded | go_step | go_upon)
   dsimp only[y_,Act.put];obtain⟨iC,a4,X,N,a8,J,ik,iq⟩:=ji.out;have h:=WV (zA ki.out (Ep _) I) (a4.ae I) (X.ae I) (N.ae I) (a8.ae I) (ac.ae I) ⟨_,gj⟩ (zA J (Ep _) I) (ai.cast (c':=#[Ez cx,Ex bg dl b9,Ez cy,Ex ci eM d9,Ez bt,Ex cn dk dP,Ez ey,Ex ek be bh,Ez em,Ex dc br dt,Ez f9,Ex eW cN er,Ez bl,Ex fd ec cg,Ez ce,Ex eS ed dx]++#[Ex uo nl uc,Ez d1,Ex d2 d3 d4,Ez d5,Ex d6 d7 d8]) (gN.ae I) D9) (ik.af (av.ae I)) (iq.ae I) (F6.af (av.ae I)) (X4 ig) (n:=w7.heap.size) D6 D6 D6 D6;exact⟨h.1.from _,h.2.1,h.2.2⟩
  .
   have iF:=E7 ax;obtain⟨pb,CS,g9,mB,T,iU⟩:=ax;obtain⟨cs,u2,t1,t2,t3,t4,t5,t6,t7,t8,gd,bs,bu,bf⟩:=iU;obtain⟨h9,gW,gr,gP,gO,gJ,gE,gV,gQ,i4,gp,gt,i5,gB,gG,i6,gH,gA,gF,gR,i7,gT,gK,gn,gC,gY,gX,gL,gz,i8,gD,gI,es⟩:=bs.fk;have iJ:cs=#[Ez h9,Ex gW gr gP,Ez gO,Ex gJ gE gV,Ez gQ,Ex i4 gp gt,Ez i5,Ex gB gG i6,Ez gH,Ex gA gF gR,Ez i7,Ex gT gK gn,Ez gC,Ex gY gX gL,Ez gz,Ex i8 gD gI]:=by injection es
   have iK:CS=#[Ez h9,Ex gW gr gP,Ez gO,Ex gJ gE gV,Ez gQ,Ex i4 gp gt,Ez i5,Ex gB gG i6,Ez gH,Ex gA gF gR,Ez i7,Ex gT gK gn,Ez gC,Ex gY gX gL,Ez gz,Ex i8 gD gI,u2,Ez t1,Ex t2 t3 t4,Ez t5,Ex t6 t7 t8]:=by rw[iJ]at gd; injection gd
   rw[iK]at T;have n5:=E7 (E8 bs (E8 bu gd));clear es iK gd bs bu iJ;have fp:W6.cell? ⟨Z.heap.size+1,0,none⟩=some (Ek (some ⟨pb,0,none⟩)):=ai.c g9 0 rfl;have ah:=ai.lt g9;have f8:=ai.lt T;have lH:=gN.c 17 rfl;have lF:=gN.c 18 rfl;have lg:=gN.c 19 rfl;have ml:=gN.c 20 rfl;have iG:=T.c 17 rfl;have iA:=T.c 18 rfl;have iH:=T.c 19 rfl;have iB:=T.c 20 rfl;obtain⟨c,hc⟩:∃c,z9 (oX l m a b R wq s x) (oX l m a b R wq s y)=c:=⟨_,rfl⟩;have CP:∀w',zf W6 w'->Ee Ed 67 #[Ek (some ⟨gc,0,none⟩),Ej #[Ez d1,Ex d2 d3 d4,Ez d5,Ex d6 d7 d8],Ej #[Ez t1,Ex t2 t3 t4,Ez t5,Ex t6 t7 t8]] w' fun e w2=>e = Eh (Ey Ew c)/\zf w' w2:=fun w' st=>by rw[<- hc]; exact xD w' (ac.ae st) (F6.af (av.ae st)) (bf.af (av.ae st)) (mj x) (mj y) D6
   obtain⟨tc,fe⟩:∃d,decide (c<=0)=d:=⟨_,rfl⟩
   gi_upto_region 27 with fail
   refine aj.ew W6 W6 [] [6,9] [(6,fun x=>x = Ek (some ⟨pb,0,none⟩)),(9,fun x=>x = Ey Ew c)] [] [] [] (by simp only[aV]; exact⟨zh,zw,trivial⟩) (fun N0 g8 M Q' H hQ=> ?_) (by intro p hp; simp only[List.mem_cons,List.not_mem_nil,or_false]at hp; rcases hp with rfl | rfl<;>exact⟨_,rfl⟩) (by intro p hp; cases hp);refine aj.b_ H 121 (fun _ _ _ _ h=>(h.b.cell (p:=⟨Z.heap.size+1,0,none⟩) ah).trans fp) ?_
   iterate 3 refine aj.RQ H _ ?_
   refine aj.b_ H 125 (fun _ _ _ _ h=>E8 ((h.b.cell (p:=⟨pm,17,none⟩) lm).trans lH) (E8 ((h.b.cell (p:=⟨pm,18,none⟩) lm).trans lF) (E8 ((h.b.cell (p:=⟨pm,19,none⟩) lm).trans lg) ((h.b.cell (p:=⟨pm,20,none⟩) lm).trans ml)))) ?_;refine aj.b_ H 126 (fun _ _ _ _ h=>(h.b.cell (p:=⟨Z.heap.size+1,0,none⟩) ah).trans fp) ?_;refine aj.aC rfl (Yu rfl rfl) (by rw[H]; rfl) (fun D v W' kw hj hf K hK=> ?_) ?_
   .
    go_step;exact hK.out _ _ (av.refl _) (hj.call kw.1 (by rfl) (Fz _ _)) trivial rfl
   rintro _ rfl;refine aj.dg rfl ?_;refine aj.RQ H _ ?_;refine aj.b_ H 129 (fun _ _ _ _ h=>E8 ((h.b.cell (p:=⟨pb,17,none⟩) f8).trans iG) (E8 ((h.b.cell (p:=⟨pb,18,none⟩) f8).trans iA) (E8 ((h.b.cell (p:=⟨pb,19,none⟩) f8).trans iH) ((h.b.cell (p:=⟨pb,20,none⟩) f8).trans iB)))) ?_;refine aj.sV H (fun D v W' hj _=>CP W' hj.b) ?_;refine aj.dg rfl ?_
   iterate 2 refine aj.RQ H _ ?_
   refine aj.sE (fun _ v' W7 I jk hl _ _ hf=> ?_);refine hQ _ _ ?_;clear hl hf hQ H Q' M jk g8 fp ah f8 lH lF lg ml iG iA iH iB CP;have gj:=ai.ae g9 I
   try rw[fe]
   clear bf g9 T
   cases tc with
   | true=>
    have mI:=of_decide_eq_true fe;clear fe
    gi_wp2_with fail
    obtain⟨iC,a4,X,N,a8,J,ik,iq⟩:=ji.out;have lj:=zA ki.out (Ep _) I;refine⟨(WU lj).from _,KG.ae lj,a4.ae I,X.ae I,N.ae I,a8.ae I,ac.ae I,?_,zA J (Ep _) I⟩;rw[YQ,Ul ig (by rw[hc]; exact mI),ig];have h:=iF.out.ae I
    rwa[show w7.heap.size=Z.heap.size+2+3 by omega]at h
   | false=>
    have f7:=gj.c 0 rfl;have l7:=gj.lt;have mu:=gj.fr
    gi_upto_region 28 with fail
    refine yD D7 ?_
    repeat' (first | go_values | go_skip | go_guarded | go_step | go_upon)
    dsimp only[y_,Act.put];obtain⟨iC,a4,X,N,a8,J,ik,iq⟩:=ji.out;have h:=WV (zA ki.out (Ep _) I) (a4.ae I) (X.ae I) (N.ae I) (a8.ae I) (ac.ae I) ⟨_,gj⟩ (zA J (Ep _) I) (ai.cast (c':=#[Ez cx,Ex bg dl b9,Ez cy,Ex ci eM d9,Ez bt,Ex cn dk dP,Ez ey,Ex ek be bh,Ez em,Ex dc br dt,Ez f9,Ex eW cN er,Ez bl,Ex fd ec cg,Ez ce,Ex eS ed dx]++#[Ex uo nl uc,Ez d1,Ex d2 d3 d4,Ez d5,Ex d6 d7 d8]) (gN.ae I) D9) (ik.af (av.ae I)) (iq.ae I) (F6.af (av.ae I)) (Kq ig (by rw[hc]; have:=of_decide_eq_false fe; omega)) (n:=w7.heap.size) D6 D6 D6 D6;exact⟨h.1.from _,h.2.1,h.2.2⟩
 case done=>
  rintro D xs W hD rfl ⟨a4,X,N,a8,ac,ax,gi⟩ cZ;have E:=iZ.out;rw[hA,J,iE]at E;have my:FR W (Ej #[Ez uc1,Ex uc2 uc3 uc4,Ez uc5,Ex uc6 uc7 uc8]) least:=by have h:=Y.out.2.2.2.2.1; rw[e2]at h; exact h.af (av.ae gi)
  have iF:=E7 (E8 ax (E8 gi cZ));obtain⟨bo,ig⟩:∃z,jL (oX l m a b R wq s) (ZJ a b off)=z:=⟨_,rfl⟩;rw[ig]at ax E;have HE:=E7 E;clear NB E gi cZ dy iZ;have f0:=ac.c 0 rfl;have mX:=ac.lt
  rcases bo with _ | y
  .
   have fp:W.cell? ⟨Z.heap.size+1,0,none⟩=some (Ek none):=ai.c ax 0 rfl;have ah:=ai.lt ax
   go_upto_region 31 with fail
   refine aj.c_ W W [] [] [] [] [] [] (by simp only[aV]; exact⟨zh,zw,trivial⟩) (fun N0 g8 M Q' H hQ=> ?_);refine aj.b_ H 141 (fun _ _ _ _ h=>(h.b.cell (p:=⟨Z.heap.size+1,0,none⟩) ah).trans fp) ?_
   iterate 2 refine aj.RQ H _ ?_
   iterate 8 refine aj.cV rfl (by rw[H]; rfl) (aj.aB (b:=⟨#[_,_,_,_,_,_,_,_,_,_,_,_,_,_,_,_,_,_,_,_,_,_,_,_,_,_,_,_,_,_,_,_,_,_,_,_,_,_,_,_,_,_,_,_,_,_,_,_,_,_,_,_,_,_,_,_,_,_,_,_,_,_,_,_,_,_,_,_,_,_,_,_,_,_,_,_,_,_,_,_,_,_,_,_,_,_,_,_,_,_,_,_,_,_,_,_,_,_,_,_,_,_,_,_,_,_,_,_,_,_,_,_,_,_,_,_,_,_,_,_,_,_,_,_,_,_,_,_,_,_,_,_,_,_,_,_,_,_,_,_,_,_,_,_,_,_,_,_,_,_,_,_,_,_,_,_,_],_⟩) rfl ?_)
   iterate 2 refine aj.RQ H _ ?_
   refine aj.sE (fun _ v' W7 I jk hl _ _ hf=> ?_);refine hQ _ _ ?_;clear hl hf hQ H Q' M jk g8 fp ah;have o8:=a8.ae I
   go_upto_region 32 with fail
   refine wp_region_lit ?_
   repeat' (first | ((with_reducible show wpList _ _ _ (⟨some 153,_,_,_,_,_⟩::_) _ _); refine yW rfl 70 #[] rfl xW D7 ?_) | ((with_reducible show wpList _ _ _ (⟨none,.store _ _ _,_,_,_,_⟩::_) _ _); refine zL rfl 70 (.tmp 8) (.tmp 153) rfl (w.heap.size+1+1+1) xW rfl rfl 70 xW o8 D7 rfl (by simp[xW,Value.oneCell']) (fun wz rz=> ?_)) | go_values | go_skip | go_guarded | go_step | go_upon)
   obtain⟨ax,gi,cZ⟩:=iF.out;have B8:Below w.heap.size w wz:=rz.below (zA gi (Ep _) I) D6;have jd:wz.heap[D]? = some (.deferred (some [])):=(rz.only.2 D D6).trans ((I.block D (Array.getElem?_eq_some_iff.1 cZ).1).trans cZ);have gZ:∀r,some D=some r->∃o:Obj,wz.heap[r]? = some o/\o.isCells=false:=fun r e=>by cases e; exact⟨_,jd,rfl⟩
   have R8:=z' rz.bI (grownBy_putObj' wz D (.deferred none)) gZ;have BX:=B8.grown (grownBy_putObj' wz D (.deferred none)) B8.size (fun k hk=>by cases hk; omega);rw[Exit.noGoto_ret];refine⟨by simp,.inl ⟨_,_,rfl,run_takeDeferred jd,?_⟩⟩;refine⟨_,yf rfl _ _ (w.heap.size+1+1+1) rfl (cs:=xW) R8 Tryz.underlying70 rfl D7,?_⟩;refine⟨_,by rw[HE.out]; rfl,?_,BX⟩;rw[HE.out];rfl
  .
   obtain⟨pb,CS,g9,mB,T,iU⟩:=ax;have HM:=E7 iU;obtain⟨cs,u2,t1,t2,t3,t4,t5,t6,t7,t8,gd,bs,bu,bf⟩:=iU;obtain⟨h9,gW,gr,gP,gO,gJ,gE,gV,gQ,i4,gp,gt,i5,gB,gG,i6,gH,gA,gF,gR,i7,gT,gK,gn,gC,gY,gX,gL,gz,i8,gD,gI,es⟩:=bs.fk;obtain⟨v2,v3,rfl⟩:=bu.ak;obtain⟨v4,mK⟩:∃n,(pX l m a b R y).length=n:=⟨_,rfl⟩;rw[mK]at gd;have iJ:cs=#[Ez h9,Ex gW gr gP,Ez gO,Ex gJ gE gV,Ez gQ,Ex i4 gp gt,Ez i5,Ex gB gG i6,Ez gH,Ex gA gF gR,Ez i7,Ex gT gK gn,Ez gC,Ex gY gX gL,Ez gz,Ex i8 gD gI]:=by injection es
   have iK:CS=#[Ez h9,Ex gW gr gP,Ez gO,Ex gJ gE gV,Ez gQ,Ex i4 gp gt,Ez i5,Ex gB gG i6,Ez gH,Ex gA gF gR,Ez i7,Ex gT gK gn,Ez gC,Ex gY gX gL,Ez gz,Ex i8 gD gI,Ex v2 v4 v3,Ez t1,Ex t2 t3 t4,Ez t5,Ex t6 t7 t8]:=by rw[iJ]at gd; injection gd
   rw[iK]at T HM;have yl:=Vv (XA ig)
   have mT:1<=nm:=by
    obtain⟨i0,i1,i2,i3,-,-,-,-,z0,-,-,-,-⟩:=(MM.2 y.2 (by rw[<- iW]; exact yl.2)).2.ex;have:=HN.out.2;omega
   have iP:sz wq 20:=by rw[<- iE]; exact Z6 ss (jJ hR.1 hR.2.1 hR.2.2.1 hR.2.2.2 (show (0:Int)<=(nm:Int) by omega) D6).1 (Rat.ne_of_gt (jX hR.1 hR.2.2.1 D6))
   have me:sz (oX l m a b R wq s y) 122:=WW (l:=l) (m:=m) (a:=a) (b:=b) (R:=R) y iP ss (show l.length<=6 by have:=HN.out.1; omega);have ms:=E7 g9;have fp:W.cell? ⟨Z.heap.size+1,0,none⟩=some (Ek (some ⟨pb,0,none⟩)):=ai.c g9 0 rfl;have ah:=ai.lt g9;have f8:=ai.lt T;have l7:=N.lt;have iG:=T.c 17 rfl;have iA:=T.c 18 rfl;have iH:=T.c 19 rfl;have iB:=T.c 20 rfl;have eV:=N.c 10 rfl;have eT:=N.c 11 rfl;have eU:=N.c 12 rfl;have dA:=N.c 13 rfl;obtain⟨c,hc⟩:∃c,z9 (oX l m a b R wq s y) least=c:=⟨_,rfl⟩;have CP:∀w',zf W w'->Ee Ed 67 #[Ek (some ⟨gc,0,none⟩),Ej #[Ez t1,Ex t2 t3 t4,Ez t5,Ex t6 t7 t8],Ej #[Ez uc1,Ex uc2 uc3 uc4,Ez uc5,Ex uc6 uc7 uc8]] w' fun e w2=>e = Eh (Ey Ew c)/\zf w' w2:=fun w' st=>by rw[<- hc]; exact xD w' (ac.ae st) (bf.af (av.ae st)) (my.af (av.ae st)) me sl D6
   obtain⟨tc,fe⟩:∃d,decide (c<0)=d:=⟨_,rfl⟩;clear es iK gd bs bu iJ bf iP me
   go_upto_region 31 with fail
   refine aj.c_ W W [] [4,9] [(4,fun x=>x = Ek (some ⟨pb,0,none⟩)),(9,fun x=>x = Ey Ew c)] [] [] [] (by simp only[aV]; exact⟨zh,zw,trivial⟩) (fun N0 g8 M Q' H hQ=> ?_);refine aj.b_ H 141 (fun _ _ _ _ h=>(h.b.cell (p:=⟨Z.heap.size+1,0,none⟩) ah).trans fp) ?_
   iterate 2 refine aj.RQ H _ ?_
   refine aj.b_ H 144 (fun _ _ _ _ h=>(h.b.cell (p:=⟨Z.heap.size+1,0,none⟩) ah).trans fp) ?_;refine aj.aC rfl (Yu rfl rfl) (by rw[H]; rfl) (fun D v W' kw hj hf K hK=> ?_) ?_
   .
    go_step;exact hK.out _ _ (av.refl _) (hj.call kw.1 (by rfl) (Fz _ _)) trivial rfl
   rintro _ rfl;refine aj.dg rfl ?_;refine aj.RQ H _ ?_;refine aj.b_ H 147 (fun _ _ _ _ h=>E8 ((h.b.cell (p:=⟨pb,17,none⟩) f8).trans iG) (E8 ((h.b.cell (p:=⟨pb,18,none⟩) f8).trans iA) (E8 ((h.b.cell (p:=⟨pb,19,none⟩) f8).trans iH) ((h.b.cell (p:=⟨pb,20,none⟩) f8).trans iB)))) ?_;refine aj.RQ H _ ?_;refine aj.b_ H 149 (fun _ _ _ _ h=>E8 ((h.b.cell (p:=⟨w.heap.size+1+1,10,none⟩) l7).trans eV) (E8 ((h.b.cell (p:=⟨w.heap.size+1+1,11,none⟩) l7).trans eT) (E8 ((h.b.cell (p:=⟨w.heap.size+1+1,12,none⟩) l7).trans eU) ((h.b.cell (p:=⟨w.heap.size+1+1,13,none⟩) l7).trans dA)))) ?_;refine aj.sV H (fun D v W' hj _=>CP W' hj.b) ?_;refine aj.dg rfl ?_
   iterate 3 refine aj.RQ H _ ?_
   refine aj.sE (fun _ v' W7 I jk hl _ _ hf=> ?_);refine hQ _ _ ?_;clear hl hf hQ H Q' M jk g8 ah f8 iG iA iH iB eV eT eU dA CP l7
   try rw[fe]
   have o8:=a8.ae I;have mC:=T.ae I;have mS:W7.cell? ⟨Z.heap.size+1,0,none⟩=some (Ek (some ⟨pb,0,none⟩)):=ai.c (ai.ae g9 I) 0 rfl;clear fp g9 T
   cases tc with
   | true=>
    have mg:oX l m a b R wq s y<least:=bj.1 (by rw[hc]; exact of_decide_eq_true fe);clear fe hc
    go_upto_region 32 with fail
    refine wp_region_lit ?_
    repeat' (first | ((with_reducible show wpList _ _ _ (⟨some 153,_,_,_,_,_⟩::_) _ _); refine yW rfl 70 #[] rfl xW D7 ?_) | ((with_reducible show wpList _ _ _ (⟨none,.store _ _ _,_,_,_,_⟩::_) _ _); refine zL rfl 70 (.tmp 8) (.tmp 153) rfl (w.heap.size+1+1+1) xW rfl rfl 70 xW o8 D7 rfl (by simp[xW,Value.oneCell']) (fun wz rz=> ?_)) | go_values | go_skip | go_guarded | go_step | go_upon)
    obtain⟨ax,gi,cZ⟩:=iF.out;have B8:Below w.heap.size w wz:=rz.below (zA gi (Ep _) I) D6;have jd:wz.heap[D]? = some (.deferred (some [])):=(rz.only.2 D D6).trans ((I.block D (Array.getElem?_eq_some_iff.1 cZ).1).trans cZ);have gZ:∀r,some D=some r->∃o:Obj,wz.heap[r]? = some o/\o.isCells=false:=fun r e=>by cases e; exact⟨_,jd,rfl⟩
    have R8:=z' rz.bI (grownBy_putObj' wz D (.deferred none)) gZ;have BX:=B8.grown (grownBy_putObj' wz D (.deferred none)) B8.size (fun k hk=>by cases hk; omega);rw[Exit.noGoto_ret];refine⟨by simp,.inl ⟨_,_,rfl,run_takeDeferred jd,?_⟩⟩;refine⟨_,yf rfl _ _ (w.heap.size+1+1+1) rfl (cs:=xW) R8 Tryz.underlying70 rfl D7,?_⟩;refine⟨_,by rw[HE.out,WQ mg]; rfl,?_,BX⟩;rw[HE.out,WQ mg];rfl
   | false=>
    have mn:¬oX l m a b R wq s y<least:=fun h=>of_decide_eq_false fe (by rw[<- hc]; exact bj.2 h);clear fe hc
    go_upto_region 33 with fail
    refine wp_region_lit ?_
    repeat' (first | ((with_reducible show wpList _ _ _ (⟨some 156,_,_,_,_,_⟩::_) _ _); refine yg rfl 70 (.tmp 155) rfl pb rfl 70 #[Ez h9,Ex gW gr gP,Ez gO,Ex gJ gE gV,Ez gQ,Ex i4 gp gt,Ez i5,Ex gB gG i6,Ez gH,Ex gA gF gR,Ez i7,Ex gT gK gn,Ez gC,Ex gY gX gL,Ez gz,Ex i8 gD gI,Ex v2 v4 v3,Ez t1,Ex t2 t3 t4,Ez t5,Ex t6 t7 t8] _ mC Tryz.underlying70 rfl D7 ?_) | ((with_reducible show wpList _ _ _ (⟨none,.store _ _ _,_,_,_,_⟩::_) _ _); refine zL rfl 70 (.tmp 8) (.tmp 156) rfl (w.heap.size+1+1+1) #[Ez h9,Ex gW gr gP,Ez gO,Ex gJ gE gV,Ez gQ,Ex i4 gp gt,Ez i5,Ex gB gG i6,Ez gH,Ex gA gF gR,Ez i7,Ex gT gK gn,Ez gC,Ex gY gX gL,Ez gz,Ex i8 gD gI,Ex v2 v4 v3,Ez t1,Ex t2 t3 t4,Ez t5,Ex t6 t7 t8] rfl rfl 70 xW o8 D7 rfl (by simp[xW,Value.oneCell']) (fun wz rz=> ?_)) | go_values | go_skip | go_guarded | go_step | go_upon)
    obtain⟨ax,gi,cZ⟩:=iF.out;have B8:Below w.heap.size w wz:=rz.below (zA gi (Ep _) I) D6;have jd:wz.heap[D]? = some (.deferred (some [])):=(rz.only.2 D D6).trans ((I.block D (Array.getElem?_eq_some_iff.1 cZ).1).trans cZ);have gZ:∀r,some D=some r->∃o:Obj,wz.heap[r]? = some o/\o.isCells=false:=fun r e=>by cases e; exact⟨_,jd,rfl⟩
    have R8:=z' rz.bI (grownBy_putObj' wz D (.deferred none)) gZ;have BX:=B8.grown (grownBy_putObj' wz D (.deferred none)) B8.size (fun k hk=>by cases hk; omega);rw[Exit.noGoto_ret];refine⟨by simp,.inl ⟨_,_,rfl,run_takeDeferred jd,?_⟩⟩;refine⟨_,yf rfl _ _ (w.heap.size+1+1+1) rfl (cs:=#[Ez h9,Ex gW gr gP,Ez gO,Ex gJ gE gV,Ez gQ,Ex i4 gp gt,Ez i5,Ex gB gG i6,Ez gH,Ex gA gF gR,Ez i7,Ex gT gK gn,Ez gC,Ex gY gX gL,Ez gz,Ex i8 gD gI,Ex v2 v4 v3,Ez t1,Ex t2 t3 t4,Ez t5,Ex t6 t7 t8]) R8 Tryz.underlying70 rfl D7,?_⟩;refine⟨_,by rw[HE.out,WR mn]; rfl,?_,BX⟩;rw[HE.out,WR mn,hA,J,iE];exact cK.kg ((HM.out.ae I).row rz rfl (by simp[xW])) (g:=Z.heap.size+1) ⟨_,rz.bc (ms.out.ae I) D6⟩ (KG.put jd rfl)
open Go.RowKit Go.Shelf
def eF (l m:PL) (a b:List aU) (a9:Int) (wq s:Rat) (g:Nat) (W:Ef):Option (Nat×Nat)->Prop
 | none=>ai W g 70 xW
 | some x=>∃E,ai W g 70 E/\cK W (Ej E) (tX l m a b x) (pX l m a b a9 x) (oX l m a b a9 wq s x)
def D5:List Ei->Array Ei:=fun l=>match l with | [Ej c]=>c | _=>#[]
theorem eF.ae {l m:PL} {a b:List aU} {a9:Int} {wq s:Rat} {g:Nat} {W E:Ef} {e:Option (Nat×Nat)} (h:eF l m a b a9 wq s g W e) (st:zf W E):eF l m a b a9 wq s g E e:=by
 cases e with
 | none=>exact ai.ae h st
 | some x=>obtain⟨J,I,H⟩:=h; exact⟨J,I.ae st,H.ae st⟩
open Go.RowKit
variable {A R:Int} {l m:PL}
theorem ZK {O:Option Rat} {K:Bool} {most:Int} {off s least:Rat} (h:K=false\/zP l≠0\/zP m≠0\/most<0\/12<most\/¬zF R A m.length<1):qj K l m most R A off s least=(Um K l m,none):=by
 unfold qj Um
 by_cases h1:K=false
 . rw[E9 h1,E9 h1]
 rw[E_ h1,E_ h1];replace h:=h.resolve_left h1
 by_cases h2:zP l≠0
 . rw[E9 h2,E9 h2]
 rw[E_ h2,E_ h2];replace h:=h.resolve_left h2
 by_cases h3:zP m≠0
 . rw[E9 h3,E9 h3]
 rw[E_ h3,E_ h3];replace h:=h.resolve_left h3;rw[E9 (by rcases h with h | h | h; exact .inl h; exact .inr (.inl h); exact .inr (.inr h))]
theorem ZL (K:Bool) (l m:PL) (most R A:Int):(K=false\/zP l≠0\/zP m≠0\/most<0\/12<most\/¬zF R A m.length<1)\/(K=true/\zP l=0/\zP m=0/\0<=most/\most<=12/\zF R A m.length<1):=by
 by_cases h:K=false\/zP l≠0\/zP m≠0\/most<0\/12<most\/¬zF R A m.length<1
 . exact .inl h
 .
  right
  simp only[not_or,Bool.not_eq_false,Decidable.not_not]at h;exact⟨h.1,h.2.1,h.2.2.1,by omega,by omega,h.2.2.2.2.2⟩
theorem Vw {ua1 ua5 ub1 ub5 uc1 uc5:Bool} {ua2 ua6 ub2 ub6 uc2 uc6:Option Addr} {ua3 ua4 ua7 ua8 ub3 ub4 ub7 ub8 uc3 uc4 uc7 uc8:Nat} {O:Nat->Option Rat} {vl vm:Ei} (most:Int) (w:Ef) (M:FB w (Ej #[Ez ua1,Ex ua2 ua3 ua4,Ez ua5,Ex ua6 ua7 ua8]) (O 0)) (b1:FB w (Ej #[Ez ub1,Ex ub2 ub3 ub4,Ez ub5,Ex ub6 ub7 ub8]) (O 1)) (b2:FB w (Ej #[Ez uc1,Ex uc2 uc3 uc4,Ez uc5,Ex uc6 uc7 uc8]) (O 2)) (fw:kM O (yh ua3 ub3 uc3 uc3) (yh ua7 ub7 uc7 uc7) 3) (Z:bT w vl l) (Y:bT w vm m) (zl:l.length<=6\/(200<l.length/\l.length<=210)) (zm:m.length<=6\/(200<m.length/\m.length<=210)) :
  Ee Ed 31 #[vl,vm,Ey Ew most,Ej #[Ez ua1,Ex ua2 ua3 ua4,Ez ua5,Ex ua6 ua7 ua8,Ey Ew R,Ey Ew A,Ez ub1,Ex ub2 ub3 ub4,Ez ub5,Ex ub6 ub7 ub8,Ez uc1,Ex uc2 uc3 uc4,Ez uc5,Ex uc6 uc7 uc8]] w fun e w'=>∃v,e = Eh (Ev #[v,Ey Ew (qj (yu O (yh ua3 ub3 uc3 uc3) (yh ua7 ub7 uc7 uc7) R A ua1) l m most R A ((O 0).getD 0) ((O 1).getD 0) ((O 2).getD 0)).1])/\CV w' v l m (zO l most).2 (zO m most).2 R (yU ((O 1).getD 0) (zF R A m.length)) ((O 1).getD 0) (qj (yu O (yh ua3 ub3 uc3 uc3) (yh ua7 ub7 uc7 uc7) R A ua1) l m most R A ((O 0).getD 0) ((O 1).getD 0) ((O 2).getD 0)).2/\zf w w':=by
 rcases ZL (yu O (yh ua3 ub3 uc3 uc3) (yh ua7 ub7 uc7 uc7) R A ua1) l m most R A with h | ⟨H,X,J,h0,h1,hq⟩
 .
  rw[ZK (O:=none) h];refine(Jm most w M b1 b2 fw Z Y zl zm h).mono ?_;rintro e w' ⟨rfl,hs⟩;exact⟨_,rfl,rfl,hs⟩
 .
  rw[H];have E:=(zT.1 H).1;obtain⟨o0,T,-⟩:=yZ E fw 0 D6;obtain⟨o1,N,-⟩:=yZ E fw 1 D6;obtain⟨o2,I,-⟩:=yZ E fw 2 D6;rw[T,N,I];exact Kr most w M b1 b2 fw Z Y (by have:=qE X; omega) (by have:=qE J; omega) T N I H X J h0 h1 hq
open Go.RowKit
variable {p:List Int} {t:Option (Nat->Rat)} {v:Ei} {w w':Ef}
def eI (w:Ef) (v:Ei) (t:Option (Nat->Rat)) (p:List Int) (o:Option Rat):Prop:=∃E H ek I dt dl dy J ed M ce bf ec dk cy cg bh bg N cn Y dx Z bt cx be br T ci X cN dP xo xc bl bi cZ ah b9 d9 dc em,v = Ej #[Ez E,Ex H ek I,Ez dt,Ex dl dy J,Ez ed,Ex M ce bf,Ez ec,Ex dk cy cg,Ez bh,Ex bg N cn,Ez Y,Ex dx Z bt,Ez cx,Ex be br T,Ez ci,Ex X cN dP,Ex xo p.length xc,Ez bl,Ex bi cZ ah,Ez b9,Ex d9 dc em]/\cF w (Ej #[Ez E,Ex H ek I,Ez dt,Ex dl dy J,Ez ed,Ex M ce bf,Ez ec,Ex dk cy cg,Ez bh,Ex bg N cn,Ez Y,Ex dx Z bt,Ez cx,Ex be br T,Ez ci,Ex X cN dP]) t/\aF w (Ex xo p.length xc) p/\FO w (Ej #[Ez bl,Ex bi cZ ah,Ez b9,Ex d9 dc em]) o
theorem cK.u {t:Nat->Rat} {o:Rat} (h:cK w v t p o):eI w v (some t) p (some o):=by
 obtain⟨cs,u,d1,d2,d3,d4,d5,d6,d7,d8,e,h1,h2,h3⟩:=h;obtain⟨E,H,dt,I,cN,cy,d9,J,dl,M,bl,be,dk,cx,ci,br,bg,bf,N,ce,Z,cZ,ah,bi,cg,b9,bh,T,bt,Y,cn,dc,es⟩:=h1.fk;have X:cs=#[Ez E,Ex H dt I,Ez cN,Ex cy d9 J,Ez dl,Ex M bl be,Ez dk,Ex cx ci br,Ez bg,Ex bf N ce,Ez Z,Ex cZ ah bi,Ez cg,Ex b9 bh T,Ez bt,Ex Y cn dc]:=by injection es
 subst X;obtain⟨xo,xc,rfl⟩:=h2.ak;exact⟨_,_,_,_,_,_,_,_,_,_,_,_,_,_,_,_,_,_,_,_,_,_,_,_,_,_,_,_,_,_,_,_,_,_,_,_,_,_,_,_,_,_,by rw[e]; rfl,h1,h2,h3⟩
theorem cF.st (h:cF w v t) (s:zf w w'):cF w' v t:=by
 cases t with
 | none=>exact h
 | some t=>exact bY.af h (av.ae s)
theorem eI.ae {o:Option Rat} (h:eI w v t p o) (s:zf w w'):eI w' v t p o:=by
 obtain⟨E,H,ek,I,dt,dl,dy,J,ed,M,ce,bf,ec,dk,cy,cg,bh,bg,N,cn,Y,dx,Z,bt,cx,be,br,T,ci,X,cN,dP,xo,xc,bl,bi,cZ,ah,b9,d9,dc,em,e,h1,h2,h3⟩:=h;refine⟨E,H,ek,I,dt,dl,dy,J,ed,M,ce,bf,ec,dk,cy,cg,bh,bg,N,cn,Y,dx,Z,bt,cx,be,br,T,ci,X,cN,dP,xo,xc,bl,bi,cZ,ah,b9,d9,dc,em,e,?_,h2.ae s,h3.af (av.ae s)⟩
 cases t with
 | none=>exact h1
 | some t=>exact bY.af h1 (av.ae s)
end
section
open Go.RowKit
variable {ua1 ua5 ub1 ub5 uc1 uc5:Bool} {A R:Int} {ua3 ua4 ua7 ua8 ub3 ub4 ub7 ub8 uc3 uc4 uc7 uc8:Nat} {O:Nat->Option Rat} {ua2 ua6 ub2 ub6 uc2 uc6:Option Addr} {l m:PL} {vl vm:Ei}
theorem YS (h:l.length<=6):zP l=0\/zP l=8:=by
 unfold zP;rw[E_ D6]
 split
 . exact .inl rfl
 . exact .inr rfl
theorem Ks (most R A:Int) (off s least:Rat) (T:l.length<=6) (X:m.length<=6) :
  (∃e,qj true l m most R A off s least=(e,none)/\(e=6\/e=2\/e=8))\/
  ∃x,qj true l m most R A off s least=(0,some x)/\zP l=0/\zP m=0/\0<=most/\most<=12/\zF R A m.length<1/\x.1<(zO l most).2.length/\x.2<(zO m most).2.length/\¬oX l m (zO l most).2 (zO m most).2 R (yU s (zF R A m.length)) s x<least:=by
 rcases ZL true l m most R A with h | ⟨-,M,H,h0,N,E⟩
 .
  left
  refine⟨_,ZK (O:=none) h,?_⟩;have Z:=YS T;have Y:=YS X;unfold Um;rw[E_ D9]
  split
  .
   rcases Z with e | e
   . rename_i g; exact absurd e g
   . exact .inr (.inr e)
  .
   split
   .
    rcases Y with e | e
    . rename_i g; exact absurd e g
    . exact .inr (.inr e)
   . exact .inr (.inl rfl)
 .
  rw[YR M H h0 N E];obtain⟨z,J⟩:∃z,jL (oX l m (zO l most).2 (zO m most).2 R (yU s (zF R A m.length)) s) (ZJ (zO l most).2 (zO m most).2 off)=z:=⟨_,rfl⟩;rw[J]
  cases z with
  | none=>exact .inl ⟨6,rfl,.inl rfl⟩
  | some x=>
   unfold CW;dsimp only;have I:=Vv (XA J)
   split
   . exact .inl ⟨6,rfl,.inl rfl⟩
   .
    rename_i g
    exact .inr ⟨x,rfl,M,H,h0,N,E,I.1,I.2,g⟩
theorem X5 {w:Ef} {a1 H:Bool} {a2 M:Option Addr} {p q I N:Nat} {r:Rat} (h:FR w (Ej #[Ez a1,Ex a2 p I,Ez H,Ex M q N]) r) (z:sz r 15):aZ 16 (some r) p q=true:=by
 have E:bp 15<bp 16:=by decide
 exact h.aZ 16 (Int.lt_of_le_of_lt z.1 E) (by
                         have J:zi (r.den:Int)=(r.den:Int):=by unfold zi; omega
                         rw[J]; exact Int.lt_of_le_of_lt z.2 E)
theorem GJ {bf cx ce bl dc d9 bh dk:Bool} {dl cN Y ci bg cZ br cy:Option Addr} {M b9 X be J cn E Z I bt T ah H bi N cg:Nat} {t:Nat->Rat} (a9:Int) (w:Ef) (h:bY w (Ej #[Ez bf,Ex dl M b9,Ez cx,Ex cN X be,Ez ce,Ex Y J cn,Ez bl,Ex ci E Z,Ez dc,Ex bg I bt,Ez d9,Ex cZ T ah,Ez bh,Ex br H bi,Ez dk,Ex cy N cg]) t) (zt:∀i,i<4->sz (t i) 15) (hl:bT w vl l) (hm:bT w vm m) (ll:l.length<=1000) (lm:m.length<=1000) (c1:zP l=0) (c2:zP m=0) (r0:1<=a9) (r1:a9<=65536) :
  Ee Ed 23 #[Ej #[Ez bf,Ex dl M b9,Ez cx,Ex cN X be,Ez ce,Ex Y J cn,Ez bl,Ex ci E Z,Ez dc,Ex bg I bt,Ez d9,Ex cZ T ah,Ez bh,Ex br H bi,Ez dk,Ex cy N cg],vl,vm,Ey Ew a9] w fun e w'=>∃u,e = Eh (Ev #[u,Ey Ew 0])/\aF w' u (yy t (a9:Rat) l m l.length)/\zf w w':=by
 obtain⟨f0,f1,f2,f3⟩:=CY h
 have L:xq 16 (fun i=>some (t i)) (yh M J I H) (yh X E T N) 4=true:=by
  show ((((true&&_)&&_)&&_)&&_)=true
  rw[show aZ 16 (some (t 0)) (yh M J I H 0) (yh X E T N 0)=true from X5 f0 (zt 0 D6),show aZ 16 (some (t 1)) (yh M J I H 1) (yh X E T N 1)=true from X5 f1 (zt 1 D6),show aZ 16 (some (t 2)) (yh M J I H 2) (yh X E T N 2)=true from X5 f2 (zt 2 D6),show aZ 16 (some (t 3)) (yh M J I H 3) (yh X E T N 3)=true from X5 f3 (zt 3 D6)];rfl
 have FW:kM (fun i=>some (t i)) (yh M J I H) (yh X E T N) 4:=fun i hi=>by
  rcases(show i=0\/i=1\/i=2\/i=3 by omega)with rfl | rfl | rfl | rfl
  . exact f0.aD
  . exact f1.aD
  . exact f2.aD
  . exact f3.aD
 have:=Bi (O:=fun i=>some (t i)) a9 w f0 f1 f2 f3 FW hl hm ll lm;rw[L,c1,c2]at this
 have e:qi 0 0 true a9=0:=by
  unfold qi;rw[E_ D9,E_ D9,E_ D9,E_ D6]
 rw[e]at this;exact this
theorem Bt {n:Int} {E:Ei} {p:List Int} (w:Ef) (I:FB w (Ej #[Ez ua1,Ex ua2 ua3 ua4,Ez ua5,Ex ua6 ua7 ua8]) (O 0)) (b1:FB w (Ej #[Ez ub1,Ex ub2 ub3 ub4,Ez ub5,Ex ub6 ub7 ub8]) (O 1)) (b2:FB w (Ej #[Ez uc1,Ex uc2 uc3 uc4,Ez uc5,Ex uc6 uc7 uc8]) (O 2)) (fw:kM O (yh ua3 ub3 uc3 uc3) (yh ua7 ub7 uc7 uc7) 3) (J:yu O (yh ua3 ub3 uc3 uc3) (yh ua7 ub7 uc7 uc7) R A ua1=true) (M:aF w E p) (N:p.length<=200) (ok:YM p n p.length=true) (X:1<=n) (T:n<=200) (H:zF R A n<1) :
  Ee Ed 19 #[Ej #[Ez ua1,Ex ua2 ua3 ua4,Ez ua5,Ex ua6 ua7 ua8,Ey Ew R,Ey Ew A,Ez ub1,Ex ub2 ub3 ub4,Ez ub5,Ex ub6 ub7 ub8,Ez uc1,Ex uc2 uc3 uc4,Ez uc5,Ex uc6 uc7 uc8],E,Ey Ew n] w fun e w'=>∃v,e = Eh (Ev #[v,Ey Ew 0])/\FR w' v (jy (yU ((O 1).getD 0) (zF R A n)) ((O 1).getD 0) p)/\zf w w':=by
 have:=G4 (R:=R) (A:=A) (n:=n) w I b1 b2 fw M
 have e:qh (yu O (yh ua3 ub3 uc3 uc3) (yh ua7 ub7 uc7 uc7) R A ua1) p.length (YM p n p.length) n (decide (zF R A n<1))=0:=by
  unfold qh;rw[J,ok,E' H,E_ D9,E_ D6,E_ (by rintro ((h | h) | h); omega; omega; cases h),E_ D9]
 rw[e]at this;rw[<- VU];exact this
theorem Kt {J H:Nat->Nat} {neg:Bool} (X:yu O J H R A neg=true) (fw:kM O J H 3):(1<=R/\R<=65536/\1<=A/\A<=17592186044416)/\sz ((O 1).getD 0) 2/\∃r,O 2=some r/\(O 2).getD 0=r/\sz r 2:=by
 obtain⟨I,Y,-⟩:=zT.1 X;obtain⟨r1,T,M⟩:=yZ I fw 1 D6;obtain⟨r2,E,N⟩:=yZ I fw 2 D6;exact⟨Y,by rw[T]; exact M,r2,E,by rw[E]; rfl,N⟩
theorem Ku (most:Int) (w:Ef) (b0:FB w (Ej #[Ez ua1,Ex ua2 ua3 ua4,Ez ua5,Ex ua6 ua7 ua8]) (O 0)) (b1:FB w (Ej #[Ez ub1,Ex ub2 ub3 ub4,Ez ub5,Ex ub6 ub7 ub8]) (O 1)) (b2:FB w (Ej #[Ez uc1,Ex uc2 uc3 uc4,Ez uc5,Ex uc6 uc7 uc8]) (O 2)) (fw:kM O (yh ua3 ub3 uc3 uc3) (yh ua7 ub7 uc7 uc7) 3) (hl:bT w vl l) (hm:bT w vm m) (hK:yu O (yh ua3 ub3 uc3 uc3) (yh ua7 ub7 uc7 uc7) R A ua1=true) (zl:l.length<=6) (zm:m.length<=6) {x:Nat×Nat}
  (hS:qj true l m most R A ((O 0).getD 0) ((O 1).getD 0) ((O 2).getD 0)=(0,some x)) (c1:zP l=0) (c2:zP m=0) (h0:0<=most) (h1:most<=12) (hq:zF R A m.length<1) (x1:x.1<(zO l most).2.length) (x2:x.2<(zO m most).2.length) (ec:¬oX l m (zO l most).2 (zO m most).2 R (yU ((O 1).getD 0) (zF R A m.length)) ((O 1).getD 0) x<(O 2).getD 0) :
  ∃ (t:Nat->Rat) (p:List Int) (o:Rat) (qa:List aU) (f:Nat->Rat) (P:Nat->List Int) (y:Nat) (c:Int),p.length=l.length/\qa.length<=15/\y<qa.length/\f y=o/\0<=c/\
   (∀w',zf w w'->Ee Ed 31 #[vl,vm,Ey Ew most,Ej #[Ez ua1,Ex ua2 ua3 ua4,Ez ua5,Ex ua6 ua7 ua8,Ey Ew R,Ey Ew A,Ez ub1,Ex ub2 ub3 ub4,Ez ub5,Ex ub6 ub7 ub8,Ez uc1,Ex uc2 uc3 uc4,Ez uc5,Ex uc6 uc7 uc8]] w' fun e E=>∃v,e = Eh (Ev #[v,Ey Ew 0])/\cK E v t p o/\zf w' E)/\
   (∀w',zf w w'->∀ (b9 bg dt J cn ci cZ dx:Bool) (bi T X cg cN bh d9 Z:Option Addr) (dl ah Y cy dk bf be bl dc M ce cx br I bt N:Nat),bY w' (Ej #[Ez b9,Ex bi dl ah,Ez bg,Ex T Y cy,Ez dt,Ex X dk bf,Ez J,Ex cg be bl,Ez cn,Ex cN dc M,Ez ci,Ex bh ce cx,Ez cZ,Ex d9 br I,Ez dx,Ex Z bt N]) t->Ee Ed 23 #[Ej #[Ez b9,Ex bi dl ah,Ez bg,Ex T Y cy,Ez dt,Ex X dk bf,Ez J,Ex cg be bl,Ez cn,Ex cN dc M,Ez ci,Ex bh ce cx,Ez cZ,Ex d9 br I,Ez dx,Ex Z bt N],vl,vm,Ey Ew R] w' fun e E=>∃u,e = Eh (Ev #[u,Ey Ew 0])/\aF E u p/\zf w' E)/\
   (∀w' u,zf w w'->FR w' u o->Ee Ed 21 #[u,Ej #[Ez uc1,Ex uc2 uc3 uc4,Ez uc5,Ex uc6 uc7 uc8]] w' fun e E=>e = Eh (Ev #[Ey Ew c,Ey Ew 0])/\zf w' E)/\
   (∀w',zf w w'->Ee Ed 33 #[vl,Ey Ew most] w' fun e E=>∃u,e = Eh (Ev #[u,Ey Ew 0])/\dJ E u qa/\zf w' E)/\
   (∀i,∀w' v,aF w' v p->Ee Ed 34 #[v,Ej #[Ey Ew (qa.getD i zH).k0,Ey Ew (qa.getD i zH).k1,Ey Ew (qa.getD i zH).k2,Ey Ew (qa.getD i zH).k3]] w' fun e E=>∃u,e = Eh u/\aF E u (P i)/\zf w' E)/\
   (∀i,∀w' u,zf w w'->aF w' u (P i)->Ee Ed 19 #[Ej #[Ez ua1,Ex ua2 ua3 ua4,Ez ua5,Ex ua6 ua7 ua8,Ey Ew R,Ey Ew A,Ez ub1,Ex ub2 ub3 ub4,Ez ub5,Ex ub6 ub7 ub8,Ez uc1,Ex uc2 uc3 uc4,Ez uc5,Ex uc6 uc7 uc8],u,Ey Ew (m.length:Int)] w' fun e E=>∃v,e = Eh (Ev #[v,Ey Ew 0])/\FR E v (f i)/\zf w' E):=by
 obtain⟨H,z1,r2,e2,g2,z2⟩:=Kt hK fw;obtain⟨dy,ML⟩:=GI zl c1 h0 h1;obtain⟨-,MM⟩:=GI zm c2 h0 h1;obtain⟨j0,j1,j2,j3,k0,k1,k2,k3,y0,y1,y2,y3,dP⟩:=(ML x.1 x1).2.ex;obtain⟨i0,i1,i2,i3,m0,m1,m2,m3,q0,q1,q2,q3,ek⟩:=(MM x.2 x2).2.ex;have er:1<=m.length:=D6
 have zt:∀i,i<4->sz (tX l m (zO l most).2 (zO m most).2 x i) 15:=fun i hi=>by
  have e:tX l m (zO l most).2 (zO m most).2 x=v_ (pt l j0) (pt l j1) (pt m i0) (pt m i1):=by unfold tX; rw[k0,k1,m0,m1]; rfl
  rw[e];exact Vs (y9 c1 j0 y0) (y9 c1 j1 y1) (y9 c2 i0 q0) (y9 c2 i1 q1) dP i hi
 have ed:sz (yU ((O 1).getD 0) (zF R A m.length)) 20:=Z6 z1 (jJ H.1 H.2.1 H.2.2.1 H.2.2.2 (show (0:Int)<=(m.length:Int) by omega) D6).1 (Rat.ne_of_gt (jX H.1 H.2.2.1 D6));have zo:=WW (l:=l) (m:=m) (a:=(zO l most).2) (b:=(zO m most).2) (R:=R) x ed z1 zl;have hp:=WN l m (zO l most).2 (zO m most).2 R x;have a1:(zO l most).1=0:=by unfold zO; rw[E_ (by rw[c1]; simp),E_ D6]
 refine⟨tX l m (zO l most).2 (zO m most).2 x,pX l m (zO l most).2 (zO m most).2 R x,oX l m (zO l most).2 (zO m most).2 R (yU ((O 1).getD 0) (zF R A m.length)) ((O 1).getD 0) x,(zO l most).2,
  fun i=>jy (yU ((O 1).getD 0) (zF R A m.length)) ((O 1).getD 0) (wo (pX l m (zO l most).2 (zO m most).2 R x) (ZQ ((zO l most).2.getD i zH).k0 ((zO l most).2.getD i zH).k1 ((zO l most).2.getD i zH).k2 ((zO l most).2.getD i zH).k3) (pX l m (zO l most).2 (zO m most).2 R x).length),
  fun i=>wo (pX l m (zO l most).2 (zO m most).2 R x) (ZQ ((zO l most).2.getD i zH).k0 ((zO l most).2.getD i zH).k1 ((zO l most).2.getD i zH).k2 ((zO l most).2.getD i zH).k3) (pX l m (zO l most).2 (zO m most).2 R x).length,
  x.1,z9 (oX l m (zO l most).2 (zO m most).2 R (yU ((O 1).getD 0) (zF R A m.length)) ((O 1).getD 0) x) ((O 2).getD 0),hp,dy,x1,?_,?_,fun w' s=> ?_,fun w' s=> ?_,fun w' u s h=> ?_,fun w' s=> ?_,fun i w' v h=> ?_,fun i w' u s h=> ?_⟩
 .
  dsimp only;rw[Vm,hp];rfl
 . exact Int.not_lt.1 fun h=>ec (bj.1 h)
 .
  have:=Vw (R:=R) (A:=A) most w' (b0.af (av.ae s)) (b1.af (av.ae s)) (b2.af (av.ae s)) fw (hl.ae s) (hm.ae s) (.inl zl) (.inl zm);rw[hK,hS]at this;exact this
 .
  intro b9 bg dt J cn ci cZ dx bi T X cg cN bh d9 Z dl ah Y cy dk bf be bl dc M ce cx br I bt N h;exact GJ R w' h zt (hl.ae s) (hm.ae s) D6 D6 c1 c2 H.1 H.2.1
 .
  have h2:FR w' (Ej #[Ez uc1,Ex uc2 uc3 uc4,Ez uc5,Ex uc6 uc7 uc8]) r2:=by
   have:=b2.af (av.ae s);rw[e2]at this;exact this
  rw[g2];exact UX w' h h2 zo z2 D6
 .
  have:=Dg most w' (hl.ae s) D6 (fun _ _=>by omega);unfold cG at this;rw[a1]at this;exact this
 . exact Wy _ _ _ _ w' h (by rw[hp]; omega)
 .
  have ok:=CI (out:=ZQ ((zO l most).2.getD i zH).k0 ((zO l most).2.getD i zH).k1 ((zO l most).2.getD i zH).k2 ((zO l most).2.getD i zH).k3) (Jj (tX l m (zO l most).2 (zO m most).2 x) (R:Rat) l m);have em:=Ke (pX l m (zO l most).2 (zO m most).2 R x) (ZQ ((zO l most).2.getD i zH).k0 ((zO l most).2.getD i zH).k1 ((zO l most).2.getD i zH).k2 ((zO l most).2.getD i zH).k3) (pX l m (zO l most).2 (zO m most).2 R x).length;exact Bt (R:=R) (A:=A) w' (b0.af (av.ae s)) (b1.af (av.ae s)) (b2.af (av.ae s)) fw hK h D6 ok D6 D6 hq
def X6 (f:Nat->Rat) (o:Rat):Nat->Bool
 | 0=>false
 | i+1=>X6 f o i||decide (f i=o)
theorem GK {f:Nat->Rat} {o:Rat} {i:Nat} (h:f i=o):∀n,i<n->X6 f o n=true:=by
 intro n E
 induction n with
 | zero=>omega
 | succ n ih=>
  unfold X6
  rcases Nat.lt_or_ge i n with g | g
  . rw[ih g]; rfl
  .
   obtain rfl:i=n:=D6
   rw[E' h,Bool.or_true]
def DU (n:Nat) (x:Ei):Prop:=∃a c,x = Ex a n c
set_option maxHeartbeats 6400000 in
set_option maxRecDepth 1000000 in
theorem Kv (most:Int) (w:Ef) (b0:FB w (Ej #[Ez ua1,Ex ua2 ua3 ua4,Ez ua5,Ex ua6 ua7 ua8]) (O 0)) (b1:FB w (Ej #[Ez ub1,Ex ub2 ub3 ub4,Ez ub5,Ex ub6 ub7 ub8]) (O 1)) (b2:FB w (Ej #[Ez uc1,Ex uc2 uc3 uc4,Ez uc5,Ex uc6 uc7 uc8]) (O 2)) (fw:kM O (yh ua3 ub3 uc3 uc3) (yh ua7 ub7 uc7 uc7) 3) (hl:bT w vl l) (hm:bT w vm m) :
  Ee Ed 8 #[vl,vm,Ey Ew most,Ej #[Ez ua1,Ex ua2 ua3 ua4,Ez ua5,Ex ua6 ua7 ua8,Ey Ew R,Ey Ew A,Ez ub1,Ex ub2 ub3 ub4,Ez ub5,Ex ub6 ub7 ub8,Ez uc1,Ex uc2 uc3 uc4,Ez uc5,Ex uc6 uc7 uc8]] w fun e w'=>e = Eh (Ez true)/\zf w w':=by
 have CK:=fun w' (s:zf w w')=>GD (R:=R) (A:=A) w' (b0.af (av.ae s)) (b1.af (av.ae s)) (b2.af (av.ae s)) fw;obtain⟨al,cl,rfl⟩:=hl.ak;obtain⟨am,cm,rfl⟩:=hm.ak;obtain⟨K,hK⟩:∃z,yu O (yh ua3 ub3 uc3 uc3) (yh ua7 ub7 uc7 uc7) R A ua1=z:=⟨_,rfl⟩;rw[hK]at CK;obtain⟨KE,ce⟩:∃z,Zf K=z:=⟨_,rfl⟩;rw[ce]at CK
 have gI:(K=true/\KE=0)\/(K=false/\KE=8):=by
  cases K with
  | true=>exact .inl ⟨rfl,ce.symm⟩
  | false=>exact .inr ⟨rfl,ce.symm⟩
 have HB:=E7 (E8 b0 (E8 b1 (E8 b2 (E8 fw hK))));have HP:=E7 (E8 hl hm);obtain⟨nl,dc⟩:∃n,l.length=n:=⟨_,rfl⟩;obtain⟨nm,cy⟩:∃n,m.length=n:=⟨_,rfl⟩;have HN:=E7 (E8 dc cy);rw[dc]at HP|-;rw[cy]at HP|-;clear b0 b1 b2 fw hl hm dc cy hK ce
 go_enter Tryz.func8,Tryz.ntmps8
 go_wp2_with fail
 refine(Wx _).mono ?_;rintro e w1 ⟨rfl,d9⟩;have B:Below w.heap.size w w1:=yI d9;have Z:ai w1 w.heap.size 45 #[Ez ua1,Ex ua2 ua3 ua4,Ez ua5,Ex ua6 ua7 ua8,Ey Ew R,Ey Ew A,Ez ub1,Ex ub2 ub3 ub4,Ez ub5,Ex ub6 ub7 ub8,Ez uc1,Ex uc2 uc3 uc4,Ez uc5,Ex uc6 uc7 uc8]:=ai.au d9;clear d9
 go_upto_region 2 with fail
 go_cut [43] (fun c wx=>(c = Ez true\/(c = Ez false/\nl<=6/\nm<=6/\most<=5/\K=true))/\ai wx w.heap.size 45 #[Ez ua1,Ex ua2 ua3 ua4,Ez ua5,Ex ua6 ua7 ua8,Ey Ew R,Ey Ew A,Ez ub1,Ex ub2 ub3 ub4,Ez ub5,Ex ub6 ub7 ub8,Ez uc1,Ex uc2 uc3 uc4,Ez uc5,Ex uc6 uc7 uc8]/\Below w.heap.size w wx)
 case first=>
  refine wp_region_lit ?_
  rcases(show ((6:Int)<(nl:Int))\/(¬(6:Int)<(nl:Int)/\(6:Int)<(nm:Int))\/(¬(6:Int)<(nl:Int)/\¬(6:Int)<(nm:Int)/\5<most)\/(¬(6:Int)<(nl:Int)/\¬(6:Int)<(nm:Int)/\¬5<most) by omega)with m1 | ⟨m1,m2⟩ | ⟨m1,m2,m3⟩ | ⟨m1,m2,m3⟩
  .
   repeat' (first | go_values | go_skip | go_guarded | go_step | go_upon)
   go_meet
   exact⟨.inl rfl,Z,B⟩
  .
   repeat' (first | go_values | go_skip | go_guarded | go_step | go_upon)
   go_meet
   exact⟨.inl rfl,Z,B⟩
  .
   repeat' (first | go_values | go_skip | go_guarded | go_step | go_upon)
   go_meet
   exact⟨.inl rfl,Z,B⟩
  .
   repeat' (first | ((with_reducible show wpList _ _ _ (⟨some 36,_,_,_,_,_⟩::_) _ _); refine Zt rfl 45 (.tmp 7) rfl w.heap.size rfl 45 #[Ez ua1,Ex ua2 ua3 ua4,Ez ua5,Ex ua6 ua7 ua8,Ey Ew R,Ey Ew A,Ez ub1,Ex ub2 ub3 ub4,Ez ub5,Ex ub6 ub7 ub8,Ez uc1,Ex uc2 uc3 uc4,Ez uc5,Ex uc6 uc7 uc8] _ Z Tryz.underlying45 rfl D7 ?_) | go_values | go_skip | go_guarded | go_step | go_upon)
   refine(CK _ B).mono ?_;rintro e w2 ⟨rfl,dk⟩;replace Z:=Z.ae dk;replace B:Below w.heap.size w w2:=zA B (Ep _) dk;clear dk CK;dsimp only
   rcases gI with⟨rfl,rfl⟩ | ⟨rfl,rfl⟩
   .
    repeat' (first | go_values | go_skip | go_guarded | go_step | go_upon)
    go_meet
    exact⟨.inr ⟨rfl,by omega,by omega,by omega,rfl⟩,Z,B⟩
   .
    repeat' (first | go_values | go_skip | go_guarded | go_step | go_upon)
    go_meet
    exact⟨.inl rfl,Z,B⟩
 case rest=>
  obtain⟨hc,Z,B⟩:=hcut;clear CK gI
  rcases hc with rfl | ⟨rfl,zl,zm,hm5,rfl⟩
  .
   go_wp2_with fail
   go_returns
   exact⟨rfl,B⟩
  .
   have bh:l.length<=6:=by rw[HN.out.1]; exact zl
   have bi:m.length<=6:=by rw[HN.out.2]; exact zm
   have SA:=fun w' (s:zf w w')=>Vw (R:=R) (A:=A) most w' (HB.out.1.af (av.ae s)) (HB.out.2.1.af (av.ae s)) (HB.out.2.2.1.af (av.ae s)) HB.out.2.2.2.1 (HP.out.1.ae s) (HP.out.2.ae s) (.inl bh) (.inl bi)
   rcases Ks most R A ((O 0).getD 0) ((O 1).getD 0) ((O 2).getD 0) bh bi with⟨E,hS,hE⟩ | ⟨x,hS,c1,c2,h0,h1,hq,x1,x2,hge⟩
   .
    simp only[HB.out.2.2.2.2,hS]at SA;clear hS bh bi
    go_upto_region 4 with fail
    refine wp_region_lit ?_
    repeat' (first | ((with_reducible show wpList _ _ _ (⟨some 49,_,_,_,_,_⟩::_) _ _); refine yg rfl 45 (.tmp 7) rfl w.heap.size rfl 45 #[Ez ua1,Ex ua2 ua3 ua4,Ez ua5,Ex ua6 ua7 ua8,Ey Ew R,Ey Ew A,Ez ub1,Ex ub2 ub3 ub4,Ez ub5,Ex ub6 ub7 ub8,Ez uc1,Ex uc2 uc3 uc4,Ez uc5,Ex uc6 uc7 uc8] _ Z Tryz.underlying45 rfl D7 ?_) | go_values | go_skip | go_guarded | go_step | go_upon)
    refine(SA _ B).mono ?_;rintro e w4 ⟨v4,rfl,hM,ah⟩;obtain rfl:v4 = Ej xW:=hM;have B4:=zA B (Ep _) ah;clear SA Z ah B;dsimp only
    rcases hE with rfl | rfl | rfl
    all_goals repeat' (first | ((with_reducible show wpList _ _ _ (⟨none,.store _ _ _,_,_,_,_⟩::_) _ _); refine zL rfl 70 (.tmp 10) (.tmp 51) rfl w4.heap.size xW rfl rfl 70 xW zC D7 rfl (by simp[xW,Value.oneCell']) (fun wz rz=> ?_); have p1:=rz.bI; have bt:=p1.c 16 rfl; have ln:=p1.lt; have Y:=rz.below (B4.alloc B4.size _) B4.size) | go_values | go_skip | go_guarded | go_step | go_upon)
    all_goals go_returns
    all_goals exact⟨rfl,Y⟩
   .
    obtain⟨t,p,o,qa,f,P,y,c,hp,gY,hy,T,i7,SA,PR,CP,AL,WI,DI⟩:=Ku (R:=R) (A:=A) most w HB.out.1 HB.out.2.1 HB.out.2.2.1 HB.out.2.2.2.1 HP.out.1 HP.out.2 HB.out.2.2.2.2 bh bi hS c1 c2 h0 h1 hq x1 x2 hge;rw[HN.out.1]at hp;simp only[HN.out.2]at DI;have hF:X6 f o qa.length=true:=GK T _ hy;obtain⟨nq,cZ⟩:∃n,qa.length=n:=⟨_,rfl⟩;rw[cZ]at hF hy gY;have HQ:=E7 (E8 hp (E8 cZ (E8 hF (E8 WI DI))));clear hS c1 c2 h0 h1 hq x1 x2 hge bh bi hF T WI DI
    go_upto_region 4 with fail
    refine wp_region_lit ?_
    repeat' (first | ((with_reducible show wpList _ _ _ (⟨some 49,_,_,_,_,_⟩::_) _ _); refine yg rfl 45 (.tmp 7) rfl w.heap.size rfl 45 #[Ez ua1,Ex ua2 ua3 ua4,Ez ua5,Ex ua6 ua7 ua8,Ey Ew R,Ey Ew A,Ez ub1,Ex ub2 ub3 ub4,Ez ub5,Ex ub6 ub7 ub8,Ez uc1,Ex uc2 uc3 uc4,Ez uc5,Ex uc6 uc7 uc8] _ Z Tryz.underlying45 rfl D7 ?_) | go_values | go_skip | go_guarded | go_step | go_upon)
    refine(SA _ B).mono ?_;rintro e w4 ⟨v4,rfl,hM,ah⟩;obtain⟨em,gA,eM,gi,gV,gT,gW,gB,g9,gd,gF,gM,g8,fl,fe,gO,gN,eW,gj,gQ,ey,gz,gJ,fd,gp,eS,f8,er,gP,gH,gr,ft,xo,xc,ip,iv,ig,ij,iu,ir,it,iB,rfl,S4,I4,F4⟩:=hM.u;rw[hp]at I4|-;have cN:=Z.ae ah;have i5:=cN.lt;have B4:=zA B (Ep _) ah;clear SA Z ah B hM;dsimp only
    repeat' (first | ((with_reducible show wpList _ _ _ (⟨none,.store _ _ _,_,_,_,_⟩::_) _ _); refine zL rfl 70 (.tmp 10) (.tmp 51) rfl w4.heap.size #[Ez em,Ex gA eM gi,Ez gV,Ex gT gW gB,Ez g9,Ex gd gF gM,Ez g8,Ex fl fe gO,Ez gN,Ex eW gj gQ,Ez ey,Ex gz gJ fd,Ez gp,Ex eS f8 er,Ez gP,Ex gH gr ft,Ex xo nl xc,Ez ip,Ex iv ig ij,Ez iu,Ex ir it iB] rfl rfl 70 xW zC D7 rfl (by simp[xW,Value.oneCell']) (fun wz rz=> ?_); have p1:=rz.bI; have s4:zf w4 wz:=rz.below ((Fz _ _).alloc (Ep _) _) (Ep _); have I:=rz.bc (cN.alloc _) D6; have r4:=I.c 4 rfl; have l7:=I.lt; have l1:=p1.lt) | ((with_reducible show wpList _ _ _ (⟨some 76,_,_,_,_,_⟩::_) _ _); refine kK rfl 30 (.tmp 75) rfl w4.heap.size 0 rfl #[Ez em,Ex gA eM gi,Ez gV,Ex gT gW gB,Ez g9,Ex gd gF gM,Ez g8,Ex fl fe gO,Ez gN,Ex eW gj gQ,Ez ey,Ex gz gJ fd,Ez gp,Ex eS f8 er,Ez gP,Ex gH gr ft] _ (fun j J=>by rw[Nat.zero_add,p1.cell j]; exact(Vt J).symm) Tryz.underlying30 rfl D7 ?_) | go_values | go_skip | go_guarded | go_step | go_upon)
    have Y:=zA B4 (Ep _) s4;have I5:=I4.ae s4;have F5:FR wz _ o:=FR.ae F4 s4;refine(PR wz Y _ _ _ _ _ _ _ _ _ _ _ _ _ _ _ _ _ _ _ _ _ _ _ _ _ _ _ _ _ _ _ _ (bY.af S4 (av.ae s4))).mono ?_;rintro e w5 ⟨u5,rfl,J5,b9⟩;obtain⟨uo,ud,rfl⟩:=J5.ak;rw[hp]at J5|-;replace p1:=p1.ae b9;replace I:=I.ae b9;replace Y:=zA Y (Ep _) b9;replace I5:=I5.ae b9;replace F5:=F5.ae b9;clear PR S4 I4 F4 s4 b9 cN i5 B4 rz r4 l7 l1;generalize w4.heap.size=g1 at *;have bt:=p1.c 16 rfl;have dP:=p1.c 17 rfl;have dl:=p1.c 18 rfl;have ed:=p1.c 19 rfl;have dt:=p1.c 20 rfl;have ln:=p1.lt;have eV:=I.c 10 rfl;have eT:=I.c 11 rfl;have eU:=I.c 12 rfl;have dA:=I.c 13 rfl;have l7:=I.lt;dsimp only
    repeat' (first | go_values | go_skip | go_guarded | go_step | go_upon)
    refine(CP _ _ Y F5).mono ?_;rintro e w6 ⟨rfl,X⟩;replace p1:=p1.ae X;replace I:=I.ae X;replace Y:=zA Y (Ep _) X;replace I5:=I5.ae X;replace J5:=J5.ae X;replace F5:=F5.ae X;clear CP X bt dP dl ed dt ln eV eT eU dA l7;have bt:=p1.c 16 rfl;have ln:=p1.lt;have i8:¬c<0:=D6
    dsimp only
    repeat' (first | go_values | go_skip | go_guarded | go_step | go_upon)
    refine(Uj _ J5 I5 D6).mono ?_;rintro e w7 ⟨rfl,be⟩;replace p1:=p1.ae be;replace I:=I.ae be;replace Y:=zA Y (Ep _) be;replace J5:=J5.ae be;replace F5:=F5.ae be;clear be bt ln I5;dsimp only
    repeat' (first | go_values | go_skip | go_guarded | go_step | go_upon)
    refine(AL _ Y).mono ?_;rintro e w8 ⟨v8,rfl,iA,bf⟩;obtain⟨qo,qd,rfl,ik,CS,dx,br⟩:=iA;rw[cZ]at dx br ik|-;replace p1:=p1.ae bf;replace I:=I.ae bf;replace Y:=zA Y (Ep _) bf;replace J5:=J5.ae bf;replace F5:=F5.ae bf;obtain⟨qb,M,rfl,bg,br⟩:=br D6;have HC:=E7 (E8 dx br);clear bf AL dx br i8 i7;dsimp only;go_wp2_with fail
    go_loopw [18,19] (fun ff kk wr=>∃i:Nat,i<=nq/\ff = Ez (X6 f o i)/\kk = Ey Ew i/\zf w8 wr) (fun _ kk _=>nq-(intOf kk).toNat)
    case atStart=>exact⟨0,by omega,rfl,rfl,Fz _ _⟩
    case round=>
     obtain⟨i,hi,rfl,rfl,st⟩:=hrel
     rcases Nat.lt_or_ge i nq with i4 | i4
     .
      have gC:decide ((i:Int)<(nq:Int))=true:=E' D6;have cg:=E7 i4;have hk:=(HC.out.1 i i4).2.2.1;have bl:=HC.out.2 i i4;have q0:wr.cell? ⟨qb,M+i*20,none⟩=some (Ey Ew (qa.getD i zH).k0):=(st.cell (p:=⟨qb,_,none⟩) bg).trans ((bl 0 D6).trans (hk 0 D6));have q1:wr.cell? ⟨qb,M+i*20+1,none⟩=some (Ey Ew (qa.getD i zH).k1):=(st.cell (p:=⟨qb,_,none⟩) bg).trans ((bl 1 D6).trans (hk 1 D6));have q2:wr.cell? ⟨qb,M+i*20+2,none⟩=some (Ey Ew (qa.getD i zH).k2):=(st.cell (p:=⟨qb,_,none⟩) bg).trans ((bl 2 D6).trans (hk 2 D6));have q3:wr.cell? ⟨qb,M+i*20+3,none⟩=some (Ey Ew (qa.getD i zH).k3):=(st.cell (p:=⟨qb,_,none⟩) bg).trans ((bl 3 D6).trans (hk 3 D6));have cn:qb<wr.heap.size:=Nat.lt_of_lt_of_le bg st.size;have W1:=HQ.out.2.2.2.1 i;have D1:=HQ.out.2.2.2.2 i;obtain⟨a0,gD⟩:∃z,(qa.getD i zH).k0=z:=⟨_,rfl⟩;obtain⟨a1,gL⟩:∃z,(qa.getD i zH).k1=z:=⟨_,rfl⟩;obtain⟨a2,gE⟩:∃z,(qa.getD i zH).k2=z:=⟨_,rfl⟩;obtain⟨a3,gt⟩:∃z,(qa.getD i zH).k3=z:=⟨_,rfl⟩;rw[gD]at q0 W1;rw[gL]at q1 W1;rw[gE]at q2 W1;rw[gt]at q3 W1;have B9:=zA Y (Ep _) st;have gX:=I.ae st;have J9:=J5.ae st;clear hk bl gD gL gE gt hi;have iC:(i:Int)<(nq:Int):=D6
      obtain⟨FI,dy⟩:∃z,X6 f o i=z:=⟨_,rfl⟩;have gk:=E7 dy;rw[dy];clear dy
      go_upto_region 16 with fail
      refine aj.bW (fun N0 D v W=>Below wr.heap.size wr W/\N0<=W.heap.size/\(D 7=true->D 10=false->aF W (v 7) (P i))/\(D 14=true->∃g:Nat,v 14 = Ek (some ⟨g,0,none⟩)/\N0<=g/\g<W.heap.size/\(D 15=false->ai W g 28 jN)/\(D 15=true->D 10=true/\∃cs e,v 10 = Ev #[Ej cs,e]/\ai W g 28 cs)))
       (aj.inl [7,10,14,15]) (aj.gv [(7,Hn),(10,UN 0),(14,jE)]) (gw [(10,cT (f i) 0)]) (fun _=>av) (fun _ _=>False) (aj.pl [(10,[(7,some 133)]),(15,[(10,some 136),(14,some 20)]),(17,[(7,some 133),(10,some 136),(14,some 20)])]) (aj.pl [(7,[10]),(14,[15]),(10,[15])])
       D7 D7 D7 (aj.aY _ (by intro p hp; simp only[List.mem_cons,List.not_mem_nil,or_false]at hp; rcases hp with rfl | rfl | rfl; exact⟨_,none,0,0,rfl⟩; exact⟨_,false,none,0,0,false,none,0,0,rfl⟩; exact⟨_,0,rfl⟩)) (fun N0 ek=>⟨fun v=> ?_,fun D v v' W hv J=> ?_,fun D v k j W W' x _ _ _ _ hk hg=>qN _ (by intro p hp; simp only[List.mem_cons,List.not_mem_nil,or_false]at hp; rcases hp with rfl; exact cT.af) hk hg,fun _ _ _ _ h=>h.elim,fun gn Q' H hQ=> ?_⟩)
      . exact⟨zh,Do ek,fun h=>Bool.noConfusion h,fun h=>Bool.noConfusion h⟩
      .
       obtain⟨j0,jn,ji,ja⟩:=J;exact⟨j0,jn,fun h1 h2=>(hv 7 h1)▸ji h1 h2,fun h=>by obtain⟨g,e1,e2,e3,e4,e5⟩:=ja h; exact⟨g,(hv 14 h)▸e1,e2,e3,e4,fun h=>by obtain⟨d,cs,e,ee,hb⟩:=e5 h; exact⟨d,cs,e,(hv 10 d)▸ee,hb⟩⟩⟩
      have iw:wr.heap.size<=N0:=by have e:=ek.out; (try simp only[World.size_drew]at e); omega
      clear ek;refine aj.b_ H 126 (fun _ _ _ _ J=>gX.ae J.1) ?_ (h:=fun W' T K hK=>by refine wp_load_row 45 (.tmp 7) rfl w.heap.size rfl 45 #[Ez ua1,Ex ua2 ua3 ua4,Ez ua5,Ex ua6 ua7 ua8,Ey Ew R,Ey Ew A,Ez ub1,Ex ub2 ub3 ub4,Ez ub5,Ex ub6 ub7 ub8,Ez uc1,Ex uc2 uc3 uc4,Ez uc5,Ex uc6 uc7 uc8] (0,0) _ T Tryz.underlying45 rfl D7 ?_; exact hK.out);refine aj.aB (b:=⟨#[_,_,_,_,_,_,_,_,_,_,_,_,_,_,_,_,_,_,_,_,_,_,_,_,_,_,_,_,_,_,_,_,_,_,_,_,_,_,_,_,_,_,_,_,_,_,_,_,_,_,_,_,_,_,_,_,_,_,_,_,_,_,_,_,_,_,_,_,_,_,_,_,_,_,_,_,_,_,_,_,_,_,_,_,_,_,_,_,_,_,_,_,_,_,_,_,_,_,_,_,_,_,_,_,_,_,_,_,_,_,_,_,_,_,_,_,_,_,_,_,_,_,_,_,_,_,_,_,_,_,_,_,_,_,_,_,_,_,_,_,_,_,_,_,_,_,_,_,_,_,_,_,_,_],_⟩) rfl ?_
      iterate 5 refine aj.RQ H _ ?_
      refine aj.b_ H 132 (fun _ _ _ _ J=>E8 ((J.1.cell (p:=⟨qb,M+i*20,none⟩) cn).trans q0) (E8 ((J.1.cell (p:=⟨qb,M+i*20+1,none⟩) cn).trans q1) (E8 ((J.1.cell (p:=⟨qb,M+i*20+2,none⟩) cn).trans q2) ((J.1.cell (p:=⟨qb,M+i*20+3,none⟩) cn).trans q3)))) ?_;refine aj.aC rfl (ve rfl) (by rw[H]; rfl) (fun D v' W' hc J T K hK=> ?_) ?_
      .
       obtain⟨j0,jn,ji,ja⟩:=J;go_step;refine(W1 W' _ (J9.ae j0)).mono ?_;rintro e W2 ⟨u,rfl,hu,N⟩;obtain⟨iF,iE,rfl⟩:=hu.ak;exact hK.out _ W2 (av.ae N) ⟨YX j0 N,Jn jn N,fun _ _=>hu,fun h=>by obtain⟨g,e1,e2,e3,e4,e5⟩:=ja h; exact⟨g,e1,e2,Nat.lt_of_lt_of_le e3 N.size,fun h=>(e4 h).ae N,fun h=>by obtain⟨d,cs,e,ee,hb⟩:=e5 h; exact⟨d,cs,e,ee,hb.ae N⟩⟩⟩ trivial ⟨_,_,_,rfl⟩
      rintro _ ⟨s1,s2,s3,rfl⟩;refine aj.aB (b:=⟨#[_,_,_,_,_,_,_,_,_,_,_,_,_,_,_,_,_,_,_,_,_,_,_,_,_,_,_,_,_,_,_,_,_,_,_,_,_,_,_,_,_,_,_,_,_,_,_,_,_,_,_,_,_,_,_,_,_,_,_,_,_,_,_,_,_,_,_,_,_,_,_,_,_,_,_,_,_,_,_,_,_,_,_,_,_,_,_,_,_,_,_,_,_,_,_,_,_,_,_,_,_,_,_,_,_,_,_,_,_,_,_,_,_,_,_,_,_,_,_,_,_,_,_,_,_,_,_,_,_,_,_,_,_,_,_,_,_,_,_,_,_,_,_,_,_,_,_,_,_,_,_,_,_,_],_⟩) rfl ?_
      iterate 2 refine aj.RQ H _ ?_
      refine aj.aC rfl (ve rfl) (by rw[H]; rfl) (fun D v' W' hc J T K hK=> ?_) ?_
      .
       obtain⟨j0,jn,ji,ja⟩:=J;have f7:=T (7,some 133) (.head _) rfl;have f9:=ji f7.1 hc.1;rw[show v' 7 = Ex s1 s2 s3 from f7.2.1]at f9;clear T f7;go_step;refine(D1 W' _ (zA B9 (Ep _) j0) f9).mono ?_;rintro e W2 ⟨u,rfl,hF,N⟩;obtain⟨t1,t2,t3,t4,t5,t6,t7,t8,rfl⟩:=hF.ak;exact hK.out _ W2 (av.ae N) ⟨YX j0 N,Jn jn N,fun _ h=>Bool.noConfusion h,fun h=>by obtain⟨g,e1,e2,e3,e4,e5⟩:=ja h; exact⟨g,e1,e2,Nat.lt_of_lt_of_le e3 N.size,fun h=>(e4 h).ae N,fun h=>Bool.noConfusion ((hc.2 15 D8).symm.trans h)⟩⟩ ⟨_,rfl,hF⟩ ⟨_,_,_,_,_,_,_,_,rfl⟩
      rintro _ ⟨t1,t2,t3,t4,t5,t6,t7,t8,rfl⟩;refine aj.aB (b:=⟨#[_,_,_,_,_,_,_,_,_,_,_,_,_,_,_,_,_,_,_,_,_,_,_,_,_,_,_,_,_,_,_,_,_,_,_,_,_,_,_,_,_,_,_,_,_,_,_,_,_,_,_,_,_,_,_,_,_,_,_,_,_,_,_,_,_,_,_,_,_,_,_,_,_,_,_,_,_,_,_,_,_,_,_,_,_,_,_,_,_,_,_,_,_,_,_,_,_,_,_,_,_,_,_,_,_,_,_,_,_,_,_,_,_,_,_,_,_,_,_,_,_,_,_,_,_,_,_,_,_,_,_,_,_,_,_,_,_,_,_,_,_,_,_,_,_,_,_,_,_,_,_,_,_,_],_⟩) rfl ?_
      iterate 3 refine aj.RQ H _ ?_
      refine aj.aC rfl (ve rfl) (by rw[H]; rfl) (fun D v' W' hc J T K hK=> ?_) ?_
      .
       obtain⟨j0,jn,ji,ja⟩:=J;go_step;have N:∀o:Obj,zf W' (W'.alloc o):=fun o=>(Fz _ _).alloc (Ep _) o;exact hK.out _ _ (av.ae (N _)) ⟨YX j0 (N _),Jn jn (N _),fun h1 h2=>(ji h1 h2).ae (N _),fun _=>⟨W'.heap.size,rfl,jn,by rw[World.size_alloc]; omega,fun _=>ai.new _ _ _,fun h=>Bool.noConfusion ((hc.2 15 D8).symm.trans h)⟩⟩ trivial ⟨_,rfl⟩
      rintro _ ⟨p20,rfl⟩;refine aj.aB (b:=⟨#[_,_,_,_,_,_,_,_,_,_,_,_,_,_,_,_,_,_,_,_,_,_,_,_,_,_,_,_,_,_,_,_,_,_,_,_,_,_,_,_,_,_,_,_,_,_,_,_,_,_,_,_,_,_,_,_,_,_,_,_,_,_,_,_,_,_,_,_,_,_,_,_,_,_,_,_,_,_,_,_,_,_,_,_,_,_,_,_,_,_,_,_,_,_,_,_,_,_,_,_,_,_,_,_,_,_,_,_,_,_,_,_,_,_,_,_,_,_,_,_,_,_,_,_,_,_,_,_,_,_,_,_,_,_,_,_,_,_,_,_,_,_,_,_,_,_,_,_,_,_,_,_,_,_],_⟩) rfl ?_;refine aj.aC rfl (by intro t ht; cases ht) (by rw[H]; rfl) (fun D v' W' hc J T K hK=> ?_) (fun _ _=>aj.aB (b:=⟨_,_⟩) rfl ?_)
      .
       obtain⟨j0,jn,ji,ja⟩:=J;have fp:=T (14,some 20) (.tail _ (.head _)) rfl;have e6:v' 14 = Ek (some ⟨p20,0,none⟩):=fp.2.1;obtain⟨g,e1,e2,e3,e4,e5⟩:=ja fp.1;obtain rfl:p20=g:=aj.bM (e6.symm.trans e1);have hb:=e4 hc.1;clear e4 e5;have fc:=T (10,some 136) (.head _) rfl;have ec:v' 10 = Ev #[Ej #[Ez t1,Ex t2 t3 t4,Ez t5,Ex t6 t7 t8],Ey Ew 0]:=fc.2.1;have ff:=hb.fr;obtain⟨iD,iG,iJ,iK⟩:=hb.r3;go_step;exact hK.out En _ (Hu hb rfl) ⟨(Ht j0 (by show wr.heap.size<=p20; omega)),by simpa using jn,fun _ h=>Bool.noConfusion (fc.1.symm.trans h),fun _=>⟨p20,e1,e2,by simpa using e3,fun h=>Bool.noConfusion h,fun _=>⟨fc.1,_,_,ec,(ai.aW (cs':=#[Ez t1,Ex t2 t3 t4,Ez t5,Ex t6 t7 t8]) (ai.aW (cs':=#[Ez t1,Ex t2 t3 t4,Ez t5,Ex none 0 0]) (ai.aW (cs':=#[Ez t1,Ex t2 t3 t4,Ez false,Ex none 0 0]) (ai.aW (cs':=#[Ez t1,Ex none 0 0,Ez false,Ex none 0 0]) hb (i:=0) rfl) (i:=1) rfl) (i:=2) rfl) (i:=3) rfl)⟩⟩⟩ trivial trivial
      refine aj.RQ H _ ?_;refine aj.aE (fun Dn v' W9 hd J T=> ?_);obtain⟨j0,jn,-,ja⟩:=J;have fa:=T (14,some 20) (.tail _ (.tail _ (.head _))) rfl;obtain⟨g,e1,e2,e3,-,e5⟩:=ja fa.1;obtain rfl:p20=g:=aj.bM ((show v' 14 = Ek (some ⟨p20,0,none⟩) from fa.2.1).symm.trans e1);obtain⟨-,gZ,iI,ev,ob⟩:=e5 (hd 15 (Ec rfl));have ef:=T (10,some 136) (.tail _ (.head _)) rfl;have gR:v' 10 = Ev #[Ej #[Ez t1,Ex t2 t3 t4,Ez t5,Ex t6 t7 t8],Ey Ew 0]:=ef.2.1;obtain rfl:#[Ez t1,Ex t2 t3 t4,Ez t5,Ex t6 t7 t8]=gZ:=by have:=gR.symm.trans ev; simp only[Value.tuple.injEq,Value.agg.injEq,Array.mk.injEq,List.cons.injEq,and_true]at this; exact this.1
      have Fo:FR W9 (Ej #[Ez t1,Ex t2 t3 t4,Ez t5,Ex t6 t7 t8]) (f i):=by
       have g_:cT (f i) 0 (Ev #[Ej #[Ez t1,Ex t2 t3 t4,Ez t5,Ex t6 t7 t8],Ey Ew 0]) W9:=ef.2.2;exact g_.get
      clear ef gR ev fa e5 e1 e3 ja hd T;have ci:zf w8 W9:=zA st (Ep _) j0;refine hQ _ _ ?_;clear hQ H Q' gn
      cases FI with
      | true=>
       go_wp2_with fail
       go_roundw
       case rel=>exact⟨i+1,cg.out,by unfold X6; rw[gk.out]; rfl,by go_num,ci⟩
       case measure=>have:=cg.out; simp[intOf]; omega
      | false=>
       have p19:=p1.ae ci;have dP:=p19.c 17 rfl;have dl:=p19.c 18 rfl;have ed:=p19.c 19 rfl;have dt:=p19.c 20 rfl;have ln:=p19.lt;have iy:=ob.c 0 rfl;have h9:=ob.c 1 rfl;have iq:=ob.c 2 rfl;have iz:=ob.c 3 rfl;have i6:=ob.lt;have gK:=E7 (F5.ae ci)
       go_upto_region 17 with fail
       refine wp_region_lit ?_
       repeat' (first | go_values | go_skip | go_guarded | go_step | go_upon)
       refine(Bg _ Fo gK.out).mono ?_;rintro e iH ⟨rfl,cx⟩;have gG:=zA ci (Ep _) cx;clear dP dl ed dt ln iy h9 iq iz i6 p19 ob Fo gK cx;have HE:=E7 (show X6 f o (i+1)=decide (f i=o) by unfold X6; rw[gk.out,Bool.false_or]);generalize decide (f i=o)=de at *;dsimp only
       repeat' (first | go_values | go_skip | go_guarded | go_step | go_upon)
       go_wp2_with fail
       go_roundw
       case rel=>exact⟨i+1,cg.out,by rw[HE.out],by go_num,gG⟩
       case measure=>have:=cg.out; simp[intOf]; omega
     .
      obtain rfl:i=nq:=D6
      have gC:decide ((i:Int)<(i:Int))=false:=Ea D6;rw[HQ.out.2.2.1];go_wp2_with fail
      go_returns
      exact⟨rfl,zA Y (Ep _) st⟩
end
end Go.Proofs.YtffmbepfbienaaaGreat
