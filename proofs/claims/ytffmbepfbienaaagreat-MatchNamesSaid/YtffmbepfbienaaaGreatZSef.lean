import Derived.Test.YtffmbepfbienaaaGreatZSea
set_option linter.unusedVariables false
set_option linter.unusedSimpArgs false
open Go.Value renaming slice->Cq,bool->Cx,int->Cz,agg->Cy,pointer->Cj,tuple->Ck
open Go.IntKind renaming i64->Cv
open Go.Ending renaming returned->Cg
open Go.Proofs.Tryz renaming prog->Ch
open Go renaming Calls->Cb,World->Cc,Value->Cd,undef->Cf
open Nat renaming le_refl->Cl
open Go.RowKit.Below renaming refl->Cp
namespace Go.Proofs.YtffmbepfbienaaaGreat
variable {cs:Array Cd} {A R a9:Int} {a b:List aT} {p:List Int} {g n r:Nat} {x:Nat×Nat} {t:Nat->Rat} {e:Option (Nat×Nat)} {l m:PL} {least o off s wq:Rat} {v vm:Cd} {W W7 w w':Cc}
def G' (least:Rat) (o:Nat×Nat->Rat):Option (Nat×Nat)->Int×Option (Nat×Nat)
 | none=>(6,none)
 | some x=>if o x<least then(6,none)else(0,some x)
theorem VZ {o:Nat×Nat->Rat} (h:o x<least):G' least o (some x)=(6,none):=C7 h
theorem V0 {o:Nat×Nat->Rat} (h:¬o x<least):G' least o (some x)=(0,some x):=C8 h
theorem Ja {most:Int} (H:zQ l=0) (I:zQ m=0) (h0:0<=most) (J:most<=12) (E:zC R A m.length<1) :
  yP true l m most R A off s least=G' least (oX l m (yp l most).2 (yp m most).2 R (yU s (zC R A m.length)) s) (ju (oX l m (yp l most).2 (yp m most).2 R (yU s (zC R A m.length)) s) (Z8 (yp l most).2 (yp m most).2 off)):=by
 unfold yP G';rw[C8 C3,C8 (by rw[H]; simp),C8 (by rw[I]; simp),C8 (by rintro (h | h | h); omega; omega; exact h E)];generalize ju _ _=z
 cases z<;>rfl
open Go.RowKit Go.Shelf
theorem cD.ae (h:cD w v t p o) (s:zf w w'):cD w' v t p o:=by
 obtain⟨cs,u,H,Z,d3,X,Y,T,I,J,e,M,N,E⟩:=h;exact⟨cs,u,H,Z,d3,X,Y,T,I,J,e,M.af (av.ae s),N.ae s,E.af (av.ae s)⟩
theorem cD.kg (h:cD w v t p o) (M:dh w g) (s:KG g w w'):cD w' v t p o:=by
 obtain⟨cs,u,H,d2,d3,Y,Z,X,I,J,e,N,T,E⟩:=h;exact⟨cs,u,H,d2,d3,Y,Z,X,I,J,e,N.af s.af,T.kg M s,E.af s.af⟩
def cG (l m:PL) (a b:List aT) (a9:Int) (wq s:Rat) (g n:Nat) (W:Cc):Option (Nat×Nat)->Prop
 | none=>ai W g 123 #[Cj none]
 | some x=>∃p E,ai W g 123 #[Cj (some ⟨p,0,none⟩)]/\n<=p/\ai W p 70 E/\cD W (Cy E) (tX l m a b x) (pX l m a b a9 x) (oX l m a b a9 wq s x)
theorem cG.pp (h:cG l m a b a9 wq s g n W e):dh W g:=by
 cases e with
 | none=>exact⟨_,h⟩
 | some x=>obtain⟨p,H,E,-⟩:=h; exact⟨_,E⟩
theorem cG.ae {E:Cc} (h:cG l m a b a9 wq s g n W e) (st:zf W E):cG l m a b a9 wq s g n E e:=by
 cases e with
 | none=>exact ai.ae h st
 | some x=>obtain⟨p,M,J,N,H,I⟩:=h; exact⟨p,M,J.ae st,N,H.ae st,I.ae st⟩
theorem cG.put {k:Nat} {o E:Obj} (h:cG l m a b a9 wq s g n W e) (I:W.heap[k]? = some o) (hc:o.isCells=false):cG l m a b a9 wq s g n (W.putObj k E) e:=by
 have H:∀g t cs,ai W g t cs->ai (W.putObj k E) g t cs:=fun g t cs h=>zZ h (grownBy_putObj' W _ E) (fun r e=>by cases e; exact⟨o,I,hc⟩);have N:=h.pp
 cases e with
 | none=>exact H _ _ _ h
 | some x=>obtain⟨p,X,T,Y,J,M⟩:=h; exact⟨p,X,H _ _ _ T,Y,H _ _ _ J,M.kg N (KG.put I hc)⟩
def eJ (v:Cd):Prop:=∃Z dc dk cY bq H ci bh dd bi M cx T ce br d9 cy ah X bf b9 bg bl Y cN I be N E bt J cg,v = Cy #[Cx Z,Cq dc dk cY,Cx bq,Cq H ci bh,Cx dd,Cq bi M cx,Cx T,Cq ce br d9,Cx cy,Cq ah X bf,Cx b9,Cq bg bl Y,Cx cN,Cq I be N,Cx E,Cq bt J cg]
theorem eJ.mk:eJ (Cy V9):=⟨_,_,_,_,_,_,_,_,_,_,_,_,_,_,_,_,_,_,_,_,_,_,_,_,_,_,_,_,_,_,_,_,rfl⟩
theorem cz.eP (h:cz w v t):eJ v:=by
 obtain⟨Z,dc,dk,cY,bq,H,ci,bh,dd,bi,M,cx,T,ce,br,d9,cy,ah,X,bf,b9,bg,bl,Y,cN,I,be,N,E,bt,J,cg,e,-⟩:=h;exact⟨Z,dc,dk,cY,bq,H,ci,bh,dd,bi,M,cx,T,ce,br,d9,cy,ah,X,bf,b9,bg,bl,Y,cN,I,be,N,E,bt,J,cg,e⟩
theorem G5 {Z br dk T cN b9 cY E:Bool} {dd H bl cg ah bg I ce:Option Addr} {bi d9 cx bh M cy bt dc X bf bq Y be N J ci:Nat} (h:cz w (Cy #[Cx Z,Cq dd bi d9,Cx br,Cq H cx bh,Cx dk,Cq bl M cy,Cx T,Cq cg bt dc,Cx cN,Cq ah X bf,Cx b9,Cq bg bq Y,Cx cY,Cq I be N,Cx E,Cq ce J ci]) t):FR w (Cy #[Cx Z,Cq dd bi d9,Cx br,Cq H cx bh]) (t 0)/\FR w (Cy #[Cx dk,Cq bl M cy,Cx T,Cq cg bt dc]) (t 1)/\FR w (Cy #[Cx cN,Cq ah X bf,Cx b9,Cq bg bq Y]) (t 2)/\FR w (Cy #[Cx cY,Cq I be N,Cx E,Cq ce J ci]) (t 3):=by
 obtain⟨_,_,_,_,_,_,_,_,_,_,_,_,_,_,_,_,_,_,_,_,_,_,_,_,_,_,_,_,_,_,_,_,e,h⟩:=h;simp only[Value.agg.injEq,Array.mk.injEq,List.cons.injEq,Value.bool.injEq,Value.slice.injEq,and_true]at e;obtain⟨rfl,⟨rfl,rfl,rfl⟩,rfl,⟨rfl,rfl,rfl⟩,rfl,⟨rfl,rfl,rfl⟩,rfl,⟨rfl,rfl,rfl⟩,rfl,⟨rfl,rfl,rfl⟩,rfl,⟨rfl,rfl,rfl⟩,rfl,⟨rfl,rfl,rfl⟩,rfl,⟨rfl,rfl,rfl⟩⟩:=e;exact h
theorem UN {c0 T c2 c3 X Y c6 c7 c8 Z E H J N M I d0 d1 d2 d3 d4:Cd} {j:Nat} (hj:j<16):(#[c0,T,c2,c3,X,Y,c6,c7,c8,Z,E,H,J,N,M,I]:Array Cd)[j]? = (#[c0,T,c2,c3,X,Y,c6,c7,c8,Z,E,H,J,N,M,I,d0,d1,d2,d3,d4]:Array Cd)[j]? :=by
 rcases(show j=0\/j=1\/j=2\/j=3\/j=4\/j=5\/j=6\/j=7\/j=8\/j=9\/j=10\/j=11\/j=12\/j=13\/j=14\/j=15 by omega)with rfl | rfl | rfl | rfl | rfl | rfl | rfl | rfl | rfl | rfl | rfl | rfl | rfl | rfl | rfl | rfl<;>rfl
def By:List Cd->Array Cd:=fun l=>match l with | [Cy c]=>c++#[Cq none 0 0,Cx false,Cq none 0 0,Cx false,Cq none 0 0] | _=>#[]
theorem Wr.fu {a:Cc} (h:Wr r w w') (j:Below n a w) (H:n<=r:=by omega):Below n a w':=j.trans ⟨h.os,h.tape,h.output,Nat.le_of_eq h.only.1.symm,fun k E=>h.only.2 k B_⟩
theorem Wr.fj {t:TypeId} (h:Wr r w w') (H:ai w r t cs) (E:zL cs=true:=by exact rfl):av w w':=av.only H E h.only
theorem V1 {t:TypeId} {I:Cc} (s:zf W W7) (h:Wr g W7 I) (J:ai W7 g t cs):KeepsOthers W I:=
 ⟨h.only.1▸s.size,fun k o H hc=>by
  have E:W7.heap[k]? = some o:=(s.block k (Array.getElem?_eq_some_iff.1 H).1).trans H
  by_cases e:k=g
  .
   subst e;have:W7.heap[k]? = _:=J;rw[E]at this
   cases this
   cases hc
  . exact(h.only.2 k e).trans E⟩
theorem V2 (s:zf W W7):KeepsOthers W W7:=⟨s.size,fun k o E _=>(s.block k (Array.getElem?_eq_some_iff.1 E).1).trans E⟩
theorem WY {x y:Option Addr} (E:ai W7 g 123 #[Cj x]):KG g W7 (W7.setCell ⟨g,0,none⟩ (Cj y)):=
 have wr:Wr g W7 (W7.setCell ⟨g,0,none⟩ (Cj y)):=(Wr.refl g W7).set
 ⟨Nat.le_of_eq wr.only.1.symm,wr.fj E,fun k _ _ _ H _=>wr.only.2 k H,fun _=>⟨y,E.bI 0 _⟩⟩
theorem cD.row {ty:TypeId} {old:Array Cd} (h:cD w v t p o) (r:bD g ty old cs w w') (E:zL old=true) (J:∀x∈old.toList,∀z,x≠ Cz Cv z):cD w' v t p o:=by
 obtain⟨cs,u,I,d2,d3,Z,d5,Y,M,N,e,T,X,H⟩:=h;exact⟨cs,u,I,d2,d3,Z,d5,Y,M,N,e,T.af (r.af E),X.only r.was J r.only,H.af (r.af E)⟩
theorem JA {F:Nat->List Nat} (E:∀i,∀t∈F i,t<n):∀i,∀x∈jL F i,x.1<i/\x.2<n
 | 0,x,h=>by cases h
 | i+1,x,h=>by
  rcases List.mem_append.1 h with h | h
  . have:=JA E i x h; omega
  .
   obtain⟨k,H,rfl⟩:=List.mem_map.1 h;exact⟨Nat.lt_succ_self _,E i k H⟩
theorem UO (h:x∈Z8 a b off):x.1<a.length/\x.2<b.length:=JA (fun i t ht=>We _ _ _ _ t ht) _ x h
theorem V3 {gc E:Nat} {vp:Cd} {rc:Array Cd} {u:Cd} {Z T:Bool} {X d6:Option Addr} {d3 N Y d8:Nat} {pre:List (Nat×Nat)}
  (sW:zf W W7) (a4:ai W7 w.heap.size 55 #[vp]) (a5:ai W7 (w.heap.size+1) 55 #[vm]) (a7:ai W7 (w.heap.size+1+1) 45 rc) (a8:ai W7 (w.heap.size+1+1+1) 70 yZ) (ac:ai W7 gc 89 #[Cz Cv 0]) (hp:dh W7 g) (hB:Below w.heap.size w W7)
  (om:ai W7 E 70 (cs++#[u,Cx Z,Cq X d3 N,Cx T,Cq d6 Y d8])) (hS:cz W7 (Cy cs) (tX l m a b x)) (hu:aC W7 u (pX l m a b R x)) (hF:FR W7 (Cy #[Cx Z,Cq X d3 N,Cx T,Cq d6 Y d8]) (oX l m a b R wq s x))
  (hb:jM (oX l m a b R wq s) (ju (oX l m a b R wq s) pre) x=some x) (h4:w.heap.size+4<=g) (M:gc≠g) (hn:n<=E) (J:E≠g) :
  KeepsOthers W (W7.setCell ⟨g,0,none⟩ (Cj (some ⟨E,0,none⟩)))/\KG g W (W7.setCell ⟨g,0,none⟩ (Cj (some ⟨E,0,none⟩)))/\
  (ai (W7.setCell ⟨g,0,none⟩ (Cj (some ⟨E,0,none⟩))) w.heap.size 55 #[vp]/\ai (W7.setCell ⟨g,0,none⟩ (Cj (some ⟨E,0,none⟩))) (w.heap.size+1) 55 #[vm]/\ai (W7.setCell ⟨g,0,none⟩ (Cj (some ⟨E,0,none⟩))) (w.heap.size+1+1) 45 rc/\ai (W7.setCell ⟨g,0,none⟩ (Cj (some ⟨E,0,none⟩))) (w.heap.size+1+1+1) 70 yZ/\ai (W7.setCell ⟨g,0,none⟩ (Cj (some ⟨E,0,none⟩))) gc 89 #[Cz Cv 0]/\
   cG l m a b R wq s g n (W7.setCell ⟨g,0,none⟩ (Cj (some ⟨E,0,none⟩))) (ju (oX l m a b R wq s) (pre ++ [x]))/\Below w.heap.size w (W7.setCell ⟨g,0,none⟩ (Cj (some ⟨E,0,none⟩)))):=by
 obtain⟨x0,H⟩:=hp;have I:=WY (y:=some ⟨E,0,none⟩) H;have wr:Wr g W7 (W7.setCell ⟨g,0,none⟩ (Cj (some ⟨E,0,none⟩))):=(Wr.refl g W7).set;have o8:ai (W7.setCell ⟨g,0,none⟩ (Cj (some ⟨E,0,none⟩))) g 123 #[Cj (some ⟨E,0,none⟩)]:=H.bI 0 _;refine⟨V1 sW wr H,(KG.ae sW).trans I,wr.f a4,wr.f a5,wr.f a7,wr.f a8,wr.f ac M,?_,wr.fu hB⟩;rw[Z7,hb];exact⟨E,_,o8,hn,wr.f om J,cs,u,Z,X,d3,N,T,d6,Y,d8,rfl,hS.af I.af,hu.kg ⟨x0,H⟩ I,hF.af I.af⟩
theorem Wf (x:Nat×Nat) (hw:sz wq 20) (E:sz s 2) (H:l.length<=6):sz (oX l m a b R wq s x) 122:=
 (ZX hw (E.mono B_) _ _ _).mono B_
set_option maxHeartbeats 6400000 in
set_option maxRecDepth 1000000 in
theorem Jb {ua1 ua5 ub1 ub5 uc1 uc5:Bool} {ua2 ua6 ub2 ub6 uc2 uc6:Option Addr} {ua3 ua4 ua7 ua8 ub3 ub4 ub7 ub8 uc3 uc4 uc7 uc8:Nat} {O:Nat->Option Rat} {vl:Cd} (most:Int) (w:Cc) (b0:FB w (Cy #[Cx ua1,Cq ua2 ua3 ua4,Cx ua5,Cq ua6 ua7 ua8]) (O 0)) (b1:FB w (Cy #[Cx ub1,Cq ub2 ub3 ub4,Cx ub5,Cq ub6 ub7 ub8]) (O 1)) (b2:FB w (Cy #[Cx uc1,Cq uc2 uc3 uc4,Cx uc5,Cq uc6 uc7 uc8]) (O 2)) (fw:ve O (ya ua3 ub3 uc3 uc3) (ya ua7 ub7 uc7 uc7) 3) (hl:bJ w vl l) (hm:bJ w vm m) (zl:l.length<=6) (zm:m.length<=6)
  (e0:O 0=some off) (e1:O 1=some s) (e2:O 2=some least) (hK:yx O (ya ua3 ub3 uc3 uc3) (ya ua7 ub7 uc7 uc7) R A ua1=true) (c1:zQ l=0) (c2:zQ m=0) (h0:0<=most) (h1:most<=12) (hq:zC R A m.length<1) :
  Cb Ch 31 #[vl,vm,Cz Cv most,Cy #[Cx ua1,Cq ua2 ua3 ua4,Cx ua5,Cq ua6 ua7 ua8,Cz Cv R,Cz Cv A,Cx ub1,Cq ub2 ub3 ub4,Cx ub5,Cq ub6 ub7 ub8,Cx uc1,Cq uc2 uc3 uc4,Cx uc5,Cq uc6 uc7 uc8]] w fun e w'=>∃v,e = Cg (Ck #[v,Cz Cv (yP true l m most R A off s least).1])/\WW w' v l m (yp l most).2 (yp m most).2 R (yU s (zC R A m.length)) s (yP true l m most R A off s least).2/\zf w w':=by
 have hR:=(zX.1 hK).2.1
 have CK:∀w',av w w'->Cb Ch 26 #[Cy #[Cx ua1,Cq ua2 ua3 ua4,Cx ua5,Cq ua6 ua7 ua8,Cz Cv R,Cz Cv A,Cx ub1,Cq ub2 ub3 ub4,Cx ub5,Cq ub6 ub7 ub8,Cx uc1,Cq uc2 uc3 uc4,Cx uc5,Cq uc6 uc7 uc8]] w' fun e w2=>e = Cg (Cz Cv 0)/\zf w' w2:=fun w' k=>by
  have:=QY (R:=R) (A:=A) w' (b0.af k) (b1.af k) (b2.af k) fw
  rwa[hK]at this
 have QL:∀w',zf w w'->Cb Ch 37 #[vl] w' fun e w2=>e = Cg (Cz Cv 0)/\zf w' w2:=fun w' s=>by have:=xX w' (hl.ae s) B_; rwa[c1]at this
 have QM:∀w',zf w w'->Cb Ch 37 #[vm] w' fun e w2=>e = Cg (Cz Cv 0)/\zf w' w2:=fun w' s=>by have:=xX w' (hm.ae s) B_; rwa[c2]at this
 have AL:∀w',zf w w'->Cb Ch 71 #[vl,Cz Cv most] w' fun e w2=>∃u,e = Cg (Ck #[u,Cz Cv 0])/\dA w2 u (yp l most).2/\zf w' w2:=fun w' s=>by have:=UH most w' (hl.ae s) B_ (fun _ _=>by omega); unfold dg at this; rwa[Zh c1 h0 h1]at this
 have AM:∀w',zf w w'->Cb Ch 71 #[vm,Cz Cv most] w' fun e w2=>∃u,e = Cg (Ck #[u,Cz Cv 0])/\dA w2 u (yp m most).2/\zf w' w2:=fun w' s=>by have:=UH most w' (hm.ae s) B_ (fun _ _=>by omega); unfold dg at this; rwa[Zh c2 h0 h1]at this
 have CH:∀w' g,ai w' g 89 #[Cz Cv 0]->Cb Ch 50 #[Cj (some ⟨g,0,none⟩),Cy #[Cx ua1,Cq ua2 ua3 ua4,Cx ua5,Cq ua6 ua7 ua8,Cz Cv R,Cz Cv A,Cx ub1,Cq ub2 ub3 ub4,Cx ub5,Cq ub6 ub7 ub8,Cx uc1,Cq uc2 uc3 uc4,Cx uc5,Cq uc6 uc7 uc8],Cz Cv m.length] w' fun e w2=>∃v,e = Cg (Ck #[v,Cx true])/\FR w2 v (zC R A m.length)/\zf w' w2:=fun w' g hb=>by
  have:=Ze (ua1:=ua1) (ua2:=ua2) (ua3:=ua3) (ua4:=ua4) (ua5:=ua5) (ua6:=ua6) (ua7:=ua7) (ua8:=ua8) (ub1:=ub1) (ub2:=ub2) (ub3:=ub3) (ub4:=ub4) (ub5:=ub5) (ub6:=ub6) (ub7:=ub7) (ub8:=ub8) (uc1:=uc1) (uc2:=uc2) (uc3:=uc3) (uc4:=uc4) (uc5:=uc5) (uc6:=uc6) (uc7:=uc7) (uc8:=uc8) R A m.length w' hb hR.1 hR.2.1 hR.2.2.1 hR.2.2.2 B_ B_
  rwa[C9 hq]at this
 have m8:0<=off:=by
  have h3:=(zX.1 hK).2.2.1;have h4:=b0.neg;rw[e0,h3]at h4;obtain⟨q,e,mD⟩:=XO (o:=some off) h4
  cases e; exact mD
 have l9:sz off 2:=by obtain⟨r,e,h⟩:=yL (zX.1 hK).1 fw 0 B_; rw[e0]at e; cases e; exact h
 have ss:sz s 2:=by obtain⟨r,e,h⟩:=yL (zX.1 hK).1 fw 1 B_; rw[e1]at e; cases e; exact h
 have sl:sz least 2:=by obtain⟨r,e,h⟩:=yL (zX.1 hK).1 fw 2 B_; rw[e2]at e; cases e; exact h
 have ML:=G4 zl c1 h0 h1;have MM:=G4 zm c2 h0 h1;have Z:=C5 (C6 hl (C6 hm (C6 b0 (C6 b1 (C6 b2 fw)))));obtain⟨al,cl,rfl⟩:=hl.au;obtain⟨am,cm,rfl⟩:=hm.au;have fd:=C5 (C6 c1 c2);obtain⟨nl,k7⟩:∃n,l.length=n:=⟨_,rfl⟩;obtain⟨nm,iO⟩:∃n,m.length=n:=⟨_,rfl⟩;have HN:=C5 (C6 k7 iO);rw[k7]at QL AL Z zl|-;rw[iO]at QM AM CH Z zm|-;have k6:=C5 (Ja (R:=R) (A:=A) (off:=off) (s:=s) (least:=least) c1 c2 h0 h1 hq);rw[iO]at k6;clear hl hm b0 b1 b2 fw k7 iO hK hq c1 c2 h0 h1;refine(callsIn_wide (n:=3)).1 (callsIn_of_wp_marks Tryz.func31 rfl trivial ((wpIn_wide (n:=3)).2 ?_) rfl);simp only[Tryz.ntmps31,List.size_toArray,List.length_cons,List.length_nil,Nat.reduceAdd,Nat.reduceSub,Array.replicate_succ,Array.replicate_zero,List.push_toArray,List.append_toArray,List.nil_append,List.cons_append];go_wp2_with fail
 go_step3
 go_upto_region 1 with fail
 refine wp_region_lit ?_
 repeat' (first | ((with_reducible show wpList _ _ _ (⟨some 23,_,_,_,_,_⟩::_) _ _); refine zP rfl 45 (.tmp 7) rfl (w.heap.size+1+1) rfl 45 #[Cx ua1,Cq ua2 ua3 ua4,Cx ua5,Cq ua6 ua7 ua8,Cz Cv R,Cz Cv A,Cx ub1,Cq ub2 ub3 ub4,Cx ub5,Cq ub6 ub7 ub8,Cx uc1,Cq uc2 uc3 uc4,Cx uc5,Cq uc6 uc7 uc8] _ zw Tryz.underlying45 rfl B' ?_) | go_values | go_skip | go_guarded | go_step | go_upon)
 refine(CK _ zo).mono ?_;rintro e w1 ⟨rfl,it⟩;have B:Below w.heap.size w w1:=yQ it;have o4:ai w1 w.heap.size 55 #[Cq al nl cl]:=ai.ak it;have o5:ai w1 (w.heap.size+1) 55 #[Cq am nm cm]:=ai.ak it;have o7:ai w1 (w.heap.size+1+1) 45 #[Cx ua1,Cq ua2 ua3 ua4,Cx ua5,Cq ua6 ua7 ua8,Cz Cv R,Cz Cv A,Cx ub1,Cq ub2 ub3 ub4,Cx ub5,Cq ub6 ub7 ub8,Cx uc1,Cq uc2 uc3 uc4,Cx uc5,Cq uc6 uc7 uc8]:=ai.ak it;have o8:ai w1 (w.heap.size+1+1+1) 70 yZ:=ai.ak it;clear it;clear CK;dsimp only;have c4:=o4.c 0 rfl
 repeat' (first | go_values | go_skip | go_guarded | go_step | go_upon)
 refine(QL _ B).mono ?_;rintro e w2 ⟨rfl,ir⟩;clear c4;replace B:Below w.heap.size w w2:=yQ ir;replace o4:ai w2 w.heap.size 55 #[Cq al nl cl]:=ai.ak ir;replace o5:ai w2 (w.heap.size+1) 55 #[Cq am nm cm]:=ai.ak ir;replace o7:ai w2 (w.heap.size+1+1) 45 #[Cx ua1,Cq ua2 ua3 ua4,Cx ua5,Cq ua6 ua7 ua8,Cz Cv R,Cz Cv A,Cx ub1,Cq ub2 ub3 ub4,Cx ub5,Cq ub6 ub7 ub8,Cx uc1,Cq uc2 uc3 uc4,Cx uc5,Cq uc6 uc7 uc8]:=ai.ak ir;replace o8:ai w2 (w.heap.size+1+1+1) 70 yZ:=ai.ak ir;clear ir;clear QL;dsimp only;have c5:=o5.c 0 rfl
 repeat' (first | go_values | go_skip | go_guarded | go_step | go_upon)
 refine(QM _ B).mono ?_;rintro e w3 ⟨rfl,iv⟩;clear c5;replace B:Below w.heap.size w w3:=yQ iv;replace o4:ai w3 w.heap.size 55 #[Cq al nl cl]:=ai.ak iv;replace o5:ai w3 (w.heap.size+1) 55 #[Cq am nm cm]:=ai.ak iv;replace o7:ai w3 (w.heap.size+1+1) 45 #[Cx ua1,Cq ua2 ua3 ua4,Cx ua5,Cq ua6 ua7 ua8,Cz Cv R,Cz Cv A,Cx ub1,Cq ub2 ub3 ub4,Cx ub5,Cq ub6 ub7 ub8,Cx uc1,Cq uc2 uc3 uc4,Cx uc5,Cq uc6 uc7 uc8]:=ai.ak iv;replace o8:ai w3 (w.heap.size+1+1+1) 70 yZ:=ai.ak iv;clear iv;clear QM;dsimp only;have c4:=o4.c 0 rfl
 repeat' (first | go_values | go_skip | go_guarded | go_step | go_upon)
 refine(AL _ B).mono ?_;rintro e w4 ⟨u1,rfl,iX,iq⟩;obtain⟨aa,ca,rfl⟩:=iX.au;clear c4;replace B:Below w.heap.size w w4:=yQ iq;replace o4:ai w4 w.heap.size 55 #[Cq al nl cl]:=ai.ak iq;replace o5:ai w4 (w.heap.size+1) 55 #[Cq am nm cm]:=ai.ak iq;replace o7:ai w4 (w.heap.size+1+1) 45 #[Cx ua1,Cq ua2 ua3 ua4,Cx ua5,Cq ua6 ua7 ua8,Cz Cv R,Cz Cv A,Cx ub1,Cq ub2 ub3 ub4,Cx ub5,Cq ub6 ub7 ub8,Cx uc1,Cq uc2 uc3 uc4,Cx uc5,Cq uc6 uc7 uc8]:=ai.ak iq;replace o8:ai w4 (w.heap.size+1+1+1) 70 yZ:=ai.ak iq;clear iq;clear AL;dsimp only;have c5:=o5.c 0 rfl
 repeat' (first | go_values | go_skip | go_guarded | go_step | go_upon)
 refine(AM _ B).mono ?_;rintro e w5 ⟨u2,rfl,k8,ik⟩;obtain⟨ab,cb,rfl⟩:=k8.au;have ma:=iX.ae ik;clear c5 iX;replace B:Below w.heap.size w w5:=yQ ik;replace o4:ai w5 w.heap.size 55 #[Cq al nl cl]:=ai.ak ik;replace o5:ai w5 (w.heap.size+1) 55 #[Cq am nm cm]:=ai.ak ik;replace o7:ai w5 (w.heap.size+1+1) 45 #[Cx ua1,Cq ua2 ua3 ua4,Cx ua5,Cq ua6 ua7 ua8,Cz Cv R,Cz Cv A,Cx ub1,Cq ub2 ub3 ub4,Cx ub5,Cq ub6 ub7 ub8,Cx uc1,Cq uc2 uc3 uc4,Cx uc5,Cq uc6 uc7 uc8]:=ai.ak ik;replace o8:ai w5 (w.heap.size+1+1+1) 70 yZ:=ai.ak ik;clear ik;clear AM;dsimp only;have c5:=o5.c 0 rfl;have l5:=o5.lt
 repeat' (first | ((with_reducible show wpList _ _ _ (⟨some 62,_,_,_,_,_⟩::_) _ _); refine zP rfl 45 (.tmp 7) rfl (w.heap.size+1+1) rfl 45 #[Cx ua1,Cq ua2 ua3 ua4,Cx ua5,Cq ua6 ua7 ua8,Cz Cv R,Cz Cv A,Cx ub1,Cq ub2 ub3 ub4,Cx ub5,Cq ub6 ub7 ub8,Cx uc1,Cq uc2 uc3 uc4,Cx uc5,Cq uc6 uc7 uc8] _ zw Tryz.underlying45 rfl B' ?_) | go_values | go_skip | go_guarded | go_step | go_upon)
 refine(CH _ w5.heap.size (ai.new _ _ _)).mono ?_;rintro e X ⟨v6,rfl,mg,ko⟩;obtain⟨q1,q2,q3,q4,q5,q6,q7,q8,rfl⟩:=mg.au;have gT:zf w5 X:=((Cp w5.heap.size w5).alloc (Cl _) _).trans (ko.mono C4);have oc:ai X w5.heap.size 89 #[Cz Cv 0]:=ai.ae (ai.new _ _ _) ko;have lX:=ma.ae gT;have lH:=k8.ae gT;replace o4:=o4.ae gT;replace o5:=o5.ae gT;replace o7:=o7.ae gT;replace o8:=o8.ae gT;replace B:=bS B gT;clear CH c5 l5 mg ko ma k8;generalize w5.heap.size=gc at *;clear gT;have mV:=oc.lt;have mM:=o8.lt;dsimp only
 repeat' (first | go_values | go_skip | go_guarded | go_step | go_upon)
 have gd:zf X ((X.alloc (.cells #[Cx q1,Cq q2 q3 q4,Cx q5,Cq q6 q7 q8] 28)).alloc (.cells #[Cj none] 123)):=((Cp _ _).alloc (Cl _) _).alloc C4 _;have ob:ai ((X.alloc (.cells #[Cx q1,Cq q2 q3 q4,Cx q5,Cq q6 q7 q8] 28)).alloc (.cells #[Cj none] 123)) (X.heap.size+1) 123 #[Cj none]:=ai.bO C3;have lb:((X.alloc (.cells #[Cx q1,Cq q2 q3 q4,Cx q5,Cq q6 q7 q8] 28)).alloc (.cells #[Cj none] 123)).heap.size=X.heap.size+2:=by simp
 generalize (X.alloc (.cells #[Cx q1,Cq q2 q3 q4,Cx q5,Cq q6 q7 q8] 28)).alloc (.cells #[Cj none] 123)=w8 at *;have lJ:=lX.ae gd;have lZ:=lH.ae gd;replace o4:=o4.ae gd;replace o5:=o5.ae gd;replace o7:=o7.ae gd;replace o8:=o8.ae gd;replace oc:=oc.ae gd;replace B:=bS B gd;clear gd lX lH;have d0:=o7.c 0 rfl;have d1:=o7.c 1 rfl;have d2:=o7.c 2 rfl;have d3:=o7.c 3 rfl
 go_step3
 repeat' (first | go_values | go_skip | go_guarded | go_step | go_upon)
 refine((callsIn_wide (n:=3)).1 (VT Fence.wide 3 trivial rfl aa ab _ ca _ cb ua1 ua5 ua2 ua6 ua3 ua4 ua7 ua8 _)).mono ?_;rintro e w7 ⟨rfl,fV⟩;dsimp only
 repeat' (first | go_values | go_skip | go_guarded | go_step | go_upon)
 have cY:zf w8 w7:=by subst fV; exact((((Cp _ _).alloc (Cl _) _).alloc C4 _).alloc (by rw[World.size_alloc,World.size_alloc]; omega) _)
 have z7:w7.heap.size=w8.heap.size+3:=by subst fV; simp
 obtain⟨CA,qa,fA⟩:=(lJ.ae cY).fk;obtain⟨CB,qb,fB⟩:=(lZ.ae cY).fk;obtain⟨a,hA⟩:∃a,(yp l most).2=a:=⟨_,rfl⟩;obtain⟨b,J⟩:∃b,(yp m most).2=b:=⟨_,rfl⟩;rw[hA]at qa fA fV ML|-;rw[J]at qb fB fV MM|-;obtain⟨na,lh⟩:∃n,a.length=n:=⟨_,rfl⟩;obtain⟨nb,iV⟩:∃n,b.length=n:=⟨_,rfl⟩;rw[lh]at qa fA fV ML|-;rw[iV]at qb fB fV MM|-;have n0:ai w7 w8.heap.size 76 #[Cq aa na ca]:=by subst fV; exact((ai.new _ _ _).alloc _).alloc _
 have n1:ai w7 (w8.heap.size+1) 76 #[Cq ab nb cb]:=by subst fV; exact(ai.bO C3).alloc _
 have n2:ai w7 (w8.heap.size+1+1) 28 #[Cx ua1,Cq ua2 ua3 ua4,Cx ua5,Cq ua6 ua7 ua8]:=by subst fV; exact ai.bO C3
 have b7:Below w.heap.size w w7:=bS B cY;have NB:cE w8.heap.size (w8.heap.size+1) (w8.heap.size+1+1) (X.heap.size+1) na nb aa ab ca cb CA CB (fun t j=>some (rA (a.getD t zM) j)) (fun t j=>some (rA (b.getD t zM) j)) #[Cx ua1,Cq ua2 ua3 ua4,Cx ua5,Cq ua6 ua7 ua8] (some off) w7:=⟨n0,n1,n2,qa,qb,by have:=Z.out.2.2.1.af (av.ae b7); rwa[e0]at this,⟨none,ob.ae cY⟩⟩;replace o4:=o4.ae cY;replace o5:=o5.ae cY;replace o7:=o7.ae cY;replace o8:=o8.ae cY;replace oc:=oc.ae cY;replace ob:=ob.ae cY;obtain⟨wq,iE⟩:∃x,yU s (zC R A nm)=x:=⟨_,rfl⟩;have lc:=oc.lt;have mN:=B.size;clear fV cY n0 n1 n2 lJ lZ B d0 d1 d2 d3;obtain⟨FV,lG⟩:∃v,Value.func (.func 109) #[] #[Cj (some ⟨w8.heap.size,0,none⟩),Cj (some ⟨w8.heap.size+1,0,none⟩),Cj (some ⟨w8.heap.size+1+1,0,none⟩)]=v:=⟨_,rfl⟩;rw[lG];have mE:w8.heap.size≠X.heap.size+1:=B_
 refine(wpIn_wide (n:=3)).1 ?_
 refine Q7 (n:=3) rfl (show 1<=3 by omega) (gf:=109) (lb:=#[Cj (some ⟨w8.heap.size,0,none⟩),Cj (some ⟨w8.heap.size+1,0,none⟩),Cj (some ⟨w8.heap.size+1+1,0,none⟩)]) lG.symm trivial (enters_of Tryz.func109 B' rfl)
  (encs:=Jz CA CB) (Kp:=KG (X.heap.size+1)) (S:=fun xs=>xs=Z8 a b off) (El:=fun _ x=>x.1<na/\x.2<nb) (Pr:=cE w8.heap.size (w8.heap.size+1) (w8.heap.size+1+1) (X.heap.size+1) na nb aa ab ca cb CA CB (fun t j=>some (rA (a.getD t zM) j)) (fun t j=>some (rA (b.getD t zM) j)) #[Cx ua1,Cq ua2 ua3 ua4,Cx ua5,Cq ua6 ua7 ua8] (some off))
  ?seq (fun o o'=>NB.ae (((Cp _ _).alloc (Cl _) _).alloc C4 _)) (fun _=>rfl) KG.trans (fun A o o' ho hc=>KG.put ho hc)
  (fun xs W=>ai W w.heap.size 55 #[Cq al nl cl]/\ai W (w.heap.size+1) 55 #[Cq am nm cm]/\ai W (w.heap.size+1+1) 45 #[Cx ua1,Cq ua2 ua3 ua4,Cx ua5,Cq ua6 ua7 ua8,Cz Cv R,Cz Cv A,Cx ub1,Cq ub2 ub3 ub4,Cx ub5,Cq ub6 ub7 ub8,Cx uc1,Cq uc2 uc3 uc4,Cx uc5,Cq uc6 uc7 uc8]/\ai W (w.heap.size+1+1+1) 70 yZ/\ai W gc 89 #[Cz Cv 0]/\cG l m a b R wq s (X.heap.size+1) w7.heap.size W (ju (oX l m a b R wq s) xs)/\Below w.heap.size w W)
  ?al ?io ?h0
  (fun x a' W=>∃p q:Nat,a' = { tmps:=#[Value.slice al nl cl,Value.slice am nm cm,Value.int Cv most,Cy #[Cx ua1,Cq ua2 ua3 ua4,Cx ua5,Cq ua6 ua7 ua8,Cz Cv R,Cz Cv A,Cx ub1,Cq ub2 ub3 ub4,Cx ub5,Cq ub6 ub7 ub8,Cx uc1,Cq uc2 uc3 uc4,Cx uc5,Cq uc6 uc7 uc8],Value.pointer (some ⟨w.heap.size,0,none⟩),Value.pointer (some ⟨w.heap.size+1,0,none⟩),Cf,Value.pointer (some ⟨w.heap.size+1+1,0,none⟩),Value.pointer (some ⟨w.heap.size+1+1+1,0,none⟩),Value.int Cv 0,Value.int Cv 0,Value.int Cv 0,Value.int Cv 0,Value.slice aa na ca,Value.int Cv 0,Value.slice ab nb cb,Value.pointer (some ⟨gc,0,none⟩),Value.pointer (some ⟨X.heap.size,0,none⟩),Value.bool true,Value.pointer (some ⟨X.heap.size+1,0,none⟩),Value.pointer (some ⟨p,0,none⟩),Value.pointer (some ⟨q,0,none⟩),Cf,Cy #[Cx ua1,Cq ua2 ua3 ua4,Cx ua5,Cq ua6 ua7 ua8,Cz Cv R,Cz Cv A,Cx ub1,Cq ub2 ub3 ub4,Cx ub5,Cq ub6 ub7 ub8,Cx uc1,Cq uc2 uc3 uc4,Cx uc5,Cq uc6 uc7 uc8],Value.int Cv 0,Value.int Cv 0,Value.bool false,Cf,Cf,Value.slice al nl cl,Value.int Cv 0,Value.int Cv 0,Value.bool false,Cf,Cf,Value.slice am nm cm,Value.int Cv 0,Value.int Cv 0,Value.bool false,Cf,Cf,Ck #[Value.slice aa na ca,Value.int Cv 0],Value.slice al nl cl,Value.int Cv most,Ck #[Value.slice aa na ca,Value.int Cv 0],Value.slice aa na ca,Value.int Cv 0,Value.int Cv 0,Value.bool false,Cf,Cf,Ck #[Value.slice ab nb cb,Value.int Cv 0],Value.slice am nm cm,Value.int Cv most,Ck #[Value.slice ab nb cb,Value.int Cv 0],Value.slice ab nb cb,Value.int Cv 0,Value.int Cv 0,Value.bool false,Cf,Cf,Ck #[Cy #[Cx q1,Cq q2 q3 q4,Cx q5,Cq q6 q7 q8],Value.bool true],Cy #[Cx ua1,Cq ua2 ua3 ua4,Cx ua5,Cq ua6 ua7 ua8,Cz Cv R,Cz Cv A,Cx ub1,Cq ub2 ub3 ub4,Cx ub5,Cq ub6 ub7 ub8,Cx uc1,Cq uc2 uc3 uc4,Cx uc5,Cq uc6 uc7 uc8],Value.slice am nm cm,Value.int Cv (nm:Nat),Ck #[Cy #[Cx q1,Cq q2 q3 q4,Cx q5,Cq q6 q7 q8],Value.bool true],Cy #[Cx q1,Cq q2 q3 q4,Cx q5,Cq q6 q7 q8],Value.bool true,Value.bool true,Value.bool false,Cf,Value.slice aa na ca,Value.slice ab nb cb,Value.pointer (some ⟨w.heap.size+1+1,0,none⟩),Cy #[Cx ua1,Cq ua2 ua3 ua4,Cx ua5,Cq ua6 ua7 ua8],FV,Cy (CA x.1),Cy (CB x.2),Cf,Cf,Cf,Cf,Cf,Cf,Cf,Cf,Cf,Cf,Cf,Cf,Cf,Cf,Cf,Cf,Cf,Cf,Cf,Cf,Cf,Cf,Cf,Cf,Cf,Cf,Cf,Cf,Cf,Cf,Cf,Cf,Cf,Cf,Cf,Cf,Cf,Cf,Cf,Cf,Cf,Cf,Cf,Cf,Cf,Cf,Cf,Cf,Cf,Cf,Cf,Cf,Cf,Cf,Cf,Cf,Cf,Cf,Cf,Cf,Cf,Cf,Cf,Cf,Cf,Cf,Cf,Cf,Cf,Cf,Cf,Cf,Cf,Cf,Cf,Cf,Cf,Cf,Cf],defers:= [] }/\ai W p 83 (CA x.1)/\ai W q 83 (CB x.2))
  ?ao ?assign ?body ?done
 case seq=>
  have z2:sz off 500:=l9.mono B_;have hS:Z8 a b off=jL (fun i=>fN (fun t j=>some (rA (b.getD t zM) j)) (fun j=>some (rA (a.getD i zM) j)) off nb) na:=by unfold Z8; rw[lh,iV]
  rw[hS]
  exact Q8 2 w8.heap.size (w8.heap.size+1) (w8.heap.size+1+1) (X.heap.size+1) na nb aa ab ca cb CA CB (fun t j=>some (rA (a.getD t zM) j)) (fun t j=>some (rA (b.getD t zM) j)) ua1 ua5 ua2 ua6 ua3 ua4 ua7 ua8 (some off) _ mE B_ B_ (by have:=MM.1; omega) (by have:=ML.1; omega)
   (fun i hi=>by rw[QW (by have:=MM.1; omega) m8]; exact VS _ _ _ _) (fun i hi t ht=>We _ _ _ _ t ht) (fun i hi=>Nat.le_trans (WU _ _ _ _) (by have:=MM.1; omega))
   (fun t ht i _=>((MM.2 t ht).1 i).mono B_) (fun t ht i _=>((ML.2 t ht).1 i).mono B_) z2
 case al=>
  rintro xs W W' ⟨a4,Y,N,a8,ac,ab,J⟩ st;exact⟨a4.ae st,Y.ae st,N.ae st,a8.ae st,ac.ae st,ab.ae st,zp J (Cl _) st⟩
 case io=>
  rintro xs W o o' ⟨a4,Y,N,a8,ac,ab,J⟩ ho iR;have kp:∀g t cs,ai W g t cs->ai (W.putObj (w7.heap.size+1) o') g t cs:=fun g t cs h=>zZ h (grownBy_putObj' W _ o') (fun r e=>by cases e; exact⟨o,ho,iR⟩);exact⟨kp _ _ _ a4,kp _ _ _ Y,kp _ _ _ N,kp _ _ _ a8,kp _ _ _ ac,ab.put ho iR,J.grown (grownBy_putObj' W _ o') J.size (fun k hk=>by cases hk; omega)⟩
 case h0=>exact⟨o4,o5,o7,o8,oc,ob,b7⟩
 case ao=>
  rintro x a' W o o' ⟨p,q,e,h1,h2⟩ ho iR;have kp:∀g t cs,ai W g t cs->ai (W.putObj (w7.heap.size+1) o') g t cs:=fun g t cs h=>zZ h (grownBy_putObj' W _ o') (fun r e=>by cases e; exact⟨o,ho,iR⟩);exact⟨p,q,e,kp _ _ _ h1,kp _ _ _ h2⟩
 case assign=>
  rintro pre x W K' ⟨a4,Y,N,a8,ac,ax,J⟩ ⟨x1,x2⟩ mw iC;have HI:=C5 (C6 a4 (C6 Y (C6 N (C6 a8 (C6 ac (C6 ax J))))));have iT:=NB.qa.1 x.1 x1;have iQ:=NB.qb.1 x.2 x2;unfold Jz;dsimp only at iC|-;generalize CA x.1=C at iC iT|-;generalize CB x.2=D_ at iC iQ|-;have HK:=C5 iC;have ic:(Tryz.prog.info? 83).map (·.size)=some C.size:=by rw[iT.1]; kernel_rfl
  have mB:(Tryz.prog.info? 83).map (·.size)=some D_.size:=by rw[iQ.1]; kernel_rfl
  clear a4 Y N a8 ac ax J iC NB Z
  gi_upto_region 22 with fail
  refine yo B' ?_
  repeat' (first | ((with_reducible show wpList _ _ _ (⟨none,.store _ _ _,_,_,_,_⟩::_) _ _); refine zE rfl 83 (.tmp 20) (.tmp 76) rfl W.heap.size C rfl rfl 83 Jf zw ic iT.1.symm iT.2.1 (fun W1 r1=> ?_)) | go_values | go_skip | go_guarded | go_step | go_upon)
  have lF:zf W W1:=r1.below ((Cp W.heap.size W).alloc (Cl _) _) (Cl _);have ms:=r1.bP;clear r1;generalize W.heap.size=pp at *;dsimp only[yM,Act.put]
  gi_upto_region 23 with fail
  refine yo B' ?_
  repeat' (first | ((with_reducible show wpList _ _ _ (⟨none,.store _ _ _,_,_,_,_⟩::_) _ _); refine zE rfl 83 (.tmp 21) (.tmp 77) rfl W1.heap.size D_ rfl rfl 83 Jf zw mB iQ.1.symm iQ.2.1 (fun W2 r2=> ?_)) | go_values | go_skip | go_guarded | go_step | go_upon)
  have lW:zf W1 W2:=r2.below ((Cp W1.heap.size W1).alloc (Cl _) _) (Cl _);have st:zf W W2:=Below.trans lF (lW.mono lF.size);have mH:=r2.bP;obtain⟨a4,Y,N,a8,ac,ax,J⟩:=HI.out;dsimp only[yM,Act.put];exact HK.out _ _ ⟨st.size,fun k o hk _=>(st.block k (Array.getElem?_eq_some_iff.1 hk).1).trans hk⟩ (KG.ae st) ⟨a4.ae st,Y.ae st,N.ae st,a8.ae st,ac.ae st,ax.ae st,zp J (Cl _) st⟩ ⟨_,_,rfl,ms.ae lW,mH⟩
 case body=>
  rintro pre x a' W ⟨mG,lg⟩ ⟨a4,Y,N,a8,ac,ax,J⟩ ⟨p,q,rfl,h1,h2⟩ ⟨x1,x2⟩ mw;clear lg mG;obtain⟨j0,j1,j2,j3,k0,k1,k2,k3,y0,y1,y2,y3,iU⟩:=(ML.2 x.1 x1).2.ex;obtain⟨i0,i1,i2,i3,m0,m1,m2,m3,z0,z1,z2,z3,lO⟩:=(MM.2 x.2 x2).2.ex;have kc:bJ W (Cq al nl cl) l:=Z.out.1.ae J;have iY:bJ W (Cq am nm cm) m:=Z.out.2.1.ae J
  have mz:∀i,i<4->sz (tX l m a b x i) 16:=fun i hi=>by
   have e:tX l m a b x=kZ (pt l j0) (pt l j1) (pt m i0) (pt m i1):=by unfold tX; rw[k0,k1,m0,m1]; rfl
   rw[e];exact WX (xm fd.out.1 j0 y0) (xm fd.out.1 j1 y1) (xm fd.out.2 i0 z0) (xm fd.out.2 i1 z1) iU i hi
  have SM:∀w',zf W w'->Cb Ch 38 #[Cj (some ⟨gc,0,none⟩),Cy #[Cz Cv (pt l j0).1,Cz Cv (pt l j0).2],Cy #[Cz Cv (pt l j1).1,Cz Cv (pt l j1).2],Cy #[Cz Cv (pt m i0).1,Cz Cv (pt m i0).2],Cy #[Cz Cv (pt m i1).1,Cz Cv (pt m i1).2]] w' fun e w2=>∃v,e = Cg v/\cz w2 v (tX l m a b x)/\zf w' w2:=fun w' s=>by
   have e:tX l m a b x=kZ (pt l j0) (pt l j1) (pt m i0) (pt m i1):=by unfold tX; rw[k0,k1,m0,m1]; rfl
   rw[e];exact XP w' (ac.ae s) (xm fd.out.1 j0 y0) (xm fd.out.1 j1 y1) (xm fd.out.2 i0 z0) (xm fd.out.2 i1 z1) iU
  obtain⟨b0,o0,rfl,iK,m7,mj⟩:=kc.at y0;obtain⟨mZ,mJ,e,mf,kw,l3⟩:=kc.at y1;simp only[Option.some.injEq,Addr.mk.injEq,and_true]at e;obtain⟨rfl,rfl⟩:=e;obtain⟨b1,o1,rfl,iH,mh,lC⟩:=iY.at z0;obtain⟨mL,mK,e,ml,kE,lw⟩:=iY.at z1;simp only[Option.some.injEq,Addr.mk.injEq,and_true]at e;obtain⟨rfl,rfl⟩:=e;have iZ:(CA x.1)[0]? = some (Cz Cv (j0:Nat)):=by have:=(fA x.1 x1).2.2.1 0 B_; rwa[show kA (a.getD x.1 zM) 0=(j0:Int) from k0]at this
  have ks:(CA x.1)[1]? = some (Cz Cv (j1:Nat)):=by have:=(fA x.1 x1).2.2.1 1 B_; rwa[show kA (a.getD x.1 zM) 1=(j1:Int) from k1]at this
  have l8:(CB x.2)[0]? = some (Cz Cv (i0:Nat)):=by have:=(fB x.2 x2).2.2.1 0 B_; rwa[show kA (b.getD x.2 zM) 0=(i0:Int) from m0]at this
  have mn:(CB x.2)[1]? = some (Cz Cv (i1:Nat)):=by have:=(fB x.2 x2).2.2.1 1 B_; rwa[show kA (b.getD x.2 zM) 1=(i1:Int) from m1]at this
  have p0:W.cell? ⟨p,0,none⟩=some (Cz Cv (j0:Nat)):=h1.c 0 iZ;have p1:W.cell? ⟨p,1,none⟩=some (Cz Cv (j1:Nat)):=h1.c 1 ks;have q0:W.cell? ⟨q,0,none⟩=some (Cz Cv (i0:Nat)):=h2.c 0 l8;have lf:W.cell? ⟨q,1,none⟩=some (Cz Cv (i1:Nat)):=h2.c 1 mn
  have ho:aC W (Cq (some ⟨p,0,none⟩) 4 4) [(j0:Int),j1,j2,j3]:=by
   have mp:(CA x.1)[2]? = some (Cz Cv (j2:Nat)):=by have:=(fA x.1 x1).2.2.1 2 B_; rwa[show kA (a.getD x.1 zM) 2=(j2:Int) from k2]at this
   have mr:(CA x.1)[3]? = some (Cz Cv (j3:Nat)):=by have:=(fA x.1 x1).2.2.1 3 B_; rwa[show kA (a.getD x.1 zM) 3=(j3:Int) from k3]at this
   refine⟨_,4,rfl,Cl _,fun _=>⟨p,0,rfl,h1.lt,fun t ht=> ?_⟩⟩
   rcases(show t=0\/t=1\/t=2\/t=3 by simp at ht; omega)with rfl | rfl | rfl | rfl
   . exact h1.c 0 iZ
   . exact h1.c 1 ks
   . exact h1.c 2 mp
   . exact h1.c 3 mr
  have lQ:xB wq s (pX l m a b R x) (fun i:Nat=>xJ [(j0:Int),j1,j2,j3] (i:Int) [(j0:Int),j1,j2,j3].length) nl=oX l m a b R wq s x:=by
   rw[VV]; unfold oX; rw[k0,k1,k2,k3,HN.out.1]
  have f4:W.cell? ⟨w.heap.size,0,none⟩=some (Cq (some ⟨b0,o0,none⟩) nl cl):=a4.c 0 rfl;have f5:W.cell? ⟨w.heap.size+1,0,none⟩=some (Cq (some ⟨b1,o1,none⟩) nm cm):=Y.c 0 rfl;have l4:=a4.lt;have l5:=Y.lt;have lp:=h1.lt;have lq:=h2.lt;have mP:j0<nl:=by have:=HN.out.1; omega
  have mT:j1<nl:=by have:=HN.out.1; omega
  have mR:i0<nm:=by have:=HN.out.2; omega
  have mY:i1<nm:=by have:=HN.out.2; omega
  have HI:=C5 (C6 a4 (C6 Y (C6 N (C6 a8 (C6 ac (C6 ax J))))));have HP:=C5 (C6 h1 h2);clear a4 Y N a8 ac ax J h1 h2 iU lO kc iY iZ ks l8 mn
  gi_upto_region 24 with fail
  refine aj.dX W W [.n 26 70 yZ 27 [24] By] [24,26,27] [(24,eJ),(26,jH)] [(24,fun x_ W'=>cz W' x_ (tX l m a b x))] [(27,[(26,some 22),(24,some 102)]),(28,[(26,some 22),(24,some 102)])] [(26,[27])] (by simp only[aX]; exact⟨zi,zo,trivial⟩) (fun N0 fW M Q' H hQ=> ?_)
   (by intro p hp; simp only[List.mem_cons,List.not_mem_nil,or_false]at hp; rcases hp with rfl | rfl; exact⟨_,eJ.mk⟩; exact⟨_,0,rfl⟩) (by intro p hp; simp only[List.mem_cons,List.not_mem_nil,or_false]at hp; subst hp; intro x W W' k h; exact cz.af h k)
  refine aj.cC H 78 (fun _ _ _ _ h=>(h.b.cell (p:=⟨w.heap.size,0,none⟩) l4).trans f4) ?_
  iterate 2 refine aj.RQ H _ ?_
  refine aj.cC H 81 (fun _ _ _ _ h=>(h.b.cell (p:=⟨p,0,none⟩) lp).trans p0) ?_
  iterate 1 refine aj.RQ H _ ?_
  refine aj.cC H 83 (fun _ _ _ _ h=>C6 ((h.b.cell (p:=⟨b0,o0+j0*2,none⟩) iK).trans m7) ((h.b.cell (p:=⟨b0,o0+j0*2+1,none⟩) iK).trans mj)) ?_;refine aj.cC H 84 (fun _ _ _ _ h=>(h.b.cell (p:=⟨w.heap.size,0,none⟩) l4).trans f4) ?_
  iterate 2 refine aj.RQ H _ ?_
  refine aj.cC H 87 (fun _ _ _ _ h=>(h.b.cell (p:=⟨p,1,none⟩) lp).trans p1) ?_
  iterate 1 refine aj.RQ H _ ?_
  refine aj.cC H 89 (fun _ _ _ _ h=>C6 ((h.b.cell (p:=⟨b0,o0+j1*2,none⟩) iK).trans kw) ((h.b.cell (p:=⟨b0,o0+j1*2+1,none⟩) iK).trans l3)) ?_;refine aj.cC H 90 (fun _ _ _ _ h=>(h.b.cell (p:=⟨w.heap.size+1,0,none⟩) l5).trans f5) ?_
  iterate 2 refine aj.RQ H _ ?_
  refine aj.cC H 93 (fun _ _ _ _ h=>(h.b.cell (p:=⟨q,0,none⟩) lq).trans q0) ?_
  iterate 1 refine aj.RQ H _ ?_
  refine aj.cC H 95 (fun _ _ _ _ h=>C6 ((h.b.cell (p:=⟨b1,o1+i0*2,none⟩) iH).trans mh) ((h.b.cell (p:=⟨b1,o1+i0*2+1,none⟩) iH).trans lC)) ?_;refine aj.cC H 96 (fun _ _ _ _ h=>(h.b.cell (p:=⟨w.heap.size+1,0,none⟩) l5).trans f5) ?_
  iterate 2 refine aj.RQ H _ ?_
  refine aj.cC H 99 (fun _ _ _ _ h=>(h.b.cell (p:=⟨q,1,none⟩) lq).trans lf) ?_
  iterate 1 refine aj.RQ H _ ?_
  refine aj.cC H 101 (fun _ _ _ _ h=>C6 ((h.b.cell (p:=⟨b1,o1+i1*2,none⟩) iH).trans kE) ((h.b.cell (p:=⟨b1,o1+i1*2+1,none⟩) iH).trans lw)) ?_;refine aj.sC (m:=fun u=>u) (F:=fun W' u=>cz W' u (tX l m a b x)) H (fun D v W' hj _=>SM W' hj.b) ?_ (hv:=fun W' u h=>h.eP);rintro _ ⟨cy,cg,bi,fe,ce,f8,ec,ci,fl,bh,ek,eM,eF,f9,cx,d9,dP,dc,b9,dd,bl,dk,bq,be,cN,eW,bg,em,dx,dl,bt,dy,rfl⟩;refine aj.cT rfl ?_;refine aj.RQ H 103 ?_ (h:=fun W' K hK=>by refine QB 70 #[(0,.tmp 102)] rfl #[Cx cy,Cq cg bi fe,Cx ce,Cq f8 ec ci,Cx fl,Cq bh ek eM,Cx eF,Cq f9 cx d9,Cx dP,Cq dc b9 dd,Cx bl,Cq dk bq be,Cx cN,Cq eW bg em,Cx dx,Cq dl bt dy,Cq none 0 0,Cx false,Cq none 0 0,Cx false,Cq none 0 0] B' ?_; exact hK.out);refine aj.sA H ?_;rintro _ ⟨pm,rfl⟩;refine aj.cT rfl ?_;refine aj.sN H ?_ (h:=fun W' hb K hK=>by refine wp_store_row 70 (.tmp 22) (.tmp 103) rfl pm #[Cx cy,Cq cg bi fe,Cx ce,Cq f8 ec ci,Cx fl,Cq bh ek eM,Cx eF,Cq f9 cx d9,Cx dP,Cq dc b9 dd,Cx bl,Cq dk bq be,Cx cN,Cq eW bg em,Cx dx,Cq dl bt dy,Cq none 0 0,Cx false,Cq none 0 0,Cx false,Cq none 0 0] rfl rfl 70 _ hb B' rfl (by simp[Value.oneCell']) ?_; exact hK.out _ ⟨rfl,rfl,rfl,(bD.eT hb).only⟩ (bD.eT hb).bP);refine aj.sE (fun _ v' W2 B2 jk hl _ _ hf=> ?_);simp only[qB,qF]at hl;obtain⟨ea,-⟩:=hl;obtain⟨zc,om⟩:N0<=pm/\ai W2 pm 70 #[Cx cy,Cq cg bi fe,Cx ce,Cq f8 ec ci,Cx fl,Cq bh ek eM,Cx eF,Cq f9 cx d9,Cx dP,Cq dc b9 dd,Cx bl,Cq dk bq be,Cx cN,Cq eW bg em,Cx dx,Cq dl bt dy,Cq none 0 0,Cx false,Cq none 0 0,Cx false,Cq none 0 0]:=ea pm rfl;have S0:cz W2 (Cy #[Cx cy,Cq cg bi fe,Cx ce,Cq f8 ec ci,Cx fl,Cq bh ek eM,Cx eF,Cq f9 cx d9,Cx dP,Cq dc b9 dd,Cx bl,Cq dk bq be,Cx cN,Cq eW bg em,Cx dx,Cq dl bt dy]) (tX l m a b x):=(hf (24,some 102) (.tail _ (.head _)) rfl).2.2;have zN:W.heap.size<=N0:=Nat.le_of_eq fW.out.symm;clear hf ea jk fW;refine hQ _ _ ?_;clear hQ H Q' M;obtain⟨a4,Y,N,a8,ac,ax,J⟩:=HI.out;replace a4:=a4.ae B2;replace Y:=Y.ae B2;replace N:=N.ae B2;replace a8:=a8.ae B2;replace ac:=ac.ae B2;replace ax:=ax.ae B2;replace J:=zp J (Cl _) B2;have h1:=HP.out.1.ae B2;have mq:KG (X.heap.size+1) W W2:=KG.ae B2;have ln:=C5 B2;have lk:W.heap.size<=pm:=B_
  clear f4 f5 p0 p1 q0 lf l4 l5 lp lq m7 mj kw l3 mh lC kE lw iK mf iH ml SM zc zN B2;obtain⟨S1,S2,S3,S4⟩:=G5 S0;have PR:=fun(w':Cc) (st:zf W2 w')=>VN (gc:=gc) (tc:=89) R w' (ac.ae st) (S1.af (av.ae st)) (S2.af (av.ae st)) (S3.af (av.ae st)) (S4.af (av.ae st)) (fun i hi=>mz i hi) (Z.out.1.ae (zp J (Cl _) st)) (Z.out.2.1.ae (zp J (Cl _) st)) fd.out.1 fd.out.2 hR.1 hR.2.1;have f4:W2.cell? ⟨w.heap.size,0,none⟩=some (Cq (some ⟨b0,o0,none⟩) nl cl):=a4.c 0 rfl;have f5:W2.cell? ⟨w.heap.size+1,0,none⟩=some (Cq (some ⟨b1,o1,none⟩) nm cm):=Y.c 0 rfl;have f7:W2.cell? ⟨w.heap.size+1+1,4,none⟩=some (Cz Cv R):=N.c 4 rfl
  have lK:∀j,j<(#[Cx cy,Cq cg bi fe,Cx ce,Cq f8 ec ci,Cx fl,Cq bh ek eM,Cx eF,Cq f9 cx d9,Cx dP,Cq dc b9 dd,Cx bl,Cq dk bq be,Cx cN,Cq eW bg em,Cx dx,Cq dl bt dy]:Array Cd).size->W2.cell? ⟨pm,0+j,none⟩=(#[Cx cy,Cq cg bi fe,Cx ce,Cq f8 ec ci,Cx fl,Cq bh ek eM,Cx eF,Cq f9 cx d9,Cx dP,Cq dc b9 dd,Cx bl,Cq dk bq be,Cx cN,Cq eW bg em,Cx dx,Cq dl bt dy]:Array Cd)[j]? :=fun j hj=>by
   rw[Nat.zero_add,om.cell j];exact(UN hj).symm
  gi_upto_region 25 with fail
  refine yo B' ?_
  repeat' (first | ((with_reducible show wpList _ _ _ (⟨some 105,_,_,_,_,_⟩::_) _ _); refine kJ rfl 30 (.tmp 104) rfl pm 0 rfl #[Cx cy,Cq cg bi fe,Cx ce,Cq f8 ec ci,Cx fl,Cq bh ek eM,Cx eF,Cq f9 cx d9,Cx dP,Cq dc b9 dd,Cx bl,Cq dk bq be,Cx cN,Cq eW bg em,Cx dx,Cq dl bt dy] _ lK Tryz.underlying30 rfl B' ?_) | go_values | go_skip | go_guarded | go_step | go_upon)
  refine(PR W2 (Cp _ _)).mono ?_;rintro e W3 ⟨u,rfl,hu,iN⟩;replace hu:aC W3 u (pX l m a b R x):=hu;have iP:=WV l m a b R x;rw[HN.out.1]at iP;obtain⟨uo,uc,rfl⟩:=hu.au;rw[iP]at hu|-;have ip:=om.ae iN;clear f4 f5 f7 lK PR;have iL:=ip.eZ;have lm:=ip.lt;have fm:=ip.fr;dsimp only
  repeat' (first | go_values | go_skip | go_guarded | go_step | go_upon)
  dsimp only[yM,Act.put];have iu:ai (W3.setCell ⟨pm,16,none⟩ (Cq uo nl uc)) pm 70 #[Cx cy,Cq cg bi fe,Cx ce,Cq f8 ec ci,Cx fl,Cq bh ek eM,Cx eF,Cq f9 cx d9,Cx dP,Cq dc b9 dd,Cx bl,Cq dk bq be,Cx cN,Cq eW bg em,Cx dx,Cq dl bt dy,Cq uo nl uc,Cx false,Cq none 0 0,Cx false,Cq none 0 0]:=ip.bI 16 _;have lj:av W3 (W3.setCell ⟨pm,16,none⟩ (Cq uo nl uc)):=av.only ip rfl ((bC.refl _ _).set);have iG:zf W (W3.setCell ⟨pm,16,none⟩ (Cq uo nl uc)):=Below.setCell (p:=⟨pm,16,none⟩) (zp ln.out (Cl _) iN) lk _;have ja:aC (W3.setCell ⟨pm,16,none⟩ (Cq uo nl uc)) (Cq uo nl uc) (pX l m a b R x):=hu.only ip C3 ((bC.refl _ _).set);have lP:=(S0.af (av.ae iN)).af lj;generalize W3.setCell ⟨pm,16,none⟩ (Cq uo nl uc)=W4 at *;clear iL lm fm ip iN hu lj om S0 S1 S2 S3 S4 a4 Y N a8 ac ax J h1 mq ln;obtain⟨a4,Y,N,a8,ac,ax,J⟩:=HI.out
  have OD:∀w',zf W4 w'->Cb Ch 51 #[Cj (some ⟨gc,0,none⟩),Cy #[Cx ua1,Cq ua2 ua3 ua4,Cx ua5,Cq ua6 ua7 ua8,Cz Cv R,Cz Cv A,Cx ub1,Cq ub2 ub3 ub4,Cx ub5,Cq ub6 ub7 ub8,Cx uc1,Cq uc2 uc3 uc4,Cx uc5,Cq uc6 uc7 uc8],Cq uo nl uc,Cz Cv nm,Cq (some ⟨p,0,none⟩) 4 4] w' fun e w2=>∃v,e = Cg v/\FR w2 v (oX l m a b R wq s x)/\zf w' w2:=fun w' st=>by
   have sw:zf W w':=zp iG (Cl _) st;have ub:=(Z.out.2.2.2.1.af (av.ae J)).af (av.ae sw);rw[e1]at ub;have:=Wa (ua1:=ua1) (ua2:=ua2) (ua3:=ua3) (ua4:=ua4) (ua5:=ua5) (ua6:=ua6) (ua7:=ua7) (ua8:=ua8) (uc1:=uc1) (uc2:=uc2) (uc3:=uc3) (uc4:=uc4) (uc5:=uc5) (uc6:=uc6) (uc7:=uc7) (uc8:=uc8) (R:=R) (A:=A) (n:=(nm:Int)) w' (ac.ae sw) ub ss hR.1 hR.2.1 hR.2.2.1 hR.2.2.2 B_ B_ (ja.ae st) (ho.ae sw) (by rw[iP]; omega) C3;rw[iE,iP,lQ]at this;exact this
  have l4:=N.lt;have l5:=Y.lt;have f5:W.cell? ⟨w.heap.size+1,0,none⟩=some (Cq (some ⟨b1,o1,none⟩) nm cm):=Y.c 0 rfl;have iL:=iu.eZ;have lm:=iu.lt
  gi_upto_region 26 with fail
  refine qz (fun D v W'=>(D 9=false->zf W4 W')/\(D 9=true->D 7=true/\∃W5 c,zf W4 W5/\Wr pm W5 W'/\v 7 = Cy c/\ai W' pm 70 (#[Cx cy,Cq cg bi fe,Cx ce,Cq f8 ec ci,Cx fl,Cq bh ek eM,Cx eF,Cq f9 cx d9,Cx dP,Cq dc b9 dd,Cx bl,Cq dk bq be,Cx cN,Cq eW bg em,Cx dx,Cq dl bt dy,Cq uo nl uc]++c))) (aj.inl [7,9]) (aj.gv [(7,y_)]) (gw [(7,bU (oX l m a b R wq s x))]) (fun _=>av) (fun _ _=>False) (aj.pl [(9,[(7,some 119)]),(10,[(7,some 119)])]) (aj.pl [(0,[9]),(2,[9]),(3,[9]),(7,[9])])
   B' B' B' B' (aj.bk _ (by intro p hp; simp only[List.mem_cons,List.not_mem_nil,or_false]at hp; rcases hp with rfl; exact⟨_,false,none,0,0,false,none,0,0,rfl⟩)) (fun _=>⟨fun _=>zi,fun h=>by cases h⟩) (fun D v v' W' hv hj=>⟨hj.1,fun h=>by obtain⟨d,W5,c,g1,g2,g3,g4⟩:=hj.2 h; exact⟨d,W5,c,g1,g2,(hv 7 d)▸g3,g4⟩⟩)
   (fun _ _ _ _ _ _ _ _ _ _ _ hk hx=>qW _ (by intro p hp; simp only[List.mem_cons,List.not_mem_nil,or_false]at hp; subst hp; exact bU.af) hk hx) (fun _ _ _ _ h=>h.elim) (fun M Q' H hQ=> ?_)
  refine aj.cC H 112 (fun _ _ _ hc hj=>N.ae (zp iG (Cl _) (hj.1 (hc.2 9 C0)))) ?_ (h:=fun W' hf K hK=>by refine wp_load_row 45 (.tmp 7) rfl (w.heap.size+1+1) rfl 45 #[Cx ua1,Cq ua2 ua3 ua4,Cx ua5,Cq ua6 ua7 ua8,Cz Cv R,Cz Cv A,Cx ub1,Cq ub2 ub3 ub4,Cx ub5,Cq ub6 ub7 ub8,Cx uc1,Cq uc2 uc3 uc4,Cx uc5,Cq uc6 uc7 uc8] (0,0) _ hf Tryz.underlying45 rfl B' ?_; exact hK.out);refine aj.cT rfl ?_;refine aj.RQ H _ ?_;refine aj.cC H 114 (fun _ _ _ hc hj=>((hj.1 (hc.2 9 C0)).cell (p:=⟨pm,16,none⟩) lm).trans iL) ?_;refine aj.cC H 115 (fun _ _ _ hc hj=>((zp iG (Cl _) (hj.1 (hc.2 9 C0))).cell (p:=⟨w.heap.size+1,0,none⟩) l5).trans f5) ?_
  iterate 3 refine aj.RQ H _ ?_
  refine aj.aB rfl (j9 rfl) (by rw[H]; rfl) (fun D v' W' hc hj hf K hK=> ?_) ?_
  .
   have s4:=hj.1 (hc.2 9 C0);go_step;refine(OD W' s4).mono ?_;rintro e W6 ⟨u,rfl,hF,s5⟩;exact hK.out _ _ (av.ae s5) ⟨fun _=>zp s4 (Cl _) s5,fun h=>Bool.noConfusion ((hc.2 9 C0).symm.trans h)⟩ hF hF.au
  rintro _ ⟨d1,d2,d3,d4,d5,d6,d7,d8,rfl⟩;refine aj.cT rfl ?_;refine aj.RQ H _ ?_;refine aj.aB rfl (by intro t ht; cases ht) (by rw[H]; rfl) (fun D v' W' hc hj hf K hK=> ?_) (fun _ _=>aj.aD (b:=⟨_,_⟩) rfl ?_)
  .
   have s4:=hj.1 hc.1;have f:=hf (7,some 119) (.head _) rfl;have e7:v' 7 = Cy #[Cx d1,Cq d2 d3 d4,Cx d5,Cq d6 d7 d8]:=f.2.1;have hb:=iu.ae s4;have ff:=hb.fr;have lp:=hb.lt;have mS:=hb.fE;have mQ:=hb.fO;have mO:=hb.fJ;have mW:=hb.fH;go_step;exact hK.out Cf _ (av.only hb rfl ((bC.refl _ _).set.set.set.set)) ⟨fun h=>Bool.noConfusion h,fun _=>⟨f.1,W',_,s4,(Wr.refl _ _).set.set.set.set,e7,((((hb.bI 17 _).bI 18 _).bI 19 _).bI 20 _)⟩⟩ trivial trivial
  refine aj.aH (fun Dn v' W6 hd hj hf=> ?_);obtain⟨-,W5,c,g1,g2,g3,gi⟩:=hj.2 (hd 9 C0);have f:=hf (7,some 119) (.head _) rfl;have e7:v' 7 = Cy #[Cx d1,Cq d2 d3 d4,Cx d5,Cq d6 d7 d8]:=f.2.1;have e8:#[Cx d1,Cq d2 d3 d4,Cx d5,Cq d6 d7 d8]=c:=by have e9:=e7.symm.trans g3; injection e9
  subst e8;have F6:FR W6 (Cy #[Cx d1,Cq d2 d3 d4,Cx d5,Cq d6 d7 d8]) (oX l m a b R wq s x):=f.2.2;have ft:zf W W6:=g2.fu (zp iG (Cl _) g1) lk;have ig:aC W6 (Cq uo nl uc) (pX l m a b R x):=(ja.ae g1).only (iu.ae g1) C3 g2.only;have ij:=(lP.af (av.ae g1)).af (g2.fj (iu.ae g1));clear hd hf hj f e7 g3 g1 g2 iu iG ja lP OD l4 l5 f5 iL lm W5;refine hQ _ _ ?_;clear hQ H Q' M;replace a4:=a4.ae ft;replace Y:=Y.ae ft;replace N:=N.ae ft;replace a8:=a8.ae ft;replace ac:=ac.ae ft;replace ax:=ax.ae ft;replace J:=zp J (Cl _) ft;have iB:KG (X.heap.size+1) W W6:=KG.ae ft;have iW:=C5 ft;have iM:sz wq 20:=by rw[<- iE]; exact Y8 ss (jV hR.1 hR.2.1 hR.2.2.1 hR.2.2.2 (show (0:Int)<=(nm:Int) by omega) B_).1 (Rat.ne_of_gt (ki hR.1 hR.2.2.1 B_))
  have lE:=fun y=>Wf (l:=l) (m:=m) (a:=a) (b:=b) (R:=R) y iM ss (show l.length<=6 by have:=HN.out.1; omega);clear ft ho lQ;obtain⟨bo,gh⟩:∃z,ju (oX l m a b R wq s) pre=z:=⟨_,rfl⟩;rw[gh]at ax;have ka:=C5 (C6 iB (C6 a4 (C6 Y (C6 N (C6 a8 (C6 J (C6 ij ig)))))));clear iB a4 Y N a8 J ij ig HI HP;have ff:=gi.fr;have lm:=gi.lt;have lc:=ac.lt
  rcases bo with _ | y
  .
   have fp:W6.cell? ⟨X.heap.size+1,0,none⟩=some (Cj none):=ai.c ax 0 rfl;have ah:=ai.lt ax
   gi_upto_region 27 with fail
   refine aj.dX W6 W6 [] [] [] [] [] [] (by simp only[aX]; exact⟨zi,zo,trivial⟩) (fun N0 fW M Q' H hQ=> ?_) (by intro p hp; cases hp) (by intro p hp; cases hp);refine aj.cC H 121 (fun _ _ _ _ h=>(h.b.cell (p:=⟨X.heap.size+1,0,none⟩) ah).trans fp) ?_
   iterate 2 refine aj.RQ H _ ?_
   iterate 8 refine aj.cM rfl (by rw[H]; rfl) (aj.aD (b:=⟨#[_,_,_,_,_,_,_,_,_,_,_,_,_,_,_,_,_,_,_,_,_,_,_,_,_,_,_,_,_,_,_,_,_,_,_,_,_,_,_,_,_,_,_,_,_,_,_,_,_,_,_,_,_,_,_,_,_,_,_,_,_,_,_,_,_,_,_,_,_,_,_,_,_,_,_,_,_,_,_,_,_,_,_,_,_,_,_,_,_,_,_,_,_,_,_,_,_,_,_,_,_,_,_,_,_,_,_,_,_,_,_,_,_,_,_,_,_,_,_,_,_,_,_,_,_,_,_,_,_,_,_,_,_,_,_,_,_,_,_,_,_,_,_,_,_,_,_,_,_,_,_,_,_,_,_,_,_],_⟩) rfl ?_)
   refine aj.RQ H _ ?_;refine aj.sE (fun _ v' W7 I jk hl _ _ hf=> ?_);refine hQ _ _ ?_;clear hl hf hQ H Q' M jk fW;have fZ:=ai.ae ax I;have f7:=fZ.c 0 rfl;have l7:=fZ.lt;have mx:=fZ.fr
   gi_upto_region 28 with fail
   refine yo B' ?_
   repeat' (first | go_values | go_skip | go_guarded | go_step | go_upon)
   dsimp only[yM,Act.put];obtain⟨iB,a4,Y,N,a8,J,ij,ig⟩:=ka.out;have h:=V3 (zp iW.out (Cl _) I) (a4.ae I) (Y.ae I) (N.ae I) (a8.ae I) (ac.ae I) ⟨_,fZ⟩ (zp J (Cl _) I) (ai.cast (c':=#[Cx cy,Cq cg bi fe,Cx ce,Cq f8 ec ci,Cx fl,Cq bh ek eM,Cx eF,Cq f9 cx d9,Cx dP,Cq dc b9 dd,Cx bl,Cq dk bq be,Cx cN,Cq eW bg em,Cx dx,Cq dl bt dy]++#[Cq uo nl uc,Cx d1,Cq d2 d3 d4,Cx d5,Cq d6 d7 d8]) (gi.ae I) C3) (ij.af (av.ae I)) (ig.ae I) (F6.af (av.ae I)) (Y' gh) (n:=w7.heap.size) B_ B_ B_ B_;exact⟨h.1.from _,h.2.1,h.2.2⟩
  .
   have iA:=C5 ax;obtain⟨pb,CS,fY,mt,T,iS⟩:=ax;obtain⟨cs,u2,t1,t2,t3,t4,t5,t6,t7,t8,g9,bs,bu,bf⟩:=iS;obtain⟨gP,gn,gN,gz,gX,gV,gg,gK,gF,gC,gH,gY,gE,gQ,hZ,gW,gM,gD,gJ,h9,gB,gt,gZ,gG,gL,gk,gO,gI,gA,gp,gj,gR,es⟩:=bs.eP;have iD:cs=#[Cx gP,Cq gn gN gz,Cx gX,Cq gV gg gK,Cx gF,Cq gC gH gY,Cx gE,Cq gQ hZ gW,Cx gM,Cq gD gJ h9,Cx gB,Cq gt gZ gG,Cx gL,Cq gk gO gI,Cx gA,Cq gp gj gR]:=by injection es
   have iJ:CS=#[Cx gP,Cq gn gN gz,Cx gX,Cq gV gg gK,Cx gF,Cq gC gH gY,Cx gE,Cq gQ hZ gW,Cx gM,Cq gD gJ h9,Cx gB,Cq gt gZ gG,Cx gL,Cq gk gO gI,Cx gA,Cq gp gj gR,u2,Cx t1,Cq t2 t3 t4,Cx t5,Cq t6 t7 t8]:=by rw[iD]at g9; injection g9
   rw[iJ]at T;have mI:=C5 (C6 bs (C6 bu g9));clear es iJ g9 bs bu iD;have fp:W6.cell? ⟨X.heap.size+1,0,none⟩=some (Cj (some ⟨pb,0,none⟩)):=ai.c fY 0 rfl;have ah:=ai.lt fY;have er:=ai.lt T;have m9:=gi.c 17 rfl;have lI:=gi.c 18 rfl;have lN:=gi.c 19 rfl;have me:=gi.c 20 rfl;have iI:=T.c 17 rfl;have iF:=T.c 18 rfl;have iy:=T.c 19 rfl;have iz:=T.c 20 rfl;obtain⟨c,hc⟩:∃c,yJ (oX l m a b R wq s x) (oX l m a b R wq s y)=c:=⟨_,rfl⟩;have CP:∀w',zf W6 w'->Cb Ch 67 #[Cj (some ⟨gc,0,none⟩),Cy #[Cx d1,Cq d2 d3 d4,Cx d5,Cq d6 d7 d8],Cy #[Cx t1,Cq t2 t3 t4,Cx t5,Cq t6 t7 t8]] w' fun e w2=>e = Cg (Cz Cv c)/\zf w' w2:=fun w' st=>by rw[<- hc]; exact xl w' (ac.ae st) (F6.af (av.ae st)) (bf.af (av.ae st)) (lE x) (lE y) B_
   obtain⟨tc,fX⟩:∃d,decide (c<=0)=d:=⟨_,rfl⟩
   gi_upto_region 27 with fail
   refine aj.dX W6 W6 [] [6,9] [(6,fun x=>x = Cj (some ⟨pb,0,none⟩)),(9,fun x=>x = Cz Cv c)] [] [] [] (by simp only[aX]; exact⟨zi,zo,trivial⟩) (fun N0 fW M Q' H hQ=> ?_) (by intro p hp; simp only[List.mem_cons,List.not_mem_nil,or_false]at hp; rcases hp with rfl | rfl<;>exact⟨_,rfl⟩) (by intro p hp; cases hp);refine aj.cC H 121 (fun _ _ _ _ h=>(h.b.cell (p:=⟨X.heap.size+1,0,none⟩) ah).trans fp) ?_
   iterate 3 refine aj.RQ H _ ?_
   refine aj.cC H 125 (fun _ _ _ _ h=>C6 ((h.b.cell (p:=⟨pm,17,none⟩) lm).trans m9) (C6 ((h.b.cell (p:=⟨pm,18,none⟩) lm).trans lI) (C6 ((h.b.cell (p:=⟨pm,19,none⟩) lm).trans lN) ((h.b.cell (p:=⟨pm,20,none⟩) lm).trans me)))) ?_;refine aj.cC H 126 (fun _ _ _ _ h=>(h.b.cell (p:=⟨X.heap.size+1,0,none⟩) ah).trans fp) ?_;refine aj.aB rfl (ZE rfl rfl) (by rw[H]; rfl) (fun D v W' jb hj hf K hK=> ?_) ?_
   .
    go_step;exact hK.out _ _ (av.refl _) (hj.call jb.1 (by rfl) (Cp _ _)) trivial rfl
   rintro _ rfl;refine aj.cT rfl ?_;refine aj.RQ H _ ?_;refine aj.cC H 129 (fun _ _ _ _ h=>C6 ((h.b.cell (p:=⟨pb,17,none⟩) er).trans iI) (C6 ((h.b.cell (p:=⟨pb,18,none⟩) er).trans iF) (C6 ((h.b.cell (p:=⟨pb,19,none⟩) er).trans iy) ((h.b.cell (p:=⟨pb,20,none⟩) er).trans iz)))) ?_;refine aj.sV H (fun D v W' hj _=>CP W' hj.b) ?_;refine aj.cT rfl ?_
   iterate 2 refine aj.RQ H _ ?_
   refine aj.sE (fun _ v' W7 I jk hl _ _ hf=> ?_);refine hQ _ _ ?_;clear hl hf hQ H Q' M jk fW fp ah er m9 lI lN me iI iF iy iz CP;have fZ:=ai.ae fY I
   try rw[fX]
   clear bf fY T
   cases tc with
   | true=>
    have mF:=of_decide_eq_true fX;clear fX
    gi_wp2_with fail
    obtain⟨iB,a4,Y,N,a8,J,ij,ig⟩:=ka.out;have mb:=zp iW.out (Cl _) I;refine⟨(V2 mb).from _,KG.ae mb,a4.ae I,Y.ae I,N.ae I,a8.ae I,ac.ae I,?_,zp J (Cl _) I⟩;rw[Z7,Kd gh (by rw[hc]; exact mF),gh];have h:=iA.out.ae I
    rwa[show w7.heap.size=X.heap.size+2+3 by omega]at h
   | false=>
    have f7:=fZ.c 0 rfl;have l7:=fZ.lt;have mx:=fZ.fr
    gi_upto_region 28 with fail
    refine yo B' ?_
    repeat' (first | go_values | go_skip | go_guarded | go_step | go_upon)
    dsimp only[yM,Act.put];obtain⟨iB,a4,Y,N,a8,J,ij,ig⟩:=ka.out;have h:=V3 (zp iW.out (Cl _) I) (a4.ae I) (Y.ae I) (N.ae I) (a8.ae I) (ac.ae I) ⟨_,fZ⟩ (zp J (Cl _) I) (ai.cast (c':=#[Cx cy,Cq cg bi fe,Cx ce,Cq f8 ec ci,Cx fl,Cq bh ek eM,Cx eF,Cq f9 cx d9,Cx dP,Cq dc b9 dd,Cx bl,Cq dk bq be,Cx cN,Cq eW bg em,Cx dx,Cq dl bt dy]++#[Cq uo nl uc,Cx d1,Cq d2 d3 d4,Cx d5,Cq d6 d7 d8]) (gi.ae I) C3) (ij.af (av.ae I)) (ig.ae I) (F6.af (av.ae I)) (Q_ gh (by rw[hc]; have:=of_decide_eq_false fX; omega)) (n:=w7.heap.size) B_ B_ B_ B_;exact⟨h.1.from _,h.2.1,h.2.2⟩
 case done=>
  rintro D xs W hD rfl ⟨a4,Y,N,a8,ac,ax,g8⟩ br;have E:=k6.out;rw[hA,J,iE]at E;have mC:FR W (Cy #[Cx uc1,Cq uc2 uc3 uc4,Cx uc5,Cq uc6 uc7 uc8]) least:=by have h:=Z.out.2.2.2.2.1; rw[e2]at h; exact h.af (av.ae g8)
  have iA:=C5 (C6 ax (C6 g8 br));obtain⟨bo,gh⟩:∃z,ju (oX l m a b R wq s) (Z8 a b off)=z:=⟨_,rfl⟩;rw[gh]at ax E;have HE:=C5 E;clear NB E g8 br fd k6;have f0:=ac.c 0 rfl;have mX:=ac.lt
  rcases bo with _ | y
  .
   have fp:W.cell? ⟨X.heap.size+1,0,none⟩=some (Cj none):=ai.c ax 0 rfl;have ah:=ai.lt ax
   go_upto_region 31 with fail
   refine aj.dj W W [] [] [] [] [] [] (by simp only[aX]; exact⟨zi,zo,trivial⟩) (fun N0 fW M Q' H hQ=> ?_);refine aj.cC H 141 (fun _ _ _ _ h=>(h.b.cell (p:=⟨X.heap.size+1,0,none⟩) ah).trans fp) ?_
   iterate 2 refine aj.RQ H _ ?_
   iterate 8 refine aj.cM rfl (by rw[H]; rfl) (aj.aD (b:=⟨#[_,_,_,_,_,_,_,_,_,_,_,_,_,_,_,_,_,_,_,_,_,_,_,_,_,_,_,_,_,_,_,_,_,_,_,_,_,_,_,_,_,_,_,_,_,_,_,_,_,_,_,_,_,_,_,_,_,_,_,_,_,_,_,_,_,_,_,_,_,_,_,_,_,_,_,_,_,_,_,_,_,_,_,_,_,_,_,_,_,_,_,_,_,_,_,_,_,_,_,_,_,_,_,_,_,_,_,_,_,_,_,_,_,_,_,_,_,_,_,_,_,_,_,_,_,_,_,_,_,_,_,_,_,_,_,_,_,_,_,_,_,_,_,_,_,_,_,_,_,_,_,_,_,_,_,_,_],_⟩) rfl ?_)
   iterate 2 refine aj.RQ H _ ?_
   refine aj.sE (fun _ v' W7 I jk hl _ _ hf=> ?_);refine hQ _ _ ?_;clear hl hf hQ H Q' M jk fW fp ah;have o8:=a8.ae I
   go_upto_region 32 with fail
   refine wp_region_lit ?_
   repeat' (first | ((with_reducible show wpList _ _ _ (⟨some 153,_,_,_,_,_⟩::_) _ _); refine yi rfl 70 #[] rfl yZ B' ?_) | ((with_reducible show wpList _ _ _ (⟨none,.store _ _ _,_,_,_,_⟩::_) _ _); refine zE rfl 70 (.tmp 8) (.tmp 153) rfl (w.heap.size+1+1+1) yZ rfl rfl 70 yZ o8 B' rfl (by simp[yZ,Value.oneCell']) (fun wz rz=> ?_)) | go_values | go_skip | go_guarded | go_step | go_upon)
   obtain⟨ax,g8,br⟩:=iA.out;have B8:Below w.heap.size w wz:=rz.below (zp g8 (Cl _) I) B_;have jd:wz.heap[D]? = some (.deferred (some [])):=(rz.only.2 D B_).trans ((I.block D (Array.getElem?_eq_some_iff.1 br).1).trans br);have gr:∀r,some D=some r->∃o:Obj,wz.heap[r]? = some o/\o.isCells=false:=fun r e=>by cases e; exact⟨_,jd,rfl⟩
   have R8:=zZ rz.bP (grownBy_putObj' wz D (.deferred none)) gr;have BX:=B8.grown (grownBy_putObj' wz D (.deferred none)) B8.size (fun k hk=>by cases hk; omega);rw[Exit.noGoto_ret];refine⟨by simp,.inl ⟨_,_,rfl,run_takeDeferred jd,?_⟩⟩;refine⟨_,z8 rfl _ _ (w.heap.size+1+1+1) rfl (cs:=yZ) R8 Tryz.underlying70 rfl B',?_⟩;refine⟨_,by rw[HE.out]; rfl,?_,BX⟩;rw[HE.out];rfl
  .
   obtain⟨pb,CS,fY,mt,T,iS⟩:=ax;have HM:=C5 iS;obtain⟨cs,u2,t1,t2,t3,t4,t5,t6,t7,t8,g9,bs,bu,bf⟩:=iS;obtain⟨gP,gn,gN,gz,gX,gV,gg,gK,gF,gC,gH,gY,gE,gQ,hZ,gW,gM,gD,gJ,h9,gB,gt,gZ,gG,gL,gk,gO,gI,gA,gp,gj,gR,es⟩:=bs.eP;obtain⟨v2,v3,rfl⟩:=bu.au;obtain⟨v4,mu⟩:∃n,(pX l m a b R y).length=n:=⟨_,rfl⟩;rw[mu]at g9;have iD:cs=#[Cx gP,Cq gn gN gz,Cx gX,Cq gV gg gK,Cx gF,Cq gC gH gY,Cx gE,Cq gQ hZ gW,Cx gM,Cq gD gJ h9,Cx gB,Cq gt gZ gG,Cx gL,Cq gk gO gI,Cx gA,Cq gp gj gR]:=by injection es
   have iJ:CS=#[Cx gP,Cq gn gN gz,Cx gX,Cq gV gg gK,Cx gF,Cq gC gH gY,Cx gE,Cq gQ hZ gW,Cx gM,Cq gD gJ h9,Cx gB,Cq gt gZ gG,Cx gL,Cq gk gO gI,Cx gA,Cq gp gj gR,Cq v2 v4 v3,Cx t1,Cq t2 t3 t4,Cx t5,Cq t6 t7 t8]:=by rw[iD]at g9; injection g9
   rw[iJ]at T HM;have yl:=UO (Ke gh)
   have mU:1<=nm:=by
    obtain⟨i0,i1,i2,i3,-,-,-,-,z0,-,-,-,-⟩:=(MM.2 y.2 (by rw[<- iV]; exact yl.2)).2.ex;have:=HN.out.2;omega
   have iM:sz wq 20:=by rw[<- iE]; exact Y8 ss (jV hR.1 hR.2.1 hR.2.2.1 hR.2.2.2 (show (0:Int)<=(nm:Int) by omega) B_).1 (Rat.ne_of_gt (ki hR.1 hR.2.2.1 B_))
   have lY:sz (oX l m a b R wq s y) 122:=Wf (l:=l) (m:=m) (a:=a) (b:=b) (R:=R) y iM ss (show l.length<=6 by have:=HN.out.1; omega);have my:=C5 fY;have fp:W.cell? ⟨X.heap.size+1,0,none⟩=some (Cj (some ⟨pb,0,none⟩)):=ai.c fY 0 rfl;have ah:=ai.lt fY;have er:=ai.lt T;have l7:=N.lt;have iI:=T.c 17 rfl;have iF:=T.c 18 rfl;have iy:=T.c 19 rfl;have iz:=T.c 20 rfl;have eL:=N.c 10 rfl;have eO:=N.c 11 rfl;have eH:=N.c 12 rfl;have dz:=N.c 13 rfl;obtain⟨c,hc⟩:∃c,yJ (oX l m a b R wq s y) least=c:=⟨_,rfl⟩;have CP:∀w',zf W w'->Cb Ch 67 #[Cj (some ⟨gc,0,none⟩),Cy #[Cx t1,Cq t2 t3 t4,Cx t5,Cq t6 t7 t8],Cy #[Cx uc1,Cq uc2 uc3 uc4,Cx uc5,Cq uc6 uc7 uc8]] w' fun e w2=>e = Cg (Cz Cv c)/\zf w' w2:=fun w' st=>by rw[<- hc]; exact xl w' (ac.ae st) (bf.af (av.ae st)) (mC.af (av.ae st)) lY sl B_
   obtain⟨tc,fX⟩:∃d,decide (c<0)=d:=⟨_,rfl⟩;clear es iJ g9 bs bu iD bf iM lY
   go_upto_region 31 with fail
   refine aj.dj W W [] [4,9] [(4,fun x=>x = Cj (some ⟨pb,0,none⟩)),(9,fun x=>x = Cz Cv c)] [] [] [] (by simp only[aX]; exact⟨zi,zo,trivial⟩) (fun N0 fW M Q' H hQ=> ?_);refine aj.cC H 141 (fun _ _ _ _ h=>(h.b.cell (p:=⟨X.heap.size+1,0,none⟩) ah).trans fp) ?_
   iterate 2 refine aj.RQ H _ ?_
   refine aj.cC H 144 (fun _ _ _ _ h=>(h.b.cell (p:=⟨X.heap.size+1,0,none⟩) ah).trans fp) ?_;refine aj.aB rfl (ZE rfl rfl) (by rw[H]; rfl) (fun D v W' jb hj hf K hK=> ?_) ?_
   .
    go_step;exact hK.out _ _ (av.refl _) (hj.call jb.1 (by rfl) (Cp _ _)) trivial rfl
   rintro _ rfl;refine aj.cT rfl ?_;refine aj.RQ H _ ?_;refine aj.cC H 147 (fun _ _ _ _ h=>C6 ((h.b.cell (p:=⟨pb,17,none⟩) er).trans iI) (C6 ((h.b.cell (p:=⟨pb,18,none⟩) er).trans iF) (C6 ((h.b.cell (p:=⟨pb,19,none⟩) er).trans iy) ((h.b.cell (p:=⟨pb,20,none⟩) er).trans iz)))) ?_;refine aj.RQ H _ ?_;refine aj.cC H 149 (fun _ _ _ _ h=>C6 ((h.b.cell (p:=⟨w.heap.size+1+1,10,none⟩) l7).trans eL) (C6 ((h.b.cell (p:=⟨w.heap.size+1+1,11,none⟩) l7).trans eO) (C6 ((h.b.cell (p:=⟨w.heap.size+1+1,12,none⟩) l7).trans eH) ((h.b.cell (p:=⟨w.heap.size+1+1,13,none⟩) l7).trans dz)))) ?_;refine aj.sV H (fun D v W' hj _=>CP W' hj.b) ?_;refine aj.cT rfl ?_
   iterate 3 refine aj.RQ H _ ?_
   refine aj.sE (fun _ v' W7 I jk hl _ _ hf=> ?_);refine hQ _ _ ?_;clear hl hf hQ H Q' M jk fW ah er iI iF iy iz eL eO eH dz CP l7
   try rw[fX]
   have o8:=a8.ae I;have mA:=T.ae I;have n5:W7.cell? ⟨X.heap.size+1,0,none⟩=some (Cj (some ⟨pb,0,none⟩)):=ai.c (ai.ae fY I) 0 rfl;clear fp fY T
   cases tc with
   | true=>
    have l6:oX l m a b R wq s y<least:=bH.1 (by rw[hc]; exact of_decide_eq_true fX);clear fX hc
    go_upto_region 32 with fail
    refine wp_region_lit ?_
    repeat' (first | ((with_reducible show wpList _ _ _ (⟨some 153,_,_,_,_,_⟩::_) _ _); refine yi rfl 70 #[] rfl yZ B' ?_) | ((with_reducible show wpList _ _ _ (⟨none,.store _ _ _,_,_,_,_⟩::_) _ _); refine zE rfl 70 (.tmp 8) (.tmp 153) rfl (w.heap.size+1+1+1) yZ rfl rfl 70 yZ o8 B' rfl (by simp[yZ,Value.oneCell']) (fun wz rz=> ?_)) | go_values | go_skip | go_guarded | go_step | go_upon)
    obtain⟨ax,g8,br⟩:=iA.out;have B8:Below w.heap.size w wz:=rz.below (zp g8 (Cl _) I) B_;have jd:wz.heap[D]? = some (.deferred (some [])):=(rz.only.2 D B_).trans ((I.block D (Array.getElem?_eq_some_iff.1 br).1).trans br);have gr:∀r,some D=some r->∃o:Obj,wz.heap[r]? = some o/\o.isCells=false:=fun r e=>by cases e; exact⟨_,jd,rfl⟩
    have R8:=zZ rz.bP (grownBy_putObj' wz D (.deferred none)) gr;have BX:=B8.grown (grownBy_putObj' wz D (.deferred none)) B8.size (fun k hk=>by cases hk; omega);rw[Exit.noGoto_ret];refine⟨by simp,.inl ⟨_,_,rfl,run_takeDeferred jd,?_⟩⟩;refine⟨_,z8 rfl _ _ (w.heap.size+1+1+1) rfl (cs:=yZ) R8 Tryz.underlying70 rfl B',?_⟩;refine⟨_,by rw[HE.out,VZ l6]; rfl,?_,BX⟩;rw[HE.out,VZ l6];rfl
   | false=>
    have lM:¬oX l m a b R wq s y<least:=fun h=>of_decide_eq_false fX (by rw[<- hc]; exact bH.2 h);clear fX hc
    go_upto_region 33 with fail
    refine wp_region_lit ?_
    repeat' (first | ((with_reducible show wpList _ _ _ (⟨some 156,_,_,_,_,_⟩::_) _ _); refine zP rfl 70 (.tmp 155) rfl pb rfl 70 #[Cx gP,Cq gn gN gz,Cx gX,Cq gV gg gK,Cx gF,Cq gC gH gY,Cx gE,Cq gQ hZ gW,Cx gM,Cq gD gJ h9,Cx gB,Cq gt gZ gG,Cx gL,Cq gk gO gI,Cx gA,Cq gp gj gR,Cq v2 v4 v3,Cx t1,Cq t2 t3 t4,Cx t5,Cq t6 t7 t8] _ mA Tryz.underlying70 rfl B' ?_) | ((with_reducible show wpList _ _ _ (⟨none,.store _ _ _,_,_,_,_⟩::_) _ _); refine zE rfl 70 (.tmp 8) (.tmp 156) rfl (w.heap.size+1+1+1) #[Cx gP,Cq gn gN gz,Cx gX,Cq gV gg gK,Cx gF,Cq gC gH gY,Cx gE,Cq gQ hZ gW,Cx gM,Cq gD gJ h9,Cx gB,Cq gt gZ gG,Cx gL,Cq gk gO gI,Cx gA,Cq gp gj gR,Cq v2 v4 v3,Cx t1,Cq t2 t3 t4,Cx t5,Cq t6 t7 t8] rfl rfl 70 yZ o8 B' rfl (by simp[yZ,Value.oneCell']) (fun wz rz=> ?_)) | go_values | go_skip | go_guarded | go_step | go_upon)
    obtain⟨ax,g8,br⟩:=iA.out;have B8:Below w.heap.size w wz:=rz.below (zp g8 (Cl _) I) B_;have jd:wz.heap[D]? = some (.deferred (some [])):=(rz.only.2 D B_).trans ((I.block D (Array.getElem?_eq_some_iff.1 br).1).trans br);have gr:∀r,some D=some r->∃o:Obj,wz.heap[r]? = some o/\o.isCells=false:=fun r e=>by cases e; exact⟨_,jd,rfl⟩
    have R8:=zZ rz.bP (grownBy_putObj' wz D (.deferred none)) gr;have BX:=B8.grown (grownBy_putObj' wz D (.deferred none)) B8.size (fun k hk=>by cases hk; omega);rw[Exit.noGoto_ret];refine⟨by simp,.inl ⟨_,_,rfl,run_takeDeferred jd,?_⟩⟩;refine⟨_,z8 rfl _ _ (w.heap.size+1+1+1) rfl (cs:=#[Cx gP,Cq gn gN gz,Cx gX,Cq gV gg gK,Cx gF,Cq gC gH gY,Cx gE,Cq gQ hZ gW,Cx gM,Cq gD gJ h9,Cx gB,Cq gt gZ gG,Cx gL,Cq gk gO gI,Cx gA,Cq gp gj gR,Cq v2 v4 v3,Cx t1,Cq t2 t3 t4,Cx t5,Cq t6 t7 t8]) R8 Tryz.underlying70 rfl B',?_⟩;refine⟨_,by rw[HE.out,V0 lM]; rfl,?_,BX⟩;rw[HE.out,V0 lM,hA,J,iE];exact cD.kg ((HM.out.ae I).row rz rfl (by simp[yZ])) (g:=X.heap.size+1) ⟨_,rz.a_ (my.out.ae I) B_⟩ (KG.put jd rfl)
open Go.RowKit Go.Shelf
def ed (l m:PL) (a b:List aT) (a9:Int) (wq s:Rat) (g:Nat) (W:Cc):Option (Nat×Nat)->Prop
 | none=>ai W g 70 yZ
 | some x=>∃E,ai W g 70 E/\cD W (Cy E) (tX l m a b x) (pX l m a b a9 x) (oX l m a b a9 wq s x)
def BR:List Cd->Array Cd:=fun l=>match l with | [Cy c]=>c | _=>#[]
theorem ed.ae {l m:PL} {a b:List aT} {a9:Int} {wq s:Rat} {g:Nat} {W E:Cc} {e:Option (Nat×Nat)} (h:ed l m a b a9 wq s g W e) (st:zf W E):ed l m a b a9 wq s g E e:=by
 cases e with
 | none=>exact ai.ae h st
 | some x=>obtain⟨H,J,I⟩:=h; exact⟨H,J.ae st,I.ae st⟩
open Go.RowKit
variable {A R:Int} {l m:PL}
theorem X5 {O:Option Rat} {K:Bool} {most:Int} {off s least:Rat} (h:K=false\/zQ l≠0\/zQ m≠0\/most<0\/12<most\/¬zC R A m.length<1):yP K l m most R A off s least=(VW K l m,none):=by
 unfold yP VW
 by_cases h1:K=false
 . rw[C7 h1,C7 h1]
 rw[C8 h1,C8 h1];replace h:=h.resolve_left h1
 by_cases h2:zQ l≠0
 . rw[C7 h2,C7 h2]
 rw[C8 h2,C8 h2];replace h:=h.resolve_left h2
 by_cases h3:zQ m≠0
 . rw[C7 h3,C7 h3]
 rw[C8 h3,C8 h3];replace h:=h.resolve_left h3;rw[C7 (by rcases h with h | h | h; exact .inl h; exact .inr (.inl h); exact .inr (.inr h))]
theorem X6 (K:Bool) (l m:PL) (most R A:Int):(K=false\/zQ l≠0\/zQ m≠0\/most<0\/12<most\/¬zC R A m.length<1)\/(K=true/\zQ l=0/\zQ m=0/\0<=most/\most<=12/\zC R A m.length<1):=by
 by_cases h:K=false\/zQ l≠0\/zQ m≠0\/most<0\/12<most\/¬zC R A m.length<1
 . exact .inl h
 .
  right
  simp only[not_or,Bool.not_eq_false,Decidable.not_not]at h;exact⟨h.1,h.2.1,h.2.2.1,by omega,by omega,h.2.2.2.2.2⟩
theorem UP {ua1 ua5 ub1 ub5 uc1 uc5:Bool} {ua2 ua6 ub2 ub6 uc2 uc6:Option Addr} {ua3 ua4 ua7 ua8 ub3 ub4 ub7 ub8 uc3 uc4 uc7 uc8:Nat} {O:Nat->Option Rat} {M vm:Cd} (most:Int) (w:Cc) (T:FB w (Cy #[Cx ua1,Cq ua2 ua3 ua4,Cx ua5,Cq ua6 ua7 ua8]) (O 0)) (b1:FB w (Cy #[Cx ub1,Cq ub2 ub3 ub4,Cx ub5,Cq ub6 ub7 ub8]) (O 1)) (b2:FB w (Cy #[Cx uc1,Cq uc2 uc3 uc4,Cx uc5,Cq uc6 uc7 uc8]) (O 2)) (fw:ve O (ya ua3 ub3 uc3 uc3) (ya ua7 ub7 uc7 uc7) 3) (I:bJ w M l) (hm:bJ w vm m) (zl:l.length<=6\/(200<l.length/\l.length<=210)) (zm:m.length<=6\/(200<m.length/\m.length<=210)) :
  Cb Ch 31 #[M,vm,Cz Cv most,Cy #[Cx ua1,Cq ua2 ua3 ua4,Cx ua5,Cq ua6 ua7 ua8,Cz Cv R,Cz Cv A,Cx ub1,Cq ub2 ub3 ub4,Cx ub5,Cq ub6 ub7 ub8,Cx uc1,Cq uc2 uc3 uc4,Cx uc5,Cq uc6 uc7 uc8]] w fun e w'=>∃v,e = Cg (Ck #[v,Cz Cv (yP (yx O (ya ua3 ub3 uc3 uc3) (ya ua7 ub7 uc7 uc7) R A ua1) l m most R A ((O 0).getD 0) ((O 1).getD 0) ((O 2).getD 0)).1])/\WW w' v l m (yp l most).2 (yp m most).2 R (yU ((O 1).getD 0) (zC R A m.length)) ((O 1).getD 0) (yP (yx O (ya ua3 ub3 uc3 uc3) (ya ua7 ub7 uc7 uc7) R A ua1) l m most R A ((O 0).getD 0) ((O 1).getD 0) ((O 2).getD 0)).2/\zf w w':=by
 rcases X6 (yx O (ya ua3 ub3 uc3 uc3) (ya ua7 ub7 uc7 uc7) R A ua1) l m most R A with h | ⟨E,X,N,h0,h1,hq⟩
 .
  rw[X5 (O:=none) h];refine(X4 most w T b1 b2 fw I hm zl zm h).mono ?_;rintro e w' ⟨rfl,hs⟩;exact⟨_,rfl,rfl,hs⟩
 .
  rw[E];have H:=(zX.1 E).1;obtain⟨o0,Y,-⟩:=yL H fw 0 B_;obtain⟨o1,Z,-⟩:=yL H fw 1 B_;obtain⟨o2,J,-⟩:=yL H fw 2 B_;rw[Y,Z,J];exact Jb most w T b1 b2 fw I hm (by have:=xS X; omega) (by have:=xS N; omega) Y Z J E X N h0 h1 hq
open Go.RowKit
open Go.RowKit
variable {p:List Int} {t:Option (Nat->Rat)} {v:Cd} {w w':Cc}
def eo (w:Cc) (v:Cd) (t:Option (Nat->Rat)) (p:List Int) (o:Option Rat):Prop:=∃ce ci cx dl bg H Z J dx d9 bh b9 dy ek ec bi E dc em bt X cN be dk ah dd I cy br cg Y dP xo xc M bf N bq bl er cY T,v = Cy #[Cx ce,Cq ci cx dl,Cx bg,Cq H Z J,Cx dx,Cq d9 bh b9,Cx dy,Cq ek ec bi,Cx E,Cq dc em bt,Cx X,Cq cN be dk,Cx ah,Cq dd I cy,Cx br,Cq cg Y dP,Cq xo p.length xc,Cx M,Cq bf N bq,Cx bl,Cq er cY T]/\cn w (Cy #[Cx ce,Cq ci cx dl,Cx bg,Cq H Z J,Cx dx,Cq d9 bh b9,Cx dy,Cq ek ec bi,Cx E,Cq dc em bt,Cx X,Cq cN be dk,Cx ah,Cq dd I cy,Cx br,Cq cg Y dP]) t/\aC w (Cq xo p.length xc) p/\FO w (Cy #[Cx M,Cq bf N bq,Cx bl,Cq er cY T]) o
theorem cD.u {t:Nat->Rat} {o:Rat} (h:cD w v t p o):eo w v (some t) p (some o):=by
 obtain⟨cs,u,d1,d2,d3,d4,d5,d6,d7,d8,e,h1,h2,h3⟩:=h;obtain⟨bh,bl,bq,cy,ah,H,T,J,cN,ce,b9,Y,cY,dk,dd,be,E,cg,dl,bg,M,bt,Z,cx,X,ci,I,br,bf,bi,N,dc,es⟩:=h1.eP;have d9:cs=#[Cx bh,Cq bl bq cy,Cx ah,Cq H T J,Cx cN,Cq ce b9 Y,Cx cY,Cq dk dd be,Cx E,Cq cg dl bg,Cx M,Cq bt Z cx,Cx X,Cq ci I br,Cx bf,Cq bi N dc]:=by injection es
 subst d9;obtain⟨xo,xc,rfl⟩:=h2.au;exact⟨_,_,_,_,_,_,_,_,_,_,_,_,_,_,_,_,_,_,_,_,_,_,_,_,_,_,_,_,_,_,_,_,_,_,_,_,_,_,_,_,_,_,by rw[e]; rfl,h1,h2,h3⟩
theorem cn.st (h:cn w v t) (s:zf w w'):cn w' v t:=by
 cases t with
 | none=>exact h
 | some t=>exact cz.af h (av.ae s)
theorem eo.ae {o:Option Rat} (h:eo w v t p o) (s:zf w w'):eo w' v t p o:=by
 obtain⟨ce,ci,cx,dl,bg,H,Z,J,dx,d9,bh,b9,dy,ek,ec,bi,E,dc,em,bt,X,cN,be,dk,ah,dd,I,cy,br,cg,Y,dP,xo,xc,M,bf,N,bq,bl,er,cY,T,e,h1,h2,h3⟩:=h;refine⟨ce,ci,cx,dl,bg,H,Z,J,dx,d9,bh,b9,dy,ek,ec,bi,E,dc,em,bt,X,cN,be,dk,ah,dd,I,cy,br,cg,Y,dP,xo,xc,M,bf,N,bq,bl,er,cY,T,e,?_,h2.ae s,h3.af (av.ae s)⟩
 cases t with
 | none=>exact h1
 | some t=>exact cz.af h1 (av.ae s)
end Go.Proofs.YtffmbepfbienaaaGreat
