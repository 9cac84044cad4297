import Derived.Test.YtffmbepfbienaaaGreatSSef
set_option linter.unusedVariables false
set_option linter.unusedSimpArgs false
open Go.Value renaming slice->Ex,bool->Ez,int->Ey,agg->Ej,tuple->Ev
open Go.IntKind renaming i64->Ew
open Go.Ending renaming returned->Eh
open Go.Proofs.Tryz renaming prog->Ec
open Go renaming Calls->Ed,World->Ee,Value->Ef,bodyPost_ret->En
open Nat renaming le_refl->Eo
open Go.RowKit.Below renaming refl->Et
namespace Go.Proofs.YtffmbepfbienaaaGreat
section
open Go.RowKit Go.Shelf
variable {l m:PL} {s:Rat}
def dS (l m:PL) (a b:List aV) (E:Int) (I s:Rat) (g:Nat) (W:Ee):Option (Nat×Nat)->Prop
 | none=>ai W g 70 yF
 | some x=>∃H,ai W g 70 H/\cO W (Ej H) (tX l m a b x) (pX l m a b E x) (oX l m a b E I s x)
def Df:List Ef->Array Ef:=fun l=>match l with | [Ej c]=>c | _=>#[]
theorem dS.ae {a b:List aV} {E:Int} {I:Rat} {g:Nat} {W H:Ee} {e:Option (Nat×Nat)} (h:dS l m a b E I s g W e) (st:zf W H):dS l m a b E I s g H e:=by
 cases e with
 | none=>exact ai.ae h st
 | some x=>obtain⟨N,M,J⟩:=h; exact⟨N,M.ae st,J.ae st⟩
theorem Ui {f g:Nat->Rat} {r:Rat} (h:0<=r):XF (fun i=>some (f i)) (fun i=>some (g i)) (some r)=(xi g f r 4,0):=by
 have hw:∀f:Nat->Rat,z' (fun i=>some (f i)) 4=true:=fun f=>by simp[z']
 have E:kj (some r)=true:=by unfold kj; simp[Rat.not_lt.2 h]
 unfold XF;simp only[hw,E,Bool.and_self,if_true];rw[Y5]; rfl
set_option maxHeartbeats 6400000 in
set_option maxRecDepth 1000000 in
theorem Ky {ua1 ua5 ub1 ub5 uc1 uc5:Bool} {ua2 ua6 ub2 ub6 uc2 uc6:Option Addr} {ua3 ua4 ua7 ua8 ub3 ub4 ub7 ub8 uc3 uc4 uc7 uc8:Nat} {R A:Int} {O:Nat->Option Rat} {vl vm:Ef} {off least:Rat} (most:Int) (w:Ee) (b0:FB w (Ej #[Ez ua1,Ex ua2 ua3 ua4,Ez ua5,Ex ua6 ua7 ua8]) (O 0)) (b1:FB w (Ej #[Ez ub1,Ex ub2 ub3 ub4,Ez ub5,Ex ub6 ub7 ub8]) (O 1)) (b2:FB w (Ej #[Ez uc1,Ex uc2 uc3 uc4,Ez uc5,Ex uc6 uc7 uc8]) (O 2)) (fw:Yb O (yG ua3 ub3 uc3 uc3) (yG ua7 ub7 uc7 uc7) 3) (hl:bP w vl l) (hm:bP w vm m) (zl:l.length<=6) (zm:m.length<=6)
  (e0:O 0=some off) (e1:O 1=some s) (e2:O 2=some least) (hK:yq O (yG ua3 ub3 uc3 uc3) (yG ua7 ub7 uc7 uc7) R A ua1=true) (c1:z6 l=0) (c2:z6 m=0) (h0:0<=most) (h1:most<=12) (hq:zC R A m.length<1) :
  Ed Ec 32 #[vl,vm,Ey Ew most,Ej #[Ez ua1,Ex ua2 ua3 ua4,Ez ua5,Ex ua6 ua7 ua8,Ey Ew R,Ey Ew A,Ez ub1,Ex ub2 ub3 ub4,Ez ub5,Ex ub6 ub7 ub8,Ez uc1,Ex uc2 uc3 uc4,Ez uc5,Ex uc6 uc7 uc8]] w fun e w'=>∃v,e = Eh (Ev #[v,Ey Ew (xC true l m most R A off s least).1])/\WB w' v l m (yO l most).2 (yO m most).2 R (yV s (zC R A m.length)) s (xC true l m most R A off s least).2/\zf w w':=by
 have Y:=(zJ.1 hK).2.1
 have CK:∀w',av w w'->Ed Ec 18 #[Ej #[Ez ua1,Ex ua2 ua3 ua4,Ez ua5,Ex ua6 ua7 ua8,Ey Ew R,Ey Ew A,Ez ub1,Ex ub2 ub3 ub4,Ez ub5,Ex ub6 ub7 ub8,Ez uc1,Ex uc2 uc3 uc4,Ez uc5,Ex uc6 uc7 uc8]] w' fun e N=>e = Eh (Ey Ew 0)/\zf w' N:=fun w' k=>by
  have:=Vq (R:=R) (A:=A) w' (b0.af k) (b1.af k) (b2.af k) fw
  rwa[hK]at this
 have QL:∀w',zf w w'->Ed Ec 62 #[vl] w' fun e N=>e = Eh (Ey Ew 0)/\zf w' N:=fun w' s=>by have:=Zr w' (hl.ae s) D5; rwa[c1]at this
 have QM:∀w',zf w w'->Ed Ec 62 #[vm] w' fun e N=>e = Eh (Ey Ew 0)/\zf w' N:=fun w' s=>by have:=Zr w' (hm.ae s) D5; rwa[c2]at this
 have AL:∀w',zf w w'->Ed Ec 33 #[vl,Ey Ew most] w' fun e N=>∃u,e = Eh (Ev #[u,Ey Ew 0])/\dQ N u (yO l most).2/\zf w' N:=fun w' s=>by have:=Vn most w' (hl.ae s) D5 c1 h0 h1 D5; unfold dt at this; rwa[kY c1 h0 h1]at this
 have AM:∀w',zf w w'->Ed Ec 33 #[vm,Ey Ew most] w' fun e N=>∃u,e = Eh (Ev #[u,Ey Ew 0])/\dQ N u (yO m most).2/\zf w' N:=fun w' s=>by have:=Vn most w' (hm.ae s) D5 c2 h0 h1 D5; unfold dt at this; rwa[kY c2 h0 h1]at this
 have CH:∀w',Ed Ec 64 #[Ej #[Ez ua1,Ex ua2 ua3 ua4,Ez ua5,Ex ua6 ua7 ua8,Ey Ew R,Ey Ew A,Ez ub1,Ex ub2 ub3 ub4,Ez ub5,Ex ub6 ub7 ub8,Ez uc1,Ex uc2 uc3 uc4,Ez uc5,Ex uc6 uc7 uc8],Ey Ew m.length] w' fun e N=>∃v,e = Eh v/\FR N v (zC R A m.length)/\zf w' N:=fun w'=>Qc R A m.length w' Y.1 Y.2.1 Y.2.2.1 Y.2.2.2 D5 D5;have WH:∀w',Ed Ec 47 #[Ey Ew 1] w' fun e N=>∃v,e = Eh v/\FR N v (1:Rat)/\zf w' N:=fun w'=>by have:=qt 1 w' D7 D7; rwa[qW]at this
 have lF:=(xq Y.1 Y.2.1 Y.2.2.1 Y.2.2.2 (show (0:Int)<=(m.length:Int) by omega) D5).1
 have CC:∀ (w':Ee) (u v:Ef),FR w' u (zC R A m.length)->FR w' v (1:Rat)->Ed Ec 46 #[u,v] w' fun e N=>e = Eh (Ey Ew (-1))/\zf w' N:=fun w' u v hu hv=>by
  have:=Zw w' hu hv lF cF D5
  rwa[show z8 (zC R A m.length) 1 = -1 by rcases vJ (zC R A m.length) 1 with h | h | h; (exfalso; have:=h.2; grind); exact h.1; (exfalso; have:=h.2; grind)]at this
 have lE:0<=off:=by
  have h3:=(zJ.1 hK).2.2.1;have h4:=b0.neg;rw[e0,h3]at h4;obtain⟨q,e,m7⟩:=Zt (o:=some off) h4
  cases e; exact m7
 have lN:sz off 2:=by obtain⟨r,e,h⟩:=xm (zJ.1 hK).1 fw 0 D5; rw[e0]at e; cases e; exact h
 have ss:sz s 2:=by obtain⟨r,e,h⟩:=xm (zJ.1 hK).1 fw 1 D5; rw[e1]at e; cases e; exact h
 have sl:sz least 2:=by obtain⟨r,e,h⟩:=xm (zJ.1 hK).1 fw 2 D5; rw[e2]at e; cases e; exact h
 have ML:=Gn zl c1 h0 h1;have MM:=Gn zm c2 h0 h1;have T:=E6 (E7 hl (E7 hm (E7 b0 (E7 b1 (E7 b2 fw)))));obtain⟨al,cl,rfl⟩:=hl.ak;obtain⟨am,cm,rfl⟩:=hm.ak;have aY:=E6 (E7 c1 c2);have ig:=E6 (Y6 (R:=R) (A:=A) (off:=off) (s:=s) (least:=least) c1 c2 h0 h1 hq);obtain⟨nl,iS⟩:∃n,l.length=n:=⟨_,rfl⟩;obtain⟨nm,iY⟩:∃n,m.length=n:=⟨_,rfl⟩;have HN:=E6 (E7 iS iY);rw[iS]at QL AL T zl|-;rw[iY]at QM AM CH T zm CC ig|-;have lX:decide (most<0)=false:=E' D5;have lP:decide (12<most)=false:=E' D5;clear hl hm b0 b1 b2 fw iS iY hK hq c1 c2 lF
 go_enter Tryz.func32,Tryz.ntmps32
 go_upto_region 1 with fail
 refine wp_region_lit ?_
 repeat' (first | ((with_reducible show wpList _ _ _ (⟨some 25,_,_,_,_,_⟩::_) _ _); refine zO rfl 45 (.tmp 7) rfl w.heap.size rfl 45 #[Ez ua1,Ex ua2 ua3 ua4,Ez ua5,Ex ua6 ua7 ua8,Ey Ew R,Ey Ew A,Ez ub1,Ex ub2 ub3 ub4,Ez ub5,Ex ub6 ub7 ub8,Ez uc1,Ex uc2 uc3 uc4,Ez uc5,Ex uc6 uc7 uc8] _ zw Tryz.underlying45 rfl D6 ?_) | go_values | go_skip | go_guarded | go_step | go_upon)
 refine(CK _ zj).mono ?_;rintro e w1 ⟨rfl,iF⟩;have B:Below w.heap.size w w1:=zT iF;have X:ai w1 w.heap.size 45 #[Ez ua1,Ex ua2 ua3 ua4,Ez ua5,Ex ua6 ua7 ua8,Ey Ew R,Ey Ew A,Ez ub1,Ex ub2 ub3 ub4,Ez ub5,Ex ub6 ub7 ub8,Ez uc1,Ex uc2 uc3 uc4,Ez uc5,Ex uc6 uc7 uc8]:=ai.au iF;have o8:ai w1 (w.heap.size+1) 70 yF:=ai.au iF;clear iF;clear CK;dsimp only
 repeat' (first | go_values | go_skip | go_guarded | go_step | go_upon)
 refine(QL _ B).mono ?_;rintro e N ⟨rfl,iD⟩;replace B:Below w.heap.size w N:=zT iD;replace X:ai N w.heap.size 45 #[Ez ua1,Ex ua2 ua3 ua4,Ez ua5,Ex ua6 ua7 ua8,Ey Ew R,Ey Ew A,Ez ub1,Ex ub2 ub3 ub4,Ez ub5,Ex ub6 ub7 ub8,Ez uc1,Ex uc2 uc3 uc4,Ez uc5,Ex uc6 uc7 uc8]:=ai.au iD;replace o8:ai N (w.heap.size+1) 70 yF:=ai.au iD;clear iD;clear QL;dsimp only
 repeat' (first | go_values | go_skip | go_guarded | go_step | go_upon)
 refine(QM _ B).mono ?_;rintro e w3 ⟨rfl,iL⟩;replace B:Below w.heap.size w w3:=zT iL;replace X:ai w3 w.heap.size 45 #[Ez ua1,Ex ua2 ua3 ua4,Ez ua5,Ex ua6 ua7 ua8,Ey Ew R,Ey Ew A,Ez ub1,Ex ub2 ub3 ub4,Ez ub5,Ex ub6 ub7 ub8,Ez uc1,Ex uc2 uc3 uc4,Ez uc5,Ex uc6 uc7 uc8]:=ai.au iL;replace o8:ai w3 (w.heap.size+1) 70 yF:=ai.au iL;clear iL;clear QM;dsimp only
 go_upto_region 9 with fail
 go_cut [60] (fun c wx=>c = Ez false/\ai wx w.heap.size 45 #[Ez ua1,Ex ua2 ua3 ua4,Ez ua5,Ex ua6 ua7 ua8,Ey Ew R,Ey Ew A,Ez ub1,Ex ub2 ub3 ub4,Ez ub5,Ex ub6 ub7 ub8,Ez uc1,Ex uc2 uc3 uc4,Ez uc5,Ex uc6 uc7 uc8]/\ai wx (w.heap.size+1) 70 yF/\Below w.heap.size w wx)
 case first=>
  refine wp_region_lit ?_
  rcases Nat.eq_zero_or_pos nm with hz | hz
  .
   have dz:decide (0<(nm:Int))=false:=E' D5;have m9:decide (0<nm)=false:=E' D5
   repeat' (first | go_values | go_skip | go_guarded | go_step | go_upon)
   go_meet
   exact⟨rfl,zw,zw,B⟩
  .
   have dz:decide (0<(nm:Int))=true:=E_ D5;have m9:decide (0<nm)=true:=E_ D5
   repeat' (first | ((with_reducible show wpList _ _ _ (⟨some 52,_,_,_,_,_⟩::_) _ _); refine kW rfl 45 (.tmp 7) rfl w.heap.size rfl 45 #[Ez ua1,Ex ua2 ua3 ua4,Ez ua5,Ex ua6 ua7 ua8,Ey Ew R,Ey Ew A,Ez ub1,Ex ub2 ub3 ub4,Ez ub5,Ex ub6 ub7 ub8,Ez uc1,Ex uc2 uc3 uc4,Ez uc5,Ex uc6 uc7 uc8] _ zw Tryz.underlying45 rfl D6 ?_) | go_values | go_skip | go_guarded | go_step | go_upon)
   refine(CH _).mono ?_;rintro e w4 ⟨v4,rfl,f4,iE⟩;replace B:Below w.heap.size w w4:=zT iE;replace X:ai w4 w.heap.size 45 #[Ez ua1,Ex ua2 ua3 ua4,Ez ua5,Ex ua6 ua7 ua8,Ey Ew R,Ey Ew A,Ez ub1,Ex ub2 ub3 ub4,Ez ub5,Ex ub6 ub7 ub8,Ez uc1,Ex uc2 uc3 uc4,Ez uc5,Ex uc6 uc7 uc8]:=ai.au iE;replace o8:ai w4 (w.heap.size+1) 70 yF:=ai.au iE;clear iE;dsimp only
   repeat' (first | go_values | go_skip | go_guarded | go_step | go_upon)
   refine(WH _).mono ?_;rintro e w5 ⟨v5,rfl,f5,cy⟩;replace f4:=f4.af (av.ae cy);replace B:Below w.heap.size w w5:=zT cy;replace X:ai w5 w.heap.size 45 #[Ez ua1,Ex ua2 ua3 ua4,Ez ua5,Ex ua6 ua7 ua8,Ey Ew R,Ey Ew A,Ez ub1,Ex ub2 ub3 ub4,Ez ub5,Ex ub6 ub7 ub8,Ez uc1,Ex uc2 uc3 uc4,Ez uc5,Ex uc6 uc7 uc8]:=ai.au cy;replace o8:ai w5 (w.heap.size+1) 70 yF:=ai.au cy;clear cy;dsimp only
   repeat' (first | go_values | go_skip | go_guarded | go_step | go_upon)
   refine(CC _ _ _ f4 f5).mono ?_;rintro e w6 ⟨rfl,bh⟩;replace B:Below w.heap.size w w6:=zT bh;replace X:ai w6 w.heap.size 45 #[Ez ua1,Ex ua2 ua3 ua4,Ez ua5,Ex ua6 ua7 ua8,Ey Ew R,Ey Ew A,Ez ub1,Ex ub2 ub3 ub4,Ez ub5,Ex ub6 ub7 ub8,Ez uc1,Ex uc2 uc3 uc4,Ez uc5,Ex uc6 uc7 uc8]:=ai.au bh;replace o8:ai w6 (w.heap.size+1) 70 yF:=ai.au bh;clear bh;dsimp only
   repeat' (first | go_values | go_skip | go_guarded | go_step | go_upon)
   go_meet
   exact⟨rfl,zw,zw,B⟩
 case rest=>
  obtain⟨rfl,X,o8,B⟩:=hcut;clear CH WH CC lX lP
  go_upto_region 11 with fail
  refine wp_region_lit ?_
  repeat' (first | go_values | go_skip | go_guarded | go_step | go_upon)
  refine(AL _ B).mono ?_;rintro e w5 ⟨u1,rfl,ha,cy⟩;obtain⟨aa,ca,rfl⟩:=ha.ak;replace B:Below w.heap.size w w5:=zT cy;replace X:ai w5 w.heap.size 45 #[Ez ua1,Ex ua2 ua3 ua4,Ez ua5,Ex ua6 ua7 ua8,Ey Ew R,Ey Ew A,Ez ub1,Ex ub2 ub3 ub4,Ez ub5,Ex ub6 ub7 ub8,Ez uc1,Ex uc2 uc3 uc4,Ez uc5,Ex uc6 uc7 uc8]:=ai.au cy;replace o8:ai w5 (w.heap.size+1) 70 yF:=ai.au cy;clear cy;clear AL;dsimp only
  repeat' (first | go_values | go_skip | go_guarded | go_step | go_upon)
  refine(AM _ B).mono ?_;rintro e w6 ⟨u2,rfl,hb,bh⟩;obtain⟨ab,cb,rfl⟩:=hb.ak;replace ha:=ha.ae bh;replace B:Below w.heap.size w w6:=zT bh;replace X:ai w6 w.heap.size 45 #[Ez ua1,Ex ua2 ua3 ua4,Ez ua5,Ex ua6 ua7 ua8,Ey Ew R,Ey Ew A,Ez ub1,Ex ub2 ub3 ub4,Ez ub5,Ex ub6 ub7 ub8,Ez uc1,Ex uc2 uc3 uc4,Ez uc5,Ex uc6 uc7 uc8]:=ai.au bh;replace o8:ai w6 (w.heap.size+1) 70 yF:=ai.au bh;clear bh;clear AM h0 h1;dsimp only;obtain⟨CA,qa,fA⟩:=ha.fC;obtain⟨CB,qb,fB⟩:=hb.fC;clear ha hb;obtain⟨a,hA⟩:∃a,(yO l most).2=a:=⟨_,rfl⟩;obtain⟨b,hB⟩:∃b,(yO m most).2=b:=⟨_,rfl⟩;rw[hA]at qa fA ML ig|-;rw[hB]at qb fB MM ig|-;obtain⟨na,iT⟩:∃n,a.length=n:=⟨_,rfl⟩;obtain⟨nb,iJ⟩:∃n,b.length=n:=⟨_,rfl⟩;rw[iT]at qa fA ML|-;rw[iJ]at qb fB MM|-;obtain⟨wq,ki⟩:∃x,yV s (zC R A nm)=x:=⟨_,rfl⟩;rw[ki]at ig;obtain⟨OO,lO⟩:∃f,oX l m a b R wq s=f:=⟨_,rfl⟩;obtain⟨FF,jd⟩:∃f:Nat->List Nat,(fun i=>fN (fun t j=>some (rA (b.getD t zK) j)) (fun j=>some (rA (a.getD i zK) j)) off nb)=f:=⟨_,rfl⟩;have iR:vw a b off=qo FF na:=by unfold vw; rw[iT,iJ,jd]
  rw[lO,iR]at ig;obtain⟨NK,iK⟩:∃f:Nat->Nat->List Nat,(fun i k=>fN (fun t j=>some (rA (b.getD t zK) j)) (fun j=>some (rA (a.getD i zK) j)) off k)=f:=⟨_,rfl⟩;have lK:∀i,NK i 0 = []:=fun i=>by rw[<- iK]; rfl
  have lH:∀i,NK i nb=FF i:=fun i=>by rw[<- iK,<- jd]
  have lw:∀i k z,xi (rA (b.getD k zK)) (rA (a.getD i zK)) off 4=z->NK i (k+1)=if z then NK i k ++ [k]else NK i k:=fun i k z hz=>by rw[<- iK,<- hz]; rfl
  have ij:=E6 (E7 lK (E7 lH lw));have HA:=E6 (E7 hA (E7 hB (E7 ki (E7 lO iR))));have HM:=E6 (E7 ML MM);have HQ:=E6 (E7 qa (E7 qb (E7 fA fB)));have HB:=E6 (E7 X (E7 o8 B));have mg:w.heap.size+2<=w6.heap.size:=o8.lt;have lW:=E6 iJ;clear hA hB iT iJ jd iR iK lK lH lw ML MM qa qb fA fB X o8 B;have ma:=HM.out.1.1;have mu:=HM.out.2.1;go_wp2_with fail
  go_loopw [18,17] (fun sl0 sl1 wo=>∃i:Nat,i<=na/\sl0 = Ey Ew i/\sl1 = Ez (qu OO (qo FF i)).isSome/\dS l m a b R wq s w6.heap.size wo (qu OO (qo FF i))/\zf w6 wo) (fun sl0 _ _=>na-(intOf sl0).toNat)
  case atStart=>exact⟨0,by omega,rfl,rfl,ai.new _ _ _,(Et _ _).alloc (Eo _) _⟩
  case round=>
   rename Ee=>wo;obtain⟨i,hi,rfl,rfl,I,st⟩:=hrel
   rcases Nat.lt_or_ge i na with i4 | i4
   .
    have km:decide ((i:Int)<(na:Int))=true:=E_ D5;have lJ:=E6 i4;go_wp2_with fail
    go_loopw [19,17] (fun sl0 sl1 wr=>∃k:Nat,k<=nb/\sl0 = Ey Ew k/\sl1 = Ez (qu OO (qo FF i++(NK i k).map fun k=>(i,k))).isSome/\dS l m a b R wq s w6.heap.size wr (qu OO (qo FF i++(NK i k).map fun k=>(i,k)))/\zf w6 wr) (fun sl0 _ _=>nb-(intOf sl0).toNat)
    case atStart=>exact⟨0,by omega,rfl,by rw[ij.out.1]; simp,by rw[ij.out.1]; simpa using I,st⟩
    case round=>
     clear I st;obtain⟨k,hk,rfl,rfl,I,st⟩:=hrel
     rcases Nat.lt_or_ge k nb with k4 | k4
     .
      have lj:decide ((k:Int)<(nb:Int))=true:=E_ D5;obtain⟨bo,i8⟩:∃z,qu OO (qo FF i++(NK i k).map fun k=>(i,k))=z:=⟨_,rfl⟩;rw[i8]at I|-;have gZ:=E6 i8;clear i8;obtain⟨ba,oa,rfl,iH,iG⟩:=HQ.out.1.at i4;obtain⟨bb,i7,rfl,iQ,iI⟩:=HQ.out.2.1.at k4;have fa:=HQ.out.2.2.1 i i4;have fb:=HQ.out.2.2.2 k k4;obtain⟨C,hC⟩:∃C,CA i=C:=⟨_,rfl⟩;obtain⟨D,hD⟩:∃D,CB k=D:=⟨_,rfl⟩;rw[hC]at iG fa;rw[hD]at iI fb;have sC:=fa.1;have sD:=fb.1;have ia:(Tryz.prog.info? 83).map (·.size)=some C.size:=by rw[sC]; kernel_rfl
      have ib:(Tryz.prog.info? 83).map (·.size)=some D.size:=by rw[sD]; kernel_rfl
      have lA:∀J,zf wr J->∀j,j<C.size->J.cell? ⟨ba,oa+i*20+j,none⟩=C[j]? :=fun J s' j hj=>((zt st (Eo _) s').cell (p:=⟨ba,_,none⟩) iH).trans (iG j D5);have lB:∀J,zf wr J->∀j,j<D.size->J.cell? ⟨bb,i7+k*20+j,none⟩=D[j]? :=fun J s' j hj=>((zt st (Eo _) s').cell (p:=⟨bb,_,none⟩) iQ).trans (iI j D5);obtain⟨z,hz⟩:∃z,xi (rA (b.getD k zK)) (rA (a.getD i zK)) off 4=z:=⟨_,rfl⟩
      have NR:∀J,zf wr J->Ed Ec 73 #[Ej C,Ej D,Ej #[Ez ua1,Ex ua2 ua3 ua4,Ez ua5,Ex ua6 ua7 ua8]] J fun e N=>e = Eh (Ev #[Ez z,Ey Ew 0])/\zf J N:=fun J s'=>by
       have s6:=zt st (Eo _) s';have hf:FB J (Ej #[Ez ua1,Ex ua2 ua3 ua4,Ez ua5,Ex ua6 ua7 ua8]) (some off):=by have h:=T.out.2.2.1; rw[e0]at h; exact h.af (av.ae (zt HB.out.2.2 (Eo _) s6))
       have:=BV J (fa.qx.ae s6) (fb.qx.ae s6) hf (fun j _=>((HM.out.1.2 i i4).1 j).mono D5) (fun j _=>((HM.out.2.2 k k4).1 j).mono D5) (lN.mono D5)
       rwa[Ui lE,hz]at this
      have HZ:=E6 (ij.out.2.2 i k z hz);have X:=HB.out.1.ae st;have r0:=X.c 0 rfl;have r1:=X.c 1 rfl;have r2:=X.c 2 rfl;have r3:=X.c 3 rfl;have l7:=X.lt;clear hz hC hD
      go_upto_region 21 with fail
      refine aj.cC wr wr [] [10] [(10,fun x=>x = Ev #[Ez z,Ey Ew 0])] [] [] [] (by simp only[aP]; exact⟨zh,zj,trivial⟩) (fun N0 i5 h9 Q' H hQ=> ?_)
      iterate 3 refine aj.RQ H _ ?_
      refine aj.bH H 90 (fun _ _ J _ h=>lA J h.b) ?_ (h:=fun J hf K hK=>by refine j7 83 (.tmp 89) rfl ba (oa+i*20) rfl C _ hf Tryz.underlying83 rfl ia ?_; exact hK.out);refine aj.dA rfl ?_
      iterate 3 refine aj.RQ H _ ?_
      refine aj.bH H 94 (fun _ _ J _ h=>lB J h.b) ?_ (h:=fun J hf K hK=>by refine j7 83 (.tmp 93) rfl bb (i7+k*20) rfl D _ hf Tryz.underlying83 rfl ib ?_; exact hK.out);refine aj.dA rfl ?_;refine aj.RQ H _ ?_;refine aj.bH H 96 (fun _ _ _ _ h=>E7 ((h.b.cell (p:=⟨w.heap.size,0,none⟩) l7).trans r0) (E7 ((h.b.cell (p:=⟨w.heap.size,1,none⟩) l7).trans r1) (E7 ((h.b.cell (p:=⟨w.heap.size,2,none⟩) l7).trans r2) ((h.b.cell (p:=⟨w.heap.size,3,none⟩) l7).trans r3)))) ?_;refine aj.sV H (fun D v J hj _=>NR J hj.b) ?_;refine aj.dA rfl ?_
      iterate 5 refine aj.RQ H _ ?_
      refine aj.sE (fun _ v' W7 B7 jk hl _ _ hf=> ?_);refine hQ _ _ ?_;clear hl hf hQ H Q' h9 jk i5 NR lA lB r0 r1 r2 r3 l7 X;replace I:=I.ae B7;replace st:=zt st (Eo _) B7;clear B7
      cases z with
      | false=>
       go_wp2_with fail
       go_roundw
       case rel=>exact⟨k+1,by omega,by go_num,by rw[HZ.out.trans (E9 D8),gZ.out],by rw[HZ.out.trans (E9 D8),gZ.out]; exact I,st⟩
       case measure=>simp[intOf]; omega
      | true=>
       obtain⟨j0,j1,j2,j3,k0,k1,k2,k3,y0,y1,y2,y3,iX⟩:=(HM.out.1.2 i i4).2.ex;obtain⟨i0,i1,i2,i3,m0,m1,m2,m3,z0,z1,z2,z3,ky⟩:=(HM.out.2.2 k k4).2.ex;have gA:=zt HB.out.2.2 (Eo _) st;have iO:bP W7 (Ex al nl cl) l:=T.out.1.ae gA;have iV:bP W7 (Ex am nm cm) m:=T.out.2.1.ae gA
       have lZ:∀j,j<4->sz (tX l m a b (i,k) j) 16:=fun j hj=>by
        have e:tX l m a b (i,k)=jI (pt l j0) (pt l j1) (pt m i0) (pt m i1):=by unfold tX; rw[k0,k1,m0,m1]; rfl
        rw[e];exact WD (yx aY.out.1 j0 y0) (yx aY.out.1 j1 y1) (yx aY.out.2 i0 z0) (yx aY.out.2 i1 z1) iX j hj
       have SM:∀w',zf W7 w'->Ed Ec 40 #[Ej #[Ey Ew (pt l j0).1,Ey Ew (pt l j0).2],Ej #[Ey Ew (pt l j1).1,Ey Ew (pt l j1).2],Ej #[Ey Ew (pt m i0).1,Ey Ew (pt m i0).2],Ej #[Ey Ew (pt m i1).1,Ey Ew (pt m i1).2]] w' fun e N=>∃v,e = Eh v/\bY N v (tX l m a b (i,k))/\zf w' N:=fun w' s=>by
        have e:tX l m a b (i,k)=jI (pt l j0) (pt l j1) (pt m i0) (pt m i1):=by unfold tX; rw[k0,k1,m0,m1]; rfl
        rw[e];exact CV w' (yx aY.out.1 j0 y0) (yx aY.out.1 j1 y1) (yx aY.out.2 i0 z0) (yx aY.out.2 i1 z1) iX
       obtain⟨b0,o0,rfl,it,l3,kx⟩:=iO.at y0;obtain⟨mr,mf,e,k8,lk,l6⟩:=iO.at y1;simp only[Option.some.injEq,Addr.mk.injEq,and_true]at e;obtain⟨rfl,rfl⟩:=e;obtain⟨b1,o1,rfl,ir,ln,lG⟩:=iV.at z0;obtain⟨mt,mb,e,lh,ko,ks⟩:=iV.at z1;simp only[Option.some.injEq,Addr.mk.injEq,and_true]at e;obtain⟨rfl,rfl⟩:=e;have ca:∀t,t<4->C[t]? = some (Ey Ew (kA (a.getD i zK) t)):=fa.2.2.1;have cb:∀t,t<4->D[t]? = some (Ey Ew (kA (b.getD k zK) t)):=fb.2.2.1;have cA:∀t,t<4->W7.cell? ⟨ba,oa+i*20+t,none⟩=some (Ey Ew (kA (a.getD i zK) t)):=fun t ht=>((st.cell (p:=⟨ba,_,none⟩) iH).trans (iG t D5)).trans (ca t ht);have cB:∀t,t<4->W7.cell? ⟨bb,i7+k*20+t,none⟩=some (Ey Ew (kA (b.getD k zK) t)):=fun t ht=>((st.cell (p:=⟨bb,_,none⟩) iQ).trans (iI t D5)).trans (cb t ht);have p0:W7.cell? ⟨ba,oa+i*20,none⟩=some (Ey Ew (j0:Nat)):=by have:=cA 0 D5; rwa[show kA (a.getD i zK) 0=(j0:Int) from k0]at this
       have p1:W7.cell? ⟨ba,oa+i*20+1,none⟩=some (Ey Ew (j1:Nat)):=by have:=cA 1 D5; rwa[show kA (a.getD i zK) 1=(j1:Int) from k1]at this
       have p2:W7.cell? ⟨ba,oa+i*20+2,none⟩=some (Ey Ew (j2:Nat)):=by have:=cA 2 D5; rwa[show kA (a.getD i zK) 2=(j2:Int) from k2]at this
       have p3:W7.cell? ⟨ba,oa+i*20+3,none⟩=some (Ey Ew (j3:Nat)):=by have:=cA 3 D5; rwa[show kA (a.getD i zK) 3=(j3:Int) from k3]at this
       have q0:W7.cell? ⟨bb,i7+k*20,none⟩=some (Ey Ew (i0:Nat)):=by have:=cB 0 D5; rwa[show kA (b.getD k zK) 0=(i0:Int) from m0]at this
       have kw:W7.cell? ⟨bb,i7+k*20+1,none⟩=some (Ey Ew (i1:Nat)):=by have:=cB 1 D5; rwa[show kA (b.getD k zK) 1=(i1:Int) from m1]at this
       have cg:ba<W7.heap.size:=Nat.lt_of_lt_of_le iH st.size;have iW:bb<W7.heap.size:=Nat.lt_of_lt_of_le iQ st.size;have mh:j0<nl:=by have:=HN.out.1; omega
       have mn:j1<nl:=by have:=HN.out.1; omega
       have ms:i0<nm:=by have:=HN.out.2; omega
       have my:i1<nm:=by have:=HN.out.2; omega
       have lf:qr wq s (pX l m a b R (i,k)) (Yc (j0:Int) j1 j2 j3) nl=oX l m a b R wq s (i,k):=by
        unfold oX; rw[k0,k1,k2,k3,HN.out.1]
       have HP:=E6 (E7 p0 (E7 p1 (E7 p2 p3)));have mj:=E6 (E7 fa fb);have lY:=E6 cg;clear ca cb cA cB iG iI fa fb p2 p3 iX ky iO iV ia ib sC sD
       go_upto_region 23 with fail
       refine aj.cC W7 W7 [.n 37 30 #[Ez false,Ex none 0 0,Ez false,Ex none 0 0,Ez false,Ex none 0 0,Ez false,Ex none 0 0,Ez false,Ex none 0 0,Ez false,Ex none 0 0,Ez false,Ex none 0 0,Ez false,Ex none 0 0] 38 [36] Df] [36,37,38] [(36,eX),(37,xI)] [(36,fun x_ J=>bY J x_ (tX l m a b (i,k)))] [(38,[(37,some 22),(36,some 138)]),(39,[(37,some 22),(36,some 138)])] [(37,[38])] (by simp only[aP]; exact⟨zh,zj,trivial⟩) (fun N0 i5 h9 Q' H hQ=> ?_)
        (hv:=by intro p hp; simp only[List.mem_cons,List.not_mem_nil,or_false]at hp; rcases hp with rfl | rfl; exact⟨_,eX.mk⟩; exact⟨_,0,rfl⟩) (hg:=by intro p hp; simp only[List.mem_cons,List.not_mem_nil,or_false]at hp; subst hp; intro x W J k h; exact bY.af h k)
       iterate 6 refine aj.RQ H _ ?_
       refine aj.bH H 108 (fun _ _ _ _ h=>(h.b.cell (p:=⟨ba,oa+i*20,none⟩) cg).trans p0) ?_;refine aj.RQ H _ ?_;refine aj.bH H 110 (fun _ _ _ _ h=>E7 ((h.b.cell (p:=⟨b0,o0+j0*2,none⟩) it).trans l3) ((h.b.cell (p:=⟨b0,o0+j0*2+1,none⟩) it).trans kx)) ?_
       iterate 6 refine aj.RQ H _ ?_
       refine aj.bH H 117 (fun _ _ _ _ h=>(h.b.cell (p:=⟨ba,oa+i*20+1,none⟩) cg).trans p1) ?_;refine aj.RQ H _ ?_;refine aj.bH H 119 (fun _ _ _ _ h=>E7 ((h.b.cell (p:=⟨b0,o0+j1*2,none⟩) it).trans lk) ((h.b.cell (p:=⟨b0,o0+j1*2+1,none⟩) it).trans l6)) ?_
       iterate 6 refine aj.RQ H _ ?_
       refine aj.bH H 126 (fun _ _ _ _ h=>(h.b.cell (p:=⟨bb,i7+k*20,none⟩) iW).trans q0) ?_;refine aj.RQ H _ ?_;refine aj.bH H 128 (fun _ _ _ _ h=>E7 ((h.b.cell (p:=⟨b1,o1+i0*2,none⟩) ir).trans ln) ((h.b.cell (p:=⟨b1,o1+i0*2+1,none⟩) ir).trans lG)) ?_
       iterate 6 refine aj.RQ H _ ?_
       refine aj.bH H 135 (fun _ _ _ _ h=>(h.b.cell (p:=⟨bb,i7+k*20+1,none⟩) iW).trans kw) ?_;refine aj.RQ H _ ?_;refine aj.bH H 137 (fun _ _ _ _ h=>E7 ((h.b.cell (p:=⟨b1,o1+i1*2,none⟩) ir).trans ko) ((h.b.cell (p:=⟨b1,o1+i1*2+1,none⟩) ir).trans ks)) ?_;refine aj.sC (m:=fun u=>u) (F:=fun J u=>bY J u (tX l m a b (i,k))) H (fun D v J hj _=>SM J hj.b) ?_ (hv:=fun J u h=>h.eU);rintro _ ⟨bg,d9,be,dP,cN,aX,dc,cU,ah,bi,dk,bl,f7,cn,em,cx,eW,ek,br,co,ce,eM,b9,dl,ed,er,ci,a9,ey,bt,dx,dy,rfl⟩;refine aj.dA rfl ?_;refine aj.sA H ?_;rintro _ ⟨gY,rfl⟩;refine aj.dA rfl ?_;refine aj.sN H ?_ (h:=fun J hb K hK=>by refine wp_store_row 30 (.tmp 22) (.tmp 138) rfl gY #[Ez bg,Ex d9 be dP,Ez cN,Ex aX dc cU,Ez ah,Ex bi dk bl,Ez f7,Ex cn em cx,Ez eW,Ex ek br co,Ez ce,Ex eM b9 dl,Ez ed,Ex er ci a9,Ez ey,Ex bt dx dy] rfl rfl 30 _ hb D6 rfl (by simp[yF,Value.oneCell']) ?_; exact hK.out _ ⟨rfl,rfl,rfl,(aZ.eL hb).only⟩ (aZ.eL hb).bz);refine aj.sE (fun _ v' W8 B8 jk hl _ _ hf=> ?_);obtain⟨zc,ot⟩:N0<=gY/\ai W8 gY 30 #[Ez bg,Ex d9 be dP,Ez cN,Ex aX dc cU,Ez ah,Ex bi dk bl,Ez f7,Ex cn em cx,Ez eW,Ex ek br co,Ez ce,Ex eM b9 dl,Ez ed,Ex er ci a9,Ez ey,Ex bt dx dy]:=hl.1 gY rfl;have S0:bY W8 (Ej #[Ez bg,Ex d9 be dP,Ez cN,Ex aX dc cU,Ez ah,Ex bi dk bl,Ez f7,Ex cn em cx,Ez eW,Ex ek br co,Ez ce,Ex eM b9 dl,Ez ed,Ex er ci a9,Ez ey,Ex bt dx dy]) (tX l m a b (i,k)):=(hf (36,some 138) (.tail _ (.head _)) rfl).2.2;have zN:W7.heap.size<=N0:=Nat.le_of_eq i5.out.symm;have mw:W7.heap.size<=gY:=D5
       refine hQ _ _ ?_;clear hl hf hQ H Q' h9 jk i5 SM zc zN p0 p1 q0 kw l3 kx lk l6 ln lG ko ks it k8 ir lh cg iW;have m8:=E6 B8;replace I:=I.ae B8;replace st:=zt st (Eo _) B8;have iN:=zt HB.out.2.2 (Eo _) st;obtain⟨S1,S2,S3,S4⟩:=Co S0;have PR:=fun(w':Ee) (s':zf W8 w')=>Gm (t:=tX l m a b (i,k)) R w' (S1.af (av.ae s')) (S2.af (av.ae s')) (S3.af (av.ae s')) (S4.af (av.ae s')) (fun j hj=>lZ j hj) (T.out.1.ae (zt iN (Eo _) s')) (T.out.2.1.ae (zt iN (Eo _) s')) aY.out.1 aY.out.2 Y.1 Y.2.1;have X:=HB.out.1.ae st;have f4:=X.c 4 rfl;clear B8
       go_upto_region 24 with fail
       refine wp_region_lit ?_
       repeat' (first | ((with_reducible show wpList _ _ _ (⟨some 139,_,_,_,_,_⟩::_) _ _); refine zO rfl 30 (.tmp 22) rfl gY rfl 30 #[Ez bg,Ex d9 be dP,Ez cN,Ex aX dc cU,Ez ah,Ex bi dk bl,Ez f7,Ex cn em cx,Ez eW,Ex ek br co,Ez ce,Ex eM b9 dl,Ez ed,Ex er ci a9,Ez ey,Ex bt dx dy] _ ot Tryz.underlying30 rfl D6 ?_) | go_values | go_skip | go_guarded | go_step | go_upon)
       refine(PR W8 (Et _ _)).mono ?_;rintro e W9 ⟨u,rfl,hu,s9⟩;replace hu:aM W9 u (pX l m a b R (i,k)):=hu;have iC:=Kw l m a b R (i,k);rw[HN.out.1]at iC;obtain⟨uo,uc,rfl⟩:=hu.ak;rw[iC]at hu|-;dsimp only;clear PR f4 S1 S2 S3 S4;replace ot:=ot.ae s9;replace S0:=S0.af (av.ae s9);replace I:=I.ae s9;replace st:=zt st (Eo _) s9;have s79:=zt m8.out (Eo _) s9;have iM:=zt HB.out.2.2 (Eo _) st;replace X:=HB.out.1.ae st
       have OD:∀w',zf W9 w'->Ed Ec 65 #[Ej #[Ez ua1,Ex ua2 ua3 ua4,Ez ua5,Ex ua6 ua7 ua8,Ey Ew R,Ey Ew A,Ez ub1,Ex ub2 ub3 ub4,Ez ub5,Ex ub6 ub7 ub8,Ez uc1,Ex uc2 uc3 uc4,Ez uc5,Ex uc6 uc7 uc8],Ex uo nl uc,Ey Ew nm,Ej #[Ey Ew (j0:Nat),Ey Ew (j1:Nat),Ey Ew (j2:Nat),Ey Ew (j3:Nat)]] w' fun e N=>∃v,e = Eh v/\FR N v (oX l m a b R wq s (i,k))/\zf w' N:=fun w' s'=>by
        have ub:=T.out.2.2.2.1.af (av.ae (zt iM (Eo _) s'));rw[e1]at ub;have:=Hs (ua1:=ua1) (ua2:=ua2) (ua3:=ua3) (ua4:=ua4) (ua5:=ua5) (ua6:=ua6) (ua7:=ua7) (ua8:=ua8) (uc1:=uc1) (uc2:=uc2) (uc3:=uc3) (uc4:=uc4) (uc5:=uc5) (uc6:=uc6) (uc7:=uc7) (uc8:=uc8) (R:=R) (A:=A) (n:=(nm:Int)) (o0:=(j0:Nat)) (o1:=(j1:Nat)) (o2:=(j2:Nat)) (o3:=(j3:Nat)) w' ub ss Y.1 Y.2.1 Y.2.2.1 Y.2.2.2 D5 D5 (hu.ae s') (by rw[iC]; omega);rw[HA.out.2.2.1,iC,lf]at this;exact this
       have cg:ba<W9.heap.size:=Nat.lt_of_lt_of_le (Nat.lt_of_lt_of_le iH (zt (Et w6.heap.size w6) (Eo _) st).size) (Eo _);have iu:ba<W7.heap.size:=lY.out;have p0:=(s79.cell (p:=⟨ba,_,none⟩) iu).trans HP.out.1;have p1:=(s79.cell (p:=⟨ba,_,none⟩) iu).trans HP.out.2.1;have p2:=(s79.cell (p:=⟨ba,_,none⟩) iu).trans HP.out.2.2.1;have p3:=(s79.cell (p:=⟨ba,_,none⟩) iu).trans HP.out.2.2.2
       go_upto_region 25 with fail
       refine aj.cC W9 W9 [.n 10 28 #[Ez false,Ex none 0 0,Ez false,Ex none 0 0] 11 [9] Df] [9,10,11] [(9,ym),(10,xI)] [(9,bc (oX l m a b R wq s (i,k)))] [(11,[(10,some 24),(9,some 154)]),(12,[(10,some 24),(9,some 154)])] [(10,[11])] (by simp only[aP]; exact⟨zh,zj,trivial⟩) (fun N0 i5 h9 Q' H hQ=> ?_);refine aj.bH H 145 (fun _ _ _ _ h=>X.ae h.b) ?_ (h:=fun J hf K hK=>by refine wp_load_row 45 (.tmp 7) rfl w.heap.size rfl 45 #[Ez ua1,Ex ua2 ua3 ua4,Ez ua5,Ex ua6 ua7 ua8,Ey Ew R,Ey Ew A,Ez ub1,Ex ub2 ub3 ub4,Ez ub5,Ex ub6 ub7 ub8,Ez uc1,Ex uc2 uc3 uc4,Ez uc5,Ex uc6 uc7 uc8] (0,0) _ hf Tryz.underlying45 rfl D6 ?_; exact hK.out);refine aj.dA rfl ?_
       iterate 7 refine aj.RQ H _ ?_
       refine aj.bH H 153 (fun _ _ _ _ h=>E7 ((h.b.cell (p:=⟨ba,oa+i*20,none⟩) cg).trans p0) (E7 ((h.b.cell (p:=⟨ba,oa+i*20+1,none⟩) cg).trans p1) (E7 ((h.b.cell (p:=⟨ba,oa+i*20+2,none⟩) cg).trans p2) ((h.b.cell (p:=⟨ba,oa+i*20+3,none⟩) cg).trans p3)))) ?_;refine aj.sC (m:=fun u=>u) (F:=fun J u=>FR J u (oX l m a b R wq s (i,k))) H (fun D v J hj _=>OD J hj.b) ?_;rintro _ ⟨d1,d2,d3,d4,d5,d6,d7,d8,rfl⟩;refine aj.dA rfl ?_;refine aj.sA H ?_;rintro _ ⟨iy,rfl⟩;refine aj.dA rfl ?_;refine aj.sN H ?_ (h:=fun J hb K hK=>by refine wp_store_row 28 (.tmp 24) (.tmp 154) rfl iy #[Ez d1,Ex d2 d3 d4,Ez d5,Ex d6 d7 d8] rfl rfl 28 _ hb D6 rfl (by simp[yF,Value.oneCell']) ?_; exact hK.out _ ⟨rfl,rfl,rfl,(aZ.eL hb).only⟩ (aZ.eL hb).bz);refine aj.sE (fun _ v' iq ik jk hl _ _ hf=> ?_);obtain⟨zc,oo⟩:N0<=iy/\ai iq iy 28 #[Ez d1,Ex d2 d3 d4,Ez d5,Ex d6 d7 d8]:=hl.1 iy rfl;have F0:FR iq (Ej #[Ez d1,Ex d2 d3 d4,Ez d5,Ex d6 d7 d8]) (oX l m a b R wq s (i,k)):=(hf (9,some 154) (.tail _ (.head _)) rfl).2.2;have zN:W9.heap.size<=N0:=Nat.le_of_eq i5.out.symm;have ml:W9.heap.size<=iy:=D5
       refine hQ _ _ ?_;clear hl hf hQ H Q' h9 jk i5 OD zc zN p0 p1 p2 p3 cg iu;replace ot:=ot.ae ik;replace S0:=S0.af (av.ae ik);replace hu:=hu.ae ik;replace I:=I.ae ik;replace st:=zt st (Eo _) ik;have x0:=oo.c 0 rfl;have x1:=oo.c 1 rfl;have x2:=oo.c 2 rfl;have x3:=oo.c 3 rfl;have lo:=oo.lt;have M:qo FF i++(NK i (k+1)).map (fun k=>(i,k))=(qo FF i++(NK i k).map fun k=>(i,k)) ++ [(i,k)]:=by rw[HZ.out.trans (E8 rfl)]; simp
       have hE:=E6 M;clear M ik lf s79 iM X
       rcases bo with _ | y
       .
        go_upto_region 26 with fail
        refine wp_region_lit ?_
        repeat' (first | ((with_reducible show wpList _ _ _ (⟨some 164,_,_,_,_,_⟩::_) _ _); refine zO rfl 30 (.tmp 22) rfl gY rfl 30 #[Ez bg,Ex d9 be dP,Ez cN,Ex aX dc cU,Ez ah,Ex bi dk bl,Ez f7,Ex cn em cx,Ez eW,Ex ek br co,Ez ce,Ex eM b9 dl,Ez ed,Ex er ci a9,Ez ey,Ex bt dx dy] _ ot Tryz.underlying30 rfl D6 ?_) | ((with_reducible show wpList _ _ _ (⟨some 167,_,_,_,_,_⟩::_) _ _); refine yp rfl 70 #[(0,.tmp 164),(1,.tmp 165),(2,.tmp 166)] rfl #[Ez bg,Ex d9 be dP,Ez cN,Ex aX dc cU,Ez ah,Ex bi dk bl,Ez f7,Ex cn em cx,Ez eW,Ex ek br co,Ez ce,Ex eM b9 dl,Ez ed,Ex er ci a9,Ez ey,Ex bt dx dy,Ex uo nl uc,Ez d1,Ex d2 d3 d4,Ez d5,Ex d6 d7 d8] D6 ?_) | ((with_reducible show wpList _ _ _ (⟨none,.store _ _ _,_,_,_,_⟩::_) _ _); refine zF rfl 70 (.tmp 16) (.tmp 167) rfl w6.heap.size #[Ez bg,Ex d9 be dP,Ez cN,Ex aX dc cU,Ez ah,Ex bi dk bl,Ez f7,Ex cn em cx,Ez eW,Ex ek br co,Ez ce,Ex eM b9 dl,Ez ed,Ex er ci a9,Ez ey,Ex bt dx dy,Ex uo nl uc,Ez d1,Ex d2 d3 d4,Ez d5,Ex d6 d7 d8] rfl rfl 70 yF I D6 rfl (by simp[yF,Value.oneCell']) (fun wz Z=> ?_)) | go_values | go_skip | go_guarded | go_step | go_upon)
        have M:=hE.out;go_wp2_with fail
        go_roundw
        case rel=>exact⟨k+1,by omega,by go_num,by rw[M,xM,gZ.out,(show q_ OO none (i,k)=_ from rfl)]; rfl,by rw[M,xM,gZ.out,(show q_ OO none (i,k)=_ from rfl)]; exact⟨_,Z.bz,_,_,_,_,_,_,_,_,_,_,rfl,S0.af (Z.af rfl),hu.only Z.was (by simp[yF]) Z.only,F0.af (Z.af rfl)⟩,Z.below st (Eo _)⟩
        case measure=>simp[intOf]; omega
       .
        obtain⟨CS,I,iv⟩:=I;have i6:=E6 iv;obtain⟨cs,u2,t1,t2,t3,t4,t5,t6,t7,t8,gF,bs,bu,bf⟩:=iv;obtain⟨v2,v3,rfl⟩:=bu.ak;obtain⟨v4,jc⟩:∃n,(pX l m a b R y).length=n:=⟨_,rfl⟩;rw[jc]at gF;obtain⟨g8,gJ,fl,gV,gD,gd,ft,gP,gI,gX,fe,gR,gE,fd,gn,gK,gQ,gB,gW,g9,gM,gO,gG,gN,f8,gC,gH,gL,gt,f9,gT,gz,es⟩:=bs.eU;have im:cs=#[Ez g8,Ex gJ fl gV,Ez gD,Ex gd ft gP,Ez gI,Ex gX fe gR,Ez gE,Ex fd gn gK,Ez gQ,Ex gB gW g9,Ez gM,Ex gO gG gN,Ez f8,Ex gC gH gL,Ez gt,Ex f9 gT gz]:=by injection es
        have iB:CS=#[Ez g8,Ex gJ fl gV,Ez gD,Ex gd ft gP,Ez gI,Ex gX fe gR,Ez gE,Ex fd gn gK,Ez gQ,Ex gB gW g9,Ez gM,Ex gO gG gN,Ez f8,Ex gC gH gL,Ez gt,Ex f9 gT gz,Ex v2 v4 v3,Ez t1,Ex t2 t3 t4,Ez t5,Ex t6 t7 t8]:=by rw[im]at gF; injection gF
        rw[iB]at I i6;have iP:=I.c 17 rfl;have jb:=I.c 18 rfl;have iZ:=I.c 19 rfl;have iU:=I.c 20 rfl;have lg:=I.lt;clear es iB gF bs bu im;have iz:sz wq 20:=by rw[<- HA.out.2.2.1]; exact kX ss (xq Y.1 Y.2.1 Y.2.2.1 Y.2.2.2 (show (0:Int)<=(nm:Int) by omega) D5).1 (Rat.ne_of_gt (qg Y.1 Y.2.2.1 D5))
        have ja:=fun y=>Vx (l:=l) (m:=m) (a:=a) (b:=b) (R:=R) y iz ss (show l.length<=6 by have:=HN.out.1; omega);obtain⟨c,hc⟩:∃c,z8 (oX l m a b R wq s (i,k)) (oX l m a b R wq s y)=c:=⟨_,rfl⟩;have CP:Ed Ec 46 #[Ej #[Ez d1,Ex d2 d3 d4,Ez d5,Ex d6 d7 d8],Ej #[Ez t1,Ex t2 t3 t4,Ez t5,Ex t6 t7 t8]] iq fun e N=>e = Eh (Ey Ew c)/\zf iq N:=by rw[<- hc]; exact Zw iq F0 bf (ja (i,k)) (ja y) D5
        obtain⟨tc,ip⟩:∃d,decide (0<c)=d:=⟨_,rfl⟩;clear iz ja bf
        go_upto_region 26 with fail
        refine wp_region_lit ?_
        repeat' (first | go_values | go_skip | go_guarded | go_step | go_upon)
        refine CP.mono ?_;rintro e lQ ⟨rfl,dX⟩;dsimp only;clear CP iP jb iZ iU lg x0 x1 x2 x3 lo;replace ot:=ot.ae dX;replace oo:=oo.ae dX;replace S0:=S0.af (av.ae dX);replace F0:=F0.af (av.ae dX);replace hu:=hu.ae dX;replace I:=I.ae dX;replace st:=zt st (Eo _) dX;have k6:=E6 (i6.out.ae dX);have x0:=oo.c 0 rfl;have x1:=oo.c 1 rfl;have x2:=oo.c 2 rfl;have x3:=oo.c 3 rfl;have lo:=oo.lt;clear dX i6
        cases tc with
        | true=>
         have iA:q_ OO (some y) (i,k)=some (i,k):=by rw[<- HA.out.2.2.2.1]; exact Y4 rfl (by rw[hc]; exact of_decide_eq_true ip)
         clear hc
         repeat' (first | ((with_reducible show wpList _ _ _ (⟨some 164,_,_,_,_,_⟩::_) _ _); refine zO rfl 30 (.tmp 22) rfl gY rfl 30 #[Ez bg,Ex d9 be dP,Ez cN,Ex aX dc cU,Ez ah,Ex bi dk bl,Ez f7,Ex cn em cx,Ez eW,Ex ek br co,Ez ce,Ex eM b9 dl,Ez ed,Ex er ci a9,Ez ey,Ex bt dx dy] _ ot Tryz.underlying30 rfl D6 ?_) | ((with_reducible show wpList _ _ _ (⟨some 167,_,_,_,_,_⟩::_) _ _); refine yp rfl 70 #[(0,.tmp 164),(1,.tmp 165),(2,.tmp 166)] rfl #[Ez bg,Ex d9 be dP,Ez cN,Ex aX dc cU,Ez ah,Ex bi dk bl,Ez f7,Ex cn em cx,Ez eW,Ex ek br co,Ez ce,Ex eM b9 dl,Ez ed,Ex er ci a9,Ez ey,Ex bt dx dy,Ex uo nl uc,Ez d1,Ex d2 d3 d4,Ez d5,Ex d6 d7 d8] D6 ?_) | ((with_reducible show wpList _ _ _ (⟨none,.store _ _ _,_,_,_,_⟩::_) _ _); refine zF rfl 70 (.tmp 16) (.tmp 167) rfl w6.heap.size #[Ez bg,Ex d9 be dP,Ez cN,Ex aX dc cU,Ez ah,Ex bi dk bl,Ez f7,Ex cn em cx,Ez eW,Ex ek br co,Ez ce,Ex eM b9 dl,Ez ed,Ex er ci a9,Ez ey,Ex bt dx dy,Ex uo nl uc,Ez d1,Ex d2 d3 d4,Ez d5,Ex d6 d7 d8] rfl rfl 70 #[Ez g8,Ex gJ fl gV,Ez gD,Ex gd ft gP,Ez gI,Ex gX fe gR,Ez gE,Ex fd gn gK,Ez gQ,Ex gB gW g9,Ez gM,Ex gO gG gN,Ez f8,Ex gC gH gL,Ez gt,Ex f9 gT gz,Ex v2 v4 v3,Ez t1,Ex t2 t3 t4,Ez t5,Ex t6 t7 t8] I D6 rfl (by simp[yF,Value.oneCell']) (fun wz Z=> ?_)) | go_values | go_skip | go_guarded | go_step | go_upon)
         have M:=hE.out;go_wp2_with fail
         go_roundw
         case rel=>exact⟨k+1,by omega,by go_num,by rw[M,xM,gZ.out,iA]; rfl,by rw[M,xM,gZ.out,iA]; exact⟨_,Z.bz,_,_,_,_,_,_,_,_,_,_,rfl,S0.af (Z.af rfl),hu.only Z.was (by simp[yF]) Z.only,F0.af (Z.af rfl)⟩,Z.below st (Eo _)⟩
         case measure=>simp[intOf]; omega
        | false=>
         have iA:q_ OO (some y) (i,k)=some y:=by rw[<- HA.out.2.2.2.1]; exact XM rfl (by rw[hc]; have:=of_decide_eq_false ip; omega)
         clear hc;go_wp2_with fail
         have M:=hE.out
         go_roundw
         case rel=>exact⟨k+1,by omega,by go_num,by rw[M,xM,gZ.out,iA],by rw[M,xM,gZ.out,iA]; exact⟨_,I,k6.out⟩,st⟩
         case measure=>simp[intOf]; omega
     .
      have lj:decide ((k:Int)<(nb:Int))=false:=E' D5;obtain rfl:k=nb:=D5
      go_wp2_with fail
      go_roundw
      case rel=>exact⟨i+1,lJ.out,by go_num,by rw[ij.out.2.1]; rfl,by rw[ij.out.2.1]at I; exact I,st⟩
      case measure=>have:=lJ.out; simp[intOf]; omega
   .
    have km:decide ((na:Int)<(na:Int))=false:=E' D5;have l9:i=na:=D5
    rw[l9]at I|-;clear l9;obtain⟨bo,i8⟩:∃z,qu OO (qo FF na)=z:=⟨_,rfl⟩;have E:=ig.out;rw[i8]at I E|-;have HE:=E6 E;have X:=HB.out.1.ae st;have o8:=HB.out.2.1.ae st;have gA:=zt HB.out.2.2 (Eo _) st;have lI:=E6 i8;clear E i8 HQ ij
    rcases bo with _ | y
    .
     go_upto_region 28 with fail
     refine wp_region_lit ?_
     repeat' (first | ((with_reducible show wpList _ _ _ (⟨some 178,_,_,_,_,_⟩::_) _ _); refine yp rfl 70 #[] rfl yF D6 ?_) | ((with_reducible show wpList _ _ _ (⟨none,.store _ _ _,_,_,_,_⟩::_) _ _); refine zF rfl 70 (.tmp 8) (.tmp 178) rfl (w.heap.size+1) yF rfl rfl 70 yF o8 D6 rfl (by simp[yF,Value.oneCell']) (fun wz Z=> ?_)) | go_values | go_skip | go_guarded | go_step | go_upon)
     try rw[Exit.noGoto_ret]
     refine En (zV rfl _ _ (w.heap.size+1) rfl (cs:=yF) Z.bz Tryz.underlying70 rfl D6) rfl ?_;exact⟨_,by rw[HE.out]; rfl,by rw[HE.out]; rfl,Z.below gA D5⟩
    .
     obtain⟨CS,I,iv⟩:=I;have i6:=E6 iv;obtain⟨cs,u2,t1,t2,t3,t4,t5,t6,t7,t8,gF,bs,bu,bf⟩:=iv;obtain⟨v2,v3,rfl⟩:=bu.ak;obtain⟨v4,jc⟩:∃n,(pX l m a b R y).length=n:=⟨_,rfl⟩;rw[jc]at gF;obtain⟨g8,gJ,fl,gV,gD,gd,ft,gP,gI,gX,fe,gR,gE,fd,gn,gK,gQ,gB,gW,g9,gM,gO,gG,gN,f8,gC,gH,gL,gt,f9,gT,gz,es⟩:=bs.eU;have im:cs=#[Ez g8,Ex gJ fl gV,Ez gD,Ex gd ft gP,Ez gI,Ex gX fe gR,Ez gE,Ex fd gn gK,Ez gQ,Ex gB gW g9,Ez gM,Ex gO gG gN,Ez f8,Ex gC gH gL,Ez gt,Ex f9 gT gz]:=by injection es
     have iB:CS=#[Ez g8,Ex gJ fl gV,Ez gD,Ex gd ft gP,Ez gI,Ex gX fe gR,Ez gE,Ex fd gn gK,Ez gQ,Ex gB gW g9,Ez gM,Ex gO gG gN,Ez f8,Ex gC gH gL,Ez gt,Ex f9 gT gz,Ex v2 v4 v3,Ez t1,Ex t2 t3 t4,Ez t5,Ex t6 t7 t8]:=by rw[im]at gF; injection gF
     rw[iB]at I i6;have iP:=I.c 17 rfl;have jb:=I.c 18 rfl;have iZ:=I.c 19 rfl;have iU:=I.c 20 rfl;have lg:=I.lt;clear es iB gF bs bu im;have lC:FR wo (Ej #[Ez uc1,Ex uc2 uc3 uc4,Ez uc5,Ex uc6 uc7 uc8]) least:=by have h:=T.out.2.2.2.2.1; rw[e2]at h; exact h.af (av.ae gA)
     have me:1<=nm:=by
      have yl:=Vw (XN (show qu OO (vw a b off)=some y by rw[HA.out.2.2.2.2]; exact lI.out));obtain⟨i0,i1,i2,i3,-,-,-,-,z0,-,-,-,-⟩:=(HM.out.2.2 y.2 (by rw[<- lW.out]; exact yl.2)).2.ex;have:=HN.out.2;omega
     have iz:sz wq 20:=by rw[<- HA.out.2.2.1]; exact kX ss (xq Y.1 Y.2.1 Y.2.2.1 Y.2.2.2 (show (0:Int)<=(nm:Int) by omega) D5).1 (Rat.ne_of_gt (qg Y.1 Y.2.2.1 D5))
     have l8:=Vx (l:=l) (m:=m) (a:=a) (b:=b) (R:=R) y iz ss (show l.length<=6 by have:=HN.out.1; omega);obtain⟨c,hc⟩:∃c,z8 (oX l m a b R wq s y) least=c:=⟨_,rfl⟩;have CP:Ed Ec 46 #[Ej #[Ez t1,Ex t2 t3 t4,Ez t5,Ex t6 t7 t8],Ej #[Ez uc1,Ex uc2 uc3 uc4,Ez uc5,Ex uc6 uc7 uc8]] wo fun e N=>e = Eh (Ey Ew c)/\zf wo N:=by rw[<- hc]; exact Zw wo bf lC l8 sl D5
     obtain⟨tc,ip⟩:∃d,decide (c<0)=d:=⟨_,rfl⟩;have eV:=X.c 10 rfl;have eZ:=X.c 11 rfl;have eY:=X.c 12 rfl;have dN:=X.c 13 rfl;clear iz l8 bf lC
     go_upto_region 28 with fail
     refine wp_region_lit ?_
     repeat' (first | go_values | go_skip | go_guarded | go_step | go_upon)
     refine CP.mono ?_;rintro e lQ ⟨rfl,dX⟩;dsimp only;clear CP iP jb iZ iU lg eV eZ eY dN X;replace I:=I.ae dX;replace o8:=o8.ae dX;replace gA:=zt gA (Eo _) dX;have k6:=E6 (i6.out.ae dX);clear dX i6 st
     cases tc with
     | true=>
      have k7:OO y<least:=by rw[<- HA.out.2.2.2.1]; exact aU.1 (by rw[hc]; exact of_decide_eq_true ip)
      clear hc
      repeat' (first | ((with_reducible show wpList _ _ _ (⟨some 178,_,_,_,_,_⟩::_) _ _); refine yp rfl 70 #[] rfl yF D6 ?_) | ((with_reducible show wpList _ _ _ (⟨none,.store _ _ _,_,_,_,_⟩::_) _ _); refine zF rfl 70 (.tmp 8) (.tmp 178) rfl (w.heap.size+1) yF rfl rfl 70 yF o8 D6 rfl (by simp[yF,Value.oneCell']) (fun wz Z=> ?_)) | go_values | go_skip | go_guarded | go_step | go_upon)
      try rw[Exit.noGoto_ret]
      refine En (zV rfl _ _ (w.heap.size+1) rfl (cs:=yF) Z.bz Tryz.underlying70 rfl D6) rfl ?_;exact⟨_,by rw[HE.out,Ql k7]; rfl,by rw[HE.out,Ql k7]; rfl,Z.below gA D5⟩
     | false=>
      have lM:¬OO y<least:=by rw[<- HA.out.2.2.2.1]; exact fun h=>of_decide_eq_false ip (by rw[<- hc]; exact aU.2 h)
      clear hc
      repeat' (first | ((with_reducible show wpList _ _ _ (⟨some 179,_,_,_,_,_⟩::_) _ _); refine zO rfl 70 (.tmp 16) rfl w6.heap.size rfl 70 #[Ez g8,Ex gJ fl gV,Ez gD,Ex gd ft gP,Ez gI,Ex gX fe gR,Ez gE,Ex fd gn gK,Ez gQ,Ex gB gW g9,Ez gM,Ex gO gG gN,Ez f8,Ex gC gH gL,Ez gt,Ex f9 gT gz,Ex v2 v4 v3,Ez t1,Ex t2 t3 t4,Ez t5,Ex t6 t7 t8] _ I Tryz.underlying70 rfl D6 ?_) | ((with_reducible show wpList _ _ _ (⟨none,.store _ _ _,_,_,_,_⟩::_) _ _); refine zF rfl 70 (.tmp 8) (.tmp 179) rfl (w.heap.size+1) #[Ez g8,Ex gJ fl gV,Ez gD,Ex gd ft gP,Ez gI,Ex gX fe gR,Ez gE,Ex fd gn gK,Ez gQ,Ex gB gW g9,Ez gM,Ex gO gG gN,Ez f8,Ex gC gH gL,Ez gt,Ex f9 gT gz,Ex v2 v4 v3,Ez t1,Ex t2 t3 t4,Ez t5,Ex t6 t7 t8] rfl rfl 70 yF o8 D6 rfl (by simp[yF,Value.oneCell']) (fun wz Z=> ?_)) | go_values | go_skip | go_guarded | go_step | go_upon)
      try rw[Exit.noGoto_ret]
      refine En (zV rfl _ _ (w.heap.size+1) rfl (cs:=#[Ez g8,Ex gJ fl gV,Ez gD,Ex gd ft gP,Ez gI,Ex gX fe gR,Ez gE,Ex fd gn gK,Ez gQ,Ex gB gW g9,Ez gM,Ex gO gG gN,Ez f8,Ex gC gH gL,Ez gt,Ex f9 gT gz,Ex v2 v4 v3,Ez t1,Ex t2 t3 t4,Ez t5,Ex t6 t7 t8]) Z.bz Tryz.underlying70 rfl D6) rfl ?_;exact⟨_,by rw[HE.out,Qm lM]; rfl,by rw[HE.out,Qm lM,HA.out.1,HA.out.2.1,HA.out.2.2.1]; exact k6.out.row Z rfl (by simp[yF]),Z.below gA D5⟩
end
section
open Go.RowKit
variable {ua1 ua5 ub1 ub5 uc1 uc5:Bool} {A R:Int} {ua3 ua4 ua7 ua8 ub3 ub4 ub7 ub8 uc3 uc4 uc7 uc8:Nat} {O:Nat->Option Rat} {ua2 ua6 ub2 ub6 uc2 uc6:Option Addr} {l m:PL} {vl vm:Ef}
theorem JC (R A:Int):zC R A ((0:Nat):Int)<1:=by
 have e:zC R A ((0:Nat):Int)=0:=by unfold zC; simp[Rat.div_def,Rat.zero_mul]
 rw[e]; decide
set_option maxHeartbeats 6400000 in
set_option maxRecDepth 1000000 in
theorem JD (most:Int) (w:Ee) (b0:FB w (Ej #[Ez ua1,Ex ua2 ua3 ua4,Ez ua5,Ex ua6 ua7 ua8]) (O 0)) (b1:FB w (Ej #[Ez ub1,Ex ub2 ub3 ub4,Ez ub5,Ex ub6 ub7 ub8]) (O 1)) (b2:FB w (Ej #[Ez uc1,Ex uc2 uc3 uc4,Ez uc5,Ex uc6 uc7 uc8]) (O 2)) (fw:Yb O (yG ua3 ub3 uc3 uc3) (yG ua7 ub7 uc7 uc7) 3) (hl:bP w vl l) (hm:bP w vm m) (zl:l.length<=210) (zm:m.length<=210)
  (h:yq O (yG ua3 ub3 uc3 uc3) (yG ua7 ub7 uc7 uc7) R A ua1=false\/z6 l≠0\/z6 m≠0\/most<0\/12<most\/¬zC R A m.length<1) :
  Ed Ec 32 #[vl,vm,Ey Ew most,Ej #[Ez ua1,Ex ua2 ua3 ua4,Ez ua5,Ex ua6 ua7 ua8,Ey Ew R,Ey Ew A,Ez ub1,Ex ub2 ub3 ub4,Ez ub5,Ex ub6 ub7 ub8,Ez uc1,Ex uc2 uc3 uc4,Ez uc5,Ex uc6 uc7 uc8]] w fun e w'=>e = Eh (Ev #[Ej yF,Ey Ew (JA (yq O (yG ua3 ub3 uc3 uc3) (yG ua7 ub7 uc7 uc7) R A ua1) l m)])/\zf w w':=by
 have CK:∀w',av w w'->Ed Ec 18 #[Ej #[Ez ua1,Ex ua2 ua3 ua4,Ez ua5,Ex ua6 ua7 ua8,Ey Ew R,Ey Ew A,Ez ub1,Ex ub2 ub3 ub4,Ez ub5,Ex ub6 ub7 ub8,Ez uc1,Ex uc2 uc3 uc4,Ez uc5,Ex uc6 uc7 uc8]] w' fun e E=>e = Eh (Ey Ew (Z5 (yq O (yG ua3 ub3 uc3 uc3) (yG ua7 ub7 uc7 uc7) R A ua1)))/\zf w' E:=fun w' k=>Vq w' (b0.af k) (b1.af k) (b2.af k) fw;have QL:∀w',zf w w'->Ed Ec 62 #[vl] w' fun e E=>e = Eh (Ey Ew (z6 l))/\zf w' E:=fun w' s=>Zr w' (hl.ae s) D5;have QM:∀w',zf w w'->Ed Ec 62 #[vm] w' fun e E=>e = Eh (Ey Ew (z6 m))/\zf w' E:=fun w' s=>Zr w' (hm.ae s) D5;have RK:yq O (yG ua3 ub3 uc3 uc3) (yG ua7 ub7 uc7 uc7) R A ua1=true->(1<=R/\R<=65536/\1<=A/\A<=17592186044416):=fun h=>(zJ.1 h).2.1;have T:(1<=R/\R<=65536/\1<=A/\A<=17592186044416)->m.length<=200->∀w',Ed Ec 64 #[Ej #[Ez ua1,Ex ua2 ua3 ua4,Ez ua5,Ex ua6 ua7 ua8,Ey Ew R,Ey Ew A,Ez ub1,Ex ub2 ub3 ub4,Ez ub5,Ex ub6 ub7 ub8,Ez uc1,Ex uc2 uc3 uc4,Ez uc5,Ex uc6 uc7 uc8],Ey Ew m.length] w' fun e E=>∃v,e = Eh v/\FR E v (zC R A m.length)/\zf w' E:=fun Y hn w'=>Qc R A m.length w' Y.1 Y.2.1 Y.2.2.1 Y.2.2.2 D5 D5;have WH:∀w',Ed Ec 47 #[Ey Ew 1] w' fun e E=>∃v,e = Eh v/\FR E v (1:Rat)/\zf w' E:=fun w'=>by have:=qt 1 w' D7 D7; rwa[qW]at this
 have M:(1<=R/\R<=65536/\1<=A/\A<=17592186044416)->m.length<=200->∀ (w':Ee) (u v:Ef),FR w' u (zC R A m.length)->FR w' v (1:Rat)->Ed Ec 46 #[u,v] w' fun e E=>e = Eh (Ey Ew (z8 (zC R A m.length) 1))/\zf w' E:=fun Y hn w' u v hu hv=>Zw w' hu hv (xq Y.1 Y.2.1 Y.2.2.1 Y.2.2.2 (show (0:Int)<=(m.length:Int) by omega) D5).1 cF D5
 have C0:(1<=R/\R<=65536/\1<=A/\A<=17592186044416)->¬zC R A m.length<1->0<m.length:=fun Y hc=>by
  rcases Nat.eq_zero_or_pos m.length with e | e
  . exfalso; apply hc; rw[e]; exact JC R A
  . exact e
 have Z:=y_ (l:=m);have HB:Hid (JA (yq O (yG ua3 ub3 uc3 uc3) (yG ua7 ub7 uc7 uc7) R A ua1) l m=if yq O (yG ua3 ub3 uc3 uc3) (yG ua7 ub7 uc7 uc7) R A ua1=false then 8 else if z6 l≠0 then z6 l else if z6 m≠0 then z6 m else 2):=E6 rfl;generalize JA (yq O (yG ua3 ub3 uc3 uc3) (yG ua7 ub7 uc7 uc7) R A ua1) l m=bs at *;generalize yq O (yG ua3 ub3 uc3 uc3) (yG ua7 ub7 uc7 uc7) R A ua1=K at *;obtain⟨al,cl,rfl⟩:=hl.ak;obtain⟨am,cm,rfl⟩:=hm.ak;generalize hnl:l.length=nl at *;generalize hnm:m.length=nm at *;generalize hcl:z6 l=c1 at *;generalize hcm:z6 m=c2 at *;obtain⟨cc,bh⟩:∃c,z8 (zC R A nm) 1=c:=⟨_,rfl⟩;have J:¬zC R A nm<1->0<=cc:=fun h=>by rw[<- bh]; rcases vJ (zC R A nm) 1 with g | g | g; omega; exact absurd g.2 h; omega
 rw[bh]at M;generalize zC R A nm=cq at *;clear hl hm b0 b1 b2 fw hnl hnm hcl hcm bh
 go_enter Tryz.func32,Tryz.ntmps32
 go_upto_region 1 with fail
 refine wp_region_lit ?_
 repeat' (first | ((with_reducible show wpList _ _ _ (⟨some 25,_,_,_,_,_⟩::_) _ _); refine zO rfl 45 (.tmp 7) rfl w.heap.size rfl 45 #[Ez ua1,Ex ua2 ua3 ua4,Ez ua5,Ex ua6 ua7 ua8,Ey Ew R,Ey Ew A,Ez ub1,Ex ub2 ub3 ub4,Ez ub5,Ex ub6 ub7 ub8,Ez uc1,Ex uc2 uc3 uc4,Ez uc5,Ex uc6 uc7 uc8] _ zw Tryz.underlying45 rfl D6 ?_) | go_values | go_skip | go_guarded | go_step | go_upon)
 refine(CK _ zj).mono ?_;rintro e w1 ⟨rfl,aX⟩;have B:Below w.heap.size w w1:=zT aX;have o7:ai w1 w.heap.size 45 #[Ez ua1,Ex ua2 ua3 ua4,Ez ua5,Ex ua6 ua7 ua8,Ey Ew R,Ey Ew A,Ez ub1,Ex ub2 ub3 ub4,Ez ub5,Ex ub6 ub7 ub8,Ez uc1,Ex uc2 uc3 uc4,Ez uc5,Ex uc6 uc7 uc8]:=ai.au aX;have o8:ai w1 (w.heap.size+1) 70 yF:=ai.au aX;clear aX;clear CK;have zz:=B.size
 cases K with
 | false=>
  have N:=HB.out;rw[E8 rfl]at N;clear HB QL QM T RK M C0 Z WH;rw[show Z5 false=8 from rfl];dsimp only
  repeat' (first | ((with_reducible show wpList _ _ _ (⟨some 28,_,_,_,_,_⟩::_) _ _); refine yp rfl 70 #[] rfl yF D6 ?_) | ((with_reducible show wpList _ _ _ (⟨none,.store _ _ _,_,_,_,_⟩::_) _ _); refine zF rfl 70 (.tmp 8) (.tmp 28) rfl (w.heap.size+1) yF rfl rfl 70 yF o8 D6 rfl (by simp[yF,Value.oneCell']) (fun wz I=> ?_)) | go_values | go_skip | go_guarded | go_step | go_upon)
  try rw[Exit.noGoto_ret]
  refine En (zV rfl _ _ (w.heap.size+1) rfl (cs:=yF) I.bz Tryz.underlying70 rfl D6) rfl ?_;exact⟨by rw[N]; rfl,I.below B D5⟩
 | true=>
  have H:=HB.out;rw[E9 D8]at H;have be:=E6 H;clear HB;have RK:=RK rfl;replace T:=T RK;replace M:=M RK;replace C0:=C0 RK;replace h:=h.resolve_left D8;clear H RK;rw[show Z5 true=0 from rfl];dsimp only
  repeat' (first | go_values | go_skip | go_guarded | go_step | go_upon)
  refine(QL _ B).mono ?_;rintro e E ⟨rfl,aY⟩;replace B:Below w.heap.size w E:=zT aY;replace o7:ai E w.heap.size 45 #[Ez ua1,Ex ua2 ua3 ua4,Ez ua5,Ex ua6 ua7 ua8,Ey Ew R,Ey Ew A,Ez ub1,Ex ub2 ub3 ub4,Ez ub5,Ex ub6 ub7 ub8,Ez uc1,Ex uc2 uc3 uc4,Ez uc5,Ex uc6 uc7 uc8]:=ai.au aY;replace o8:ai E (w.heap.size+1) 70 yF:=ai.au aY;clear aY;clear QL;dsimp only
  by_cases h1:c1=0
  .
   replace h:=h.resolve_left (by rw[h1]; simp);have H:=be.out;rw[E9 (by rw[h1]; simp)]at H;have ah:=E6 H;clear be H;subst h1
   repeat' (first | go_values | go_skip | go_guarded | go_step | go_upon)
   refine(QM _ B).mono ?_;rintro e w3 ⟨rfl,b9⟩;replace B:Below w.heap.size w w3:=zT b9;replace o7:ai w3 w.heap.size 45 #[Ez ua1,Ex ua2 ua3 ua4,Ez ua5,Ex ua6 ua7 ua8,Ey Ew R,Ey Ew A,Ez ub1,Ex ub2 ub3 ub4,Ez ub5,Ex ub6 ub7 ub8,Ez uc1,Ex uc2 uc3 uc4,Ez uc5,Ex uc6 uc7 uc8]:=ai.au b9;replace o8:ai w3 (w.heap.size+1) 70 yF:=ai.au b9;clear b9;clear QM;dsimp only
   by_cases h2:c2=0
   .
    replace h:=h.resolve_left (by rw[h2]; simp);have N:=ah.out;rw[E9 (by rw[h2]; simp)]at N;replace Z:=Z h2;replace T:=T Z;replace M:=M Z;clear ah;subst h2
    by_cases g0:most<0
    .
     have d0:decide (most<0)=true:=E_ g0;clear h T M WH C0 Z J
     repeat' (first | ((with_reducible show wpList _ _ _ (⟨some 61,_,_,_,_,_⟩::_) _ _); refine yp rfl 70 #[] rfl yF D6 ?_) | ((with_reducible show wpList _ _ _ (⟨none,.store _ _ _,_,_,_,_⟩::_) _ _); refine zF rfl 70 (.tmp 8) (.tmp 61) rfl (w.heap.size+1) yF rfl rfl 70 yF o8 D6 rfl (by simp[yF,Value.oneCell']) (fun wz I=> ?_)) | go_values | go_skip | go_guarded | go_step | go_upon)
     try rw[Exit.noGoto_ret]
     refine En (zV rfl _ _ (w.heap.size+1) rfl (cs:=yF) I.bz Tryz.underlying70 rfl D6) rfl ?_;exact⟨by rw[N]; rfl,I.below B D5⟩
    .
     have d0:decide (most<0)=false:=E' g0;replace h:=h.resolve_left g0
     by_cases g1:12<most
     focus
      have d1:decide (12<most)=true:=E_ g1;clear h T M WH C0 Z J
     rotate_left
     focus
      have d1:decide (12<most)=false:=E' g1;replace h:=h.resolve_left g1;have n0:=C0 h;have bi:=J h;have dn:decide (0<(nm:Int))=true:=E_ D5;have bl:decide (0<nm)=true:=E_ n0;have dc:decide (0<=cc)=true:=E_ bi;clear h C0 Z J g0 g1
      repeat' (first | ((with_reducible show wpList _ _ _ (⟨some 52,_,_,_,_,_⟩::_) _ _); refine kW rfl 45 (.tmp 7) rfl w.heap.size rfl 45 #[Ez ua1,Ex ua2 ua3 ua4,Ez ua5,Ex ua6 ua7 ua8,Ey Ew R,Ey Ew A,Ez ub1,Ex ub2 ub3 ub4,Ez ub5,Ex ub6 ub7 ub8,Ez uc1,Ex uc2 uc3 uc4,Ez uc5,Ex uc6 uc7 uc8] _ zw Tryz.underlying45 rfl D6 ?_) | go_values | go_skip | go_guarded | go_step | go_upon)
      refine(T _).mono ?_;rintro e w4 ⟨v4,rfl,f4,bg⟩;replace B:Below w.heap.size w w4:=zT bg;replace o7:ai w4 w.heap.size 45 #[Ez ua1,Ex ua2 ua3 ua4,Ez ua5,Ex ua6 ua7 ua8,Ey Ew R,Ey Ew A,Ez ub1,Ex ub2 ub3 ub4,Ez ub5,Ex ub6 ub7 ub8,Ez uc1,Ex uc2 uc3 uc4,Ez uc5,Ex uc6 uc7 uc8]:=ai.au bg;replace o8:ai w4 (w.heap.size+1) 70 yF:=ai.au bg;clear bg;dsimp only
      repeat' (first | go_values | go_skip | go_guarded | go_step | go_upon)
      refine(WH _).mono ?_;rintro e w5 ⟨v5,rfl,f5,X⟩;replace f4:=f4.af (av.ae X);replace B:Below w.heap.size w w5:=zT X;replace o7:ai w5 w.heap.size 45 #[Ez ua1,Ex ua2 ua3 ua4,Ez ua5,Ex ua6 ua7 ua8,Ey Ew R,Ey Ew A,Ez ub1,Ex ub2 ub3 ub4,Ez ub5,Ex ub6 ub7 ub8,Ez uc1,Ex uc2 uc3 uc4,Ez uc5,Ex uc6 uc7 uc8]:=ai.au X;replace o8:ai w5 (w.heap.size+1) 70 yF:=ai.au X;clear X;dsimp only
      repeat' (first | go_values | go_skip | go_guarded | go_step | go_upon)
      refine(M _ _ _ f4 f5).mono ?_;rintro e w6 ⟨rfl,a9⟩;replace B:Below w.heap.size w w6:=zT a9;replace o7:ai w6 w.heap.size 45 #[Ez ua1,Ex ua2 ua3 ua4,Ez ua5,Ex ua6 ua7 ua8,Ey Ew R,Ey Ew A,Ez ub1,Ex ub2 ub3 ub4,Ez ub5,Ex ub6 ub7 ub8,Ez uc1,Ex uc2 uc3 uc4,Ez uc5,Ex uc6 uc7 uc8]:=ai.au a9;replace o8:ai w6 (w.heap.size+1) 70 yF:=ai.au a9;clear a9;dsimp only;clear T WH M f4 f5
     rotate_left
     all_goals
      repeat' (first | ((with_reducible show wpList _ _ _ (⟨some 61,_,_,_,_,_⟩::_) _ _); refine yp rfl 70 #[] rfl yF D6 ?_) | ((with_reducible show wpList _ _ _ (⟨none,.store _ _ _,_,_,_,_⟩::_) _ _); refine zF rfl 70 (.tmp 8) (.tmp 61) rfl (w.heap.size+1) yF rfl rfl 70 yF o8 D6 rfl (by simp[yF,Value.oneCell']) (fun wz I=> ?_)) | go_values | go_skip | go_guarded | go_step | go_upon)
      try rw[Exit.noGoto_ret]
      refine En (zV rfl _ _ (w.heap.size+1) rfl (cs:=yF) I.bz Tryz.underlying70 rfl D6) rfl ?_;exact⟨by rw[N]; rfl,I.below B D5⟩
   .
    have N:=ah.out;rw[E8 h2]at N;clear ah T M WH C0 Z J h;have d2:(c2==0)=false:=by simpa using h2
    repeat' (first | ((with_reducible show wpList _ _ _ (⟨some 39,_,_,_,_,_⟩::_) _ _); refine yp rfl 70 #[] rfl yF D6 ?_) | ((with_reducible show wpList _ _ _ (⟨none,.store _ _ _,_,_,_,_⟩::_) _ _); refine zF rfl 70 (.tmp 8) (.tmp 39) rfl (w.heap.size+1) yF rfl rfl 70 yF o8 D6 rfl (by simp[yF,Value.oneCell']) (fun wz I=> ?_)) | go_values | go_skip | go_guarded | go_step | go_upon)
    try rw[Exit.noGoto_ret]
    refine En (zV rfl _ _ (w.heap.size+1) rfl (cs:=yF) I.bz Tryz.underlying70 rfl D6) rfl ?_;exact⟨by rw[N]; rfl,I.below B D5⟩
  .
   have N:=be.out;rw[E8 h1]at N;clear be T M WH C0 Z J h QM;have d1:(c1==0)=false:=by simpa using h1
   repeat' (first | ((with_reducible show wpList _ _ _ (⟨some 33,_,_,_,_,_⟩::_) _ _); refine yp rfl 70 #[] rfl yF D6 ?_) | ((with_reducible show wpList _ _ _ (⟨none,.store _ _ _,_,_,_,_⟩::_) _ _); refine zF rfl 70 (.tmp 8) (.tmp 33) rfl (w.heap.size+1) yF rfl rfl 70 yF o8 D6 rfl (by simp[yF,Value.oneCell']) (fun wz I=> ?_)) | go_values | go_skip | go_guarded | go_step | go_upon)
   try rw[Exit.noGoto_ret]
   refine En (zV rfl _ _ (w.heap.size+1) rfl (cs:=yF) I.bz Tryz.underlying70 rfl D6) rfl ?_;exact⟨by rw[N]; rfl,I.below B D5⟩
theorem Z7 {O:Option Rat} {K:Bool} {most:Int} {off s least:Rat} (h:K=false\/z6 l≠0\/z6 m≠0\/most<0\/12<most\/¬zC R A m.length<1):xC K l m most R A off s least=(JA K l m,none):=by
 unfold xC JA
 by_cases h1:K=false
 . rw[E8 h1,E8 h1]
 rw[E9 h1,E9 h1];replace h:=h.resolve_left h1
 by_cases h2:z6 l≠0
 . rw[E8 h2,E8 h2]
 rw[E9 h2,E9 h2];replace h:=h.resolve_left h2
 by_cases h3:z6 m≠0
 . rw[E8 h3,E8 h3]
 rw[E9 h3,E9 h3];replace h:=h.resolve_left h3;rw[E8 (by rcases h with h | h | h; exact .inl h; exact .inr (.inl h); exact .inr (.inr h))]
theorem Z8 (K:Bool) (l m:PL) (most R A:Int):(K=false\/z6 l≠0\/z6 m≠0\/most<0\/12<most\/¬zC R A m.length<1)\/(K=true/\z6 l=0/\z6 m=0/\0<=most/\most<=12/\zC R A m.length<1):=by
 by_cases h:K=false\/z6 l≠0\/z6 m≠0\/most<0\/12<most\/¬zC R A m.length<1
 . exact .inl h
 .
  right
  simp only[not_or,Bool.not_eq_false,Decidable.not_not]at h;exact⟨h.1,h.2.1,h.2.2.1,by omega,by omega,h.2.2.2.2.2⟩
theorem Gq (most:Int) (w:Ee) (M:FB w (Ej #[Ez ua1,Ex ua2 ua3 ua4,Ez ua5,Ex ua6 ua7 ua8]) (O 0)) (b1:FB w (Ej #[Ez ub1,Ex ub2 ub3 ub4,Ez ub5,Ex ub6 ub7 ub8]) (O 1)) (b2:FB w (Ej #[Ez uc1,Ex uc2 uc3 uc4,Ez uc5,Ex uc6 uc7 uc8]) (O 2)) (fw:Yb O (yG ua3 ub3 uc3 uc3) (yG ua7 ub7 uc7 uc7) 3) (T:bP w vl l) (X:bP w vm m) (zl:l.length<=6\/(200<l.length/\l.length<=210)) (zm:m.length<=6\/(200<m.length/\m.length<=210)) :
  Ed Ec 31 #[vl,vm,Ey Ew most,Ej #[Ez ua1,Ex ua2 ua3 ua4,Ez ua5,Ex ua6 ua7 ua8,Ey Ew R,Ey Ew A,Ez ub1,Ex ub2 ub3 ub4,Ez ub5,Ex ub6 ub7 ub8,Ez uc1,Ex uc2 uc3 uc4,Ez uc5,Ex uc6 uc7 uc8]] w fun e w'=>∃v,e = Eh (Ev #[v,Ey Ew (xC (yq O (yG ua3 ub3 uc3 uc3) (yG ua7 ub7 uc7 uc7) R A ua1) l m most R A ((O 0).getD 0) ((O 1).getD 0) ((O 2).getD 0)).1])/\WB w' v l m (yO l most).2 (yO m most).2 R (yV ((O 1).getD 0) (zC R A m.length)) ((O 1).getD 0) (xC (yq O (yG ua3 ub3 uc3 uc3) (yG ua7 ub7 uc7 uc7) R A ua1) l m most R A ((O 0).getD 0) ((O 1).getD 0) ((O 2).getD 0)).2/\zf w w':=by
 rcases Z8 (yq O (yG ua3 ub3 uc3 uc3) (yG ua7 ub7 uc7 uc7) R A ua1) l m most R A with h | ⟨H,N,Y,h0,h1,hq⟩
 .
  rw[Z7 (O:=none) h];refine(JB most w M b1 b2 fw T X zl zm h).mono ?_;rintro e w' ⟨rfl,hs⟩;exact⟨_,rfl,rfl,hs⟩
 .
  rw[H];have E:=(zJ.1 H).1;obtain⟨o0,J,-⟩:=xm E fw 0 D5;obtain⟨o1,Z,-⟩:=xm E fw 1 D5;obtain⟨o2,I,-⟩:=xm E fw 2 D5;rw[J,Z,I];exact Kx most w M b1 b2 fw T X (by have:=y_ N; omega) (by have:=y_ Y; omega) J Z I H N Y h0 h1 hq
theorem Gr (most:Int) (w:Ee) (M:FB w (Ej #[Ez ua1,Ex ua2 ua3 ua4,Ez ua5,Ex ua6 ua7 ua8]) (O 0)) (b1:FB w (Ej #[Ez ub1,Ex ub2 ub3 ub4,Ez ub5,Ex ub6 ub7 ub8]) (O 1)) (b2:FB w (Ej #[Ez uc1,Ex uc2 uc3 uc4,Ez uc5,Ex uc6 uc7 uc8]) (O 2)) (fw:Yb O (yG ua3 ub3 uc3 uc3) (yG ua7 ub7 uc7 uc7) 3) (T:bP w vl l) (X:bP w vm m) (zl:l.length<=6\/(200<l.length/\l.length<=210)) (zm:m.length<=6\/(200<m.length/\m.length<=210)) :
  Ed Ec 32 #[vl,vm,Ey Ew most,Ej #[Ez ua1,Ex ua2 ua3 ua4,Ez ua5,Ex ua6 ua7 ua8,Ey Ew R,Ey Ew A,Ez ub1,Ex ub2 ub3 ub4,Ez ub5,Ex ub6 ub7 ub8,Ez uc1,Ex uc2 uc3 uc4,Ez uc5,Ex uc6 uc7 uc8]] w fun e w'=>∃v,e = Eh (Ev #[v,Ey Ew (xC (yq O (yG ua3 ub3 uc3 uc3) (yG ua7 ub7 uc7 uc7) R A ua1) l m most R A ((O 0).getD 0) ((O 1).getD 0) ((O 2).getD 0)).1])/\WB w' v l m (yO l most).2 (yO m most).2 R (yV ((O 1).getD 0) (zC R A m.length)) ((O 1).getD 0) (xC (yq O (yG ua3 ub3 uc3 uc3) (yG ua7 ub7 uc7 uc7) R A ua1) l m most R A ((O 0).getD 0) ((O 1).getD 0) ((O 2).getD 0)).2/\zf w w':=by
 rcases Z8 (yq O (yG ua3 ub3 uc3 uc3) (yG ua7 ub7 uc7 uc7) R A ua1) l m most R A with h | ⟨H,N,Y,h0,h1,hq⟩
 .
  rw[Z7 (O:=none) h];refine(JD most w M b1 b2 fw T X D5 D5 h).mono ?_;rintro e w' ⟨rfl,hs⟩;exact⟨_,rfl,rfl,hs⟩
 .
  rw[H];have E:=(zJ.1 H).1;obtain⟨o0,J,-⟩:=xm E fw 0 D5;obtain⟨o1,Z,-⟩:=xm E fw 1 D5;obtain⟨o2,I,-⟩:=xm E fw 2 D5;rw[J,Z,I];exact Ky most w M b1 b2 fw T X (by have:=y_ N; omega) (by have:=y_ Y; omega) J Z I H N Y h0 h1 hq
end
section
open Go.RowKit
variable {p:List Int} {t:Option (Nat->Rat)} {v:Ef} {w w':Ee}
theorem ZR {n:Nat} (h:ke 6 n=false):n<=6\/(200<n/\n<=210):=by
 unfold ke at h;rw[Bool.or_eq_false_iff,Bool.and_eq_false_iff]at h;have E:=of_decide_eq_false h.2
 rcases h.1 with g | g
 . left; have:=of_decide_eq_false g; omega
 . right; have:=of_decide_eq_false g; omega
def d_ (w:Ee) (v:Ef) (t:Option (Nat->Rat)) (p:List Int) (o:Option Rat):Prop:=∃dP dy aY cn be bl bi cU aX ah dl ed ce E ci H Z d9 cg I X J N M cx dc T b9 co cN Y a9 xo xc bg dz cy bt dk bh br dx,v = Ej #[Ez dP,Ex dy aY cn,Ez be,Ex bl bi cU,Ez aX,Ex ah dl ed,Ez ce,Ex E ci H,Ez Z,Ex d9 cg I,Ez X,Ex J N M,Ez cx,Ex dc T b9,Ez co,Ex cN Y a9,Ex xo p.length xc,Ez bg,Ex dz cy bt,Ez dk,Ex bh br dx]/\cY w (Ej #[Ez dP,Ex dy aY cn,Ez be,Ex bl bi cU,Ez aX,Ex ah dl ed,Ez ce,Ex E ci H,Ez Z,Ex d9 cg I,Ez X,Ex J N M,Ez cx,Ex dc T b9,Ez co,Ex cN Y a9]) t/\aM w (Ex xo p.length xc) p/\FO w (Ej #[Ez bg,Ex dz cy bt,Ez dk,Ex bh br dx]) o
theorem cO.u {t:Nat->Rat} {o:Rat} (h:cO w v t p o):d_ w v (some t) p (some o):=by
 obtain⟨cs,u,d1,d2,d3,d4,d5,d6,d7,d8,e,h1,h2,h3⟩:=h;obtain⟨d9,cU,b9,ce,bg,bi,bh,co,aY,aX,cN,dc,bl,E,bt,H,a9,cx,br,I,X,J,N,M,ci,cy,T,be,cg,cn,Z,ah,es⟩:=h1.eU;have Y:cs=#[Ez d9,Ex cU b9 ce,Ez bg,Ex bi bh co,Ez aY,Ex aX cN dc,Ez bl,Ex E bt H,Ez a9,Ex cx br I,Ez X,Ex J N M,Ez ci,Ex cy T be,Ez cg,Ex cn Z ah]:=by injection es
 subst Y;obtain⟨xo,xc,rfl⟩:=h2.ak;exact⟨_,_,_,_,_,_,_,_,_,_,_,_,_,_,_,_,_,_,_,_,_,_,_,_,_,_,_,_,_,_,_,_,_,_,_,_,_,_,_,_,_,_,by rw[e]; rfl,h1,h2,h3⟩
theorem C6 (l m:PL) (a b:List aV) (R:Int) (E s:Rat) (z:Option (Nat×Nat)):∃t p o,p.length<=l.length/\∀w v,WB w v l m a b R E s z->d_ w v t p o:=by
 cases z with
 | none=>exact⟨none,[],none,Nat.zero_le _,fun w v h=>⟨_,_,_,_,_,_,_,_,_,_,_,_,_,_,_,_,_,_,_,_,_,_,_,_,_,_,_,_,_,_,_,_,_,_,_,_,_,_,_,_,_,_,h,rfl,aM.nil w,rfl⟩⟩
 | some x=>exact⟨_,_,_,Nat.le_of_eq (Kw l m a b R x),fun w v h=>cO.u h⟩
theorem cY.st (h:cY w v t) (s:zf w w'):cY w' v t:=by
 cases t with
 | none=>exact h
 | some t=>exact bY.af h (av.ae s)
theorem d_.ae {o:Option Rat} (h:d_ w v t p o) (s:zf w w'):d_ w' v t p o:=by
 obtain⟨dP,dy,aY,cn,be,bl,bi,cU,aX,ah,dl,ed,ce,E,ci,H,Z,d9,cg,I,X,J,N,M,cx,dc,T,b9,co,cN,Y,a9,xo,xc,bg,dz,cy,bt,dk,bh,br,dx,e,h1,h2,h3⟩:=h;refine⟨dP,dy,aY,cn,be,bl,bi,cU,aX,ah,dl,ed,ce,E,ci,H,Z,d9,cg,I,X,J,N,M,cx,dc,T,b9,co,cN,Y,a9,xo,xc,bg,dz,cy,bt,dk,bh,br,dx,e,?_,h2.ae s,h3.af (av.ae s)⟩
 cases t with
 | none=>exact h1
 | some t=>exact bY.af h1 (av.ae s)
set_option maxHeartbeats 6400000 in
set_option maxRecDepth 1000000 in
theorem Xc {ua1 ua5 ub1 ub5 uc1 uc5:Bool} {ua2 ua6 ub2 ub6 uc2 uc6:Option Addr} {ua3 ua4 ua7 ua8 ub3 ub4 ub7 ub8 uc3 uc4 uc7 uc8:Nat} {R A:Int} {O:Nat->Option Rat} {vl vm:Ef} {l m:PL} (most:Int) (w:Ee) (b0:FB w (Ej #[Ez ua1,Ex ua2 ua3 ua4,Ez ua5,Ex ua6 ua7 ua8]) (O 0)) (b1:FB w (Ej #[Ez ub1,Ex ub2 ub3 ub4,Ez ub5,Ex ub6 ub7 ub8]) (O 1)) (b2:FB w (Ej #[Ez uc1,Ex uc2 uc3 uc4,Ez uc5,Ex uc6 uc7 uc8]) (O 2)) (fw:Yb O (yG ua3 ub3 uc3 uc3) (yG ua7 ub7 uc7 uc7) 3) (hl:bP w vl l) (hm:bP w vm m) :
  Ed Ec 7 #[vl,vm,Ey Ew most,Ej #[Ez ua1,Ex ua2 ua3 ua4,Ez ua5,Ex ua6 ua7 ua8,Ey Ew R,Ey Ew A,Ez ub1,Ex ub2 ub3 ub4,Ez ub5,Ex ub6 ub7 ub8,Ez uc1,Ex uc2 uc3 uc4,Ez uc5,Ex uc6 uc7 uc8]] w fun e w'=>e = Eh (Ez true)/\zf w w':=by
 have LL:=fun w' (s:zf w w')=>GM 6 w' (hl.ae s);have LM:=fun w' (s:zf w w')=>GM 6 w' (hm.ae s);obtain⟨o3,c3,-⟩:=Qi (w:=w) (gx:=false) (gy:=false) (aA.nil w) (aA.nil w);have GU:=fun w' (s:zf w w')=>Wo (O:=yG (O 0) (O 1) (O 2) o3) w' (b0.af (av.ae s)) (b1.af (av.ae s)) (b2.af (av.ae s)) (c3.af (av.ae s));obtain⟨tt,pp,oo,gQ,hU⟩:=C6 l m (yO l most).2 (yO m most).2 R (yV ((O 1).getD 0) (zC R A m.length)) ((O 1).getD 0) (xC (yq O (yG ua3 ub3 uc3 uc3) (yG ua7 ub7 uc7 uc7) R A ua1) l m most R A ((O 0).getD 0) ((O 1).getD 0) ((O 2).getD 0)).2;obtain⟨SE,ig⟩:∃z,(xC (yq O (yG ua3 ub3 uc3 uc3) (yG ua7 ub7 uc7 uc7) R A ua1) l m most R A ((O 0).getD 0) ((O 1).getD 0) ((O 2).getD 0)).1=z:=⟨_,rfl⟩
 have SA:ke 6 l.length=false->ke 6 m.length=false->∀w',zf w w'->Ed Ec 31 #[vl,vm,Ey Ew most,Ej #[Ez ua1,Ex ua2 ua3 ua4,Ez ua5,Ex ua6 ua7 ua8,Ey Ew R,Ey Ew A,Ez ub1,Ex ub2 ub3 ub4,Ez ub5,Ex ub6 ub7 ub8,Ez uc1,Ex uc2 uc3 uc4,Ez uc5,Ex uc6 uc7 uc8]] w' fun e J=>∃v,e = Eh (Ev #[v,Ey Ew SE])/\d_ J v tt pp oo/\zf w' J:=fun h1 h2 w' s=>by
  refine(Gq (R:=R) (A:=A) most w' (b0.af (av.ae s)) (b1.af (av.ae s)) (b2.af (av.ae s)) fw (hl.ae s) (hm.ae s) (ZR h1) (ZR h2)).mono ?_;rintro e J ⟨v,rfl,h3,h4⟩;exact⟨v,by rw[ig],hU _ _ h3,h4⟩
 have SB:ke 6 l.length=false->ke 6 m.length=false->∀w' v1 v2,zf w w'->bP w' v1 l->bP w' v2 m->Ed Ec 32 #[v1,v2,Ey Ew most,Ej #[Ez ua1,Ex ua2 ua3 ua4,Ez ua5,Ex ua6 ua7 ua8,Ey Ew R,Ey Ew A,Ez ub1,Ex ub2 ub3 ub4,Ez ub5,Ex ub6 ub7 ub8,Ez uc1,Ex uc2 uc3 uc4,Ez uc5,Ex uc6 uc7 uc8]] w' fun e J=>∃v,e = Eh (Ev #[v,Ey Ew SE])/\d_ J v tt pp oo/\zf w' J:=fun h1 h2 w' v1 v2 s p1 p2=>by
  refine(Gr (R:=R) (A:=A) most w' (b0.af (av.ae s)) (b1.af (av.ae s)) (b2.af (av.ae s)) fw p1 p2 (ZR h1) (ZR h2)).mono ?_;rintro e J ⟨v,rfl,h3,h4⟩;exact⟨v,by rw[ig],hU _ _ h3,h4⟩
 have LZ:ke 6 l.length=false->l.length<=210:=fun h=>by have:=ZR h; omega
 have LY:ke 6 m.length=false->m.length<=210:=fun h=>by have:=ZR h; omega
 obtain⟨al,cl,rfl⟩:=hl.ak;obtain⟨am,cm,rfl⟩:=hm.ak;have HP:=E6 (E7 hl hm);obtain⟨G2,iQ⟩:∃z,Wm (yG ua3 ub3 uc3 0) (yG ua7 ub7 uc7 0) 4=z:=⟨_,rfl⟩;rw[iQ]at GU;generalize ke 6 l.length=B1 at *;generalize ke 6 m.length=B2 at *;obtain⟨nl,iI⟩:∃n,l.length=n:=⟨_,rfl⟩;obtain⟨nm,it⟩:∃n,m.length=n:=⟨_,rfl⟩;have HN:=E6 (E7 iI it);rw[iI]at LL SA HP LZ gQ|-;rw[it]at LM SA HP LY|-;obtain⟨pn,iK⟩:∃n,pp.length=n:=⟨_,rfl⟩;have i8:=E6 iK;have HS:=E6 (E7 SA (E7 SB (E7 LZ (E7 LY gQ))));have ks:(SE==SE)=true:=by simp
 clear b0 b1 b2 c3 fw hl hm iQ iI it hU ig iK SA SB LZ LY gQ
 go_enter Tryz.func7,Tryz.ntmps7
 go_upto_region 1 with fail
 go_cut [50] (fun c wx=>(c = Ez true\/(c = Ez false/\B1=false/\B2=false))/\ai wx w.heap.size 45 #[Ez ua1,Ex ua2 ua3 ua4,Ez ua5,Ex ua6 ua7 ua8,Ey Ew R,Ey Ew A,Ez ub1,Ex ub2 ub3 ub4,Ez ub5,Ex ub6 ub7 ub8,Ez uc1,Ex uc2 uc3 uc4,Ez uc5,Ex uc6 uc7 uc8]/\Below w.heap.size w wx)
 case first=>
  refine wp_region_lit ?_
  repeat' (first | go_values | go_skip | go_guarded | go_step | go_upon)
  refine(LL _ zh).mono ?_;rintro e w1 ⟨rfl,ip⟩;have B:Below w.heap.size w w1:=zT ip;have H:ai w1 w.heap.size 45 #[Ez ua1,Ex ua2 ua3 ua4,Ez ua5,Ex ua6 ua7 ua8,Ey Ew R,Ey Ew A,Ez ub1,Ex ub2 ub3 ub4,Ez ub5,Ex ub6 ub7 ub8,Ez uc1,Ex uc2 uc3 uc4,Ez uc5,Ex uc6 uc7 uc8]:=ai.au ip;clear ip LL;dsimp only
  cases B1 with
  | true=>
   repeat' (first | go_values | go_skip | go_guarded | go_step | go_upon)
   go_meet
   exact⟨.inl rfl,H,B⟩
  | false=>
   repeat' (first | go_values | go_skip | go_guarded | go_step | go_upon)
   refine(LM _ B).mono ?_;rintro e J ⟨rfl,i6⟩;replace B:Below w.heap.size w J:=zT i6;replace H:ai J w.heap.size 45 #[Ez ua1,Ex ua2 ua3 ua4,Ez ua5,Ex ua6 ua7 ua8,Ey Ew R,Ey Ew A,Ez ub1,Ex ub2 ub3 ub4,Ez ub5,Ex ub6 ub7 ub8,Ez uc1,Ex uc2 uc3 uc4,Ez uc5,Ex uc6 uc7 uc8]:=ai.au i6;clear i6 LM;dsimp only
   cases B2 with
   | true=>
    repeat' (first | go_values | go_skip | go_guarded | go_step | go_upon)
    go_meet
    exact⟨.inl rfl,H,B⟩
   | false=>
    have r0:=H.c 0 rfl;have r1:=H.c 1 rfl;have r2:=H.c 2 rfl;have r3:=H.c 3 rfl;have r6:=H.c 6 rfl;have r7:=H.c 7 rfl;have r8:=H.c 8 rfl;have r9:=H.c 9 rfl;have eV:=H.c 10 rfl;have eZ:=H.c 11 rfl;have eY:=H.c 12 rfl;have dN:=H.c 13 rfl;have l7:=H.lt
    repeat' (first | ((with_reducible show Oper.wp _ ⟨some 30,_,_,_,_,_⟩ _ _ _ _); refine YO 30 #[(0,.tmp 25),(1,.tmp 27),(2,.tmp 29)] rfl #[Ez ua1,Ex ua2 ua3 ua4,Ez ua5,Ex ua6 ua7 ua8,Ez ub1,Ex ub2 ub3 ub4,Ez ub5,Ex ub6 ub7 ub8,Ez uc1,Ex uc2 uc3 uc4,Ez uc5,Ex uc6 uc7 uc8,Ez false,Ex none 0 0,Ez false,Ex none 0 0] D6 ?_) | go_values | go_skip | go_guarded | go_step | go_upon)
    refine(GU _ B).mono ?_;rintro e w3 ⟨rfl,iB⟩;replace B:Below w.heap.size w w3:=zT iB;replace H:ai w3 w.heap.size 45 #[Ez ua1,Ex ua2 ua3 ua4,Ez ua5,Ex ua6 ua7 ua8,Ey Ew R,Ey Ew A,Ez ub1,Ex ub2 ub3 ub4,Ez ub5,Ex ub6 ub7 ub8,Ez uc1,Ex uc2 uc3 uc4,Ez uc5,Ex uc6 uc7 uc8]:=ai.au iB;clear iB GU r0 r1 r2 r3 r6 r7 r8 r9 eV eZ eY dN l7;dsimp only
    cases G2 with
    | true=>
     repeat' (first | go_values | go_skip | go_guarded | go_step | go_upon)
     go_meet
     exact⟨.inl rfl,H,B⟩
    | false=>
     rcases(show (¬5<most)\/(5<most/\¬most<=12)\/(5<most/\most<=12/\(5:Int)<(nl:Int))\/(5<most/\most<=12/\¬(5:Int)<(nl:Int)/\(5:Int)<(nm:Int))\/(5<most/\most<=12/\¬(5:Int)<(nl:Int)/\¬(5:Int)<(nm:Int)) by omega)with m1 | ⟨m1,m2⟩ | ⟨m1,m2,m3⟩ | ⟨m1,m2,m3,m4⟩ | ⟨m1,m2,m3,m4⟩
     all_goals (repeat' (first | go_values | go_skip | go_guarded | go_step | go_upon))
     all_goals go_meet
     all_goals first | exact⟨.inl rfl,H,B⟩ | exact⟨.inr ⟨rfl,rfl,rfl⟩,H,B⟩
 case rest=>
  obtain⟨hc,H,B⟩:=hcut;clear LL LM GU
  rcases hc with rfl | ⟨rfl,rfl,rfl⟩
  .
   go_wp2_with fail
   go_returns
   exact⟨rfl,B⟩
  .
   have SA:=HS.out.1 rfl rfl;have SB:=HS.out.2.1 rfl rfl;have LZ:=HS.out.2.2.1 rfl;have LY:=HS.out.2.2.2.1 rfl;have gQ:=HS.out.2.2.2.2;have iN:=HP.out.1.ae B;have iP:=HP.out.2.ae B;clear HS;have zz:=B.size
   go_upto_region 3 with fail
   refine wp_region_lit ?_
   repeat' (first | ((with_reducible show wpList _ _ _ (⟨some 53,_,_,_,_,_⟩::_) _ _); refine Vo rfl (.tmp 51) (.tmp 52) rfl wc.heap.size rfl (ai.new _ _ _) (Ex al nl cl) l rfl (iN.ae ((Et _ _).alloc (Eo _) _)) (by have:=HN.out.1; omega) (fun u2 J iC be=> ?_)) | ((with_reducible show wpList _ _ _ (⟨some 56,_,_,_,_,_⟩::_) _ _); refine Vo rfl (.tmp 54) (.tmp 55) rfl J.heap.size rfl (ai.new _ _ _) (Ex am nm cm) m rfl (iP.ae ((((Et wc.heap.size wc).alloc (Eo _) _).grown be D9 (fun k hk=>by cases hk; exact Eo _)).alloc (Nat.le_trans (Nat.le_succ _) (by have h:=be.size; rw[World.size_alloc]at h; exact h)) _)) (by have:=HN.out.2; omega) (fun u3 w3 iH iz=> ?_)) | ((with_reducible show wpList _ _ _ (⟨some 61,_,_,_,_,_⟩::_) _ _); refine zO rfl 45 (.tmp 7) rfl w.heap.size rfl 45 #[Ez ua1,Ex ua2 ua3 ua4,Ez ua5,Ex ua6 ua7 ua8,Ey Ew R,Ey Ew A,Ez ub1,Ex ub2 ub3 ub4,Ez ub5,Ex ub6 ub7 ub8,Ez uc1,Ex uc2 uc3 uc4,Ez uc5,Ex uc6 uc7 uc8] _ ((H.ae (((Et wc.heap.size wc).alloc (Eo _) _).grown be D9 (fun k hk=>by cases hk; exact Eo _))).ae (((Et J.heap.size J).alloc (Eo _) _).grown iz D9 (fun k hk=>by cases hk; exact Eo _))) Tryz.underlying45 rfl D6 ?_) | go_values | go_skip | go_guarded | go_step | go_upon)
   have s2:zf wc J:=((Et wc.heap.size wc).alloc (Eo _) _).grown be D9 (fun k hk=>by cases hk; exact Eo _);have s3:zf J w3:=((Et J.heap.size J).alloc (Eo _) _).grown iz D9 (fun k hk=>by cases hk; exact Eo _);obtain⟨ta,tc,rfl⟩:=iC.ak;obtain⟨qa,qc,rfl⟩:=iH.ak;have HT:=E6 (E7 (iC.ae s3) iH);rw[HN.out.1,HN.out.2]at HT;rw[HN.out.1,HN.out.2];have B3:Below w.heap.size w w3:=zt (zt B (Eo _) s2) (Eo _) s3;replace H:=(H.ae s2).ae s3;clear iC iH be iz s2 s3 iN iP B zz;refine(SA _ B3).mono ?_;rintro e w4 ⟨v4,rfl,hM,aX⟩;obtain⟨gI,dk,ey,gD,gR,cx,gz,gV,gP,ci,dc,gJ,gC,bh,gW,gL,cg,fe,f9,gM,er,ek,bt,ft,fd,d9,ce,eM,gX,gE,g9,gO,xo,xc,iY,jc,ki,iS,km,k8,iZ,iR,rfl,S4,I4,F4⟩:=hM;rw[i8.out]at I4|-;have im:=H.ae aX;have iT:=im.lt;have B4:=zt B3 (Eo _) aX;have Z:=E6 (E7 (HT.out.1.ae aX) (HT.out.2.ae aX));clear SA HT B3 H aX;dsimp only
   repeat' (first | ((with_reducible show wpList _ _ _ (⟨none,.store _ _ _,_,_,_,_⟩::_) _ _); refine zF rfl 70 (.tmp 11) (.tmp 63) rfl w4.heap.size #[Ez gI,Ex dk ey gD,Ez gR,Ex cx gz gV,Ez gP,Ex ci dc gJ,Ez gC,Ex bh gW gL,Ez cg,Ex fe f9 gM,Ez er,Ex ek bt ft,Ez fd,Ex d9 ce eM,Ez gX,Ex gE g9 gO,Ex xo pn xc,Ez iY,Ex jc ki iS,Ez km,Ex k8 iZ iR] rfl rfl 70 yF zw D6 rfl (by simp[yF,Value.oneCell']) (fun wz rz=> ?_)) | ((with_reducible show wpList _ _ _ (⟨some 69,_,_,_,_,_⟩::_) _ _); refine zO rfl 45 (.tmp 7) rfl w.heap.size rfl 45 #[Ez ua1,Ex ua2 ua3 ua4,Ez ua5,Ex ua6 ua7 ua8,Ey Ew R,Ey Ew A,Ez ub1,Ex ub2 ub3 ub4,Ez ub5,Ex ub6 ub7 ub8,Ez uc1,Ex uc2 uc3 uc4,Ez uc5,Ex uc6 uc7 uc8] _ (rz.bG (im.alloc _) D5) Tryz.underlying45 rfl D6 ?_) | go_values | go_skip | go_guarded | go_step | go_upon)
   have s4:zf w4 wz:=rz.below ((Et _ _).alloc (Eo _) _) (Eo _);have p1:=rz.bz;have B5:=zt B4 (Eo _) s4;refine(SB _ _ _ B5 (Z.out.1.ae s4) (Z.out.2.ae s4)).mono ?_;rintro e w5 ⟨v5,rfl,hM,gZ⟩;obtain⟨gt,cN,g8,gN,gF,cU,gd,dP,co,gY,fl,gH,gG,ed,dy,dl,eW,gA,gT,bl,gn,dz,bi,cy,br,gB,cn,f7,em,dx,gK,f8,yo,yc,jd,iV,k7,iX,k6,jb,iW,ko,rfl,S5,I5,F5⟩:=hM;rw[i8.out]at I5|-;have s45:=zt s4 (Eo _) gZ;replace p1:=p1.ae gZ;replace B5:=zt B5 (Eo _) gZ;have l4:=p1.lt;have ir:=E6 (E7 (Z.out.1.ae s45) (Z.out.2.ae s45));replace S4:=S4.st s45;replace I4:=I4.ae s45;replace F4:=F4.af (av.ae s45);clear SB Z B4 rz s4 im iT s45 gZ;generalize w4.heap.size=g1 at *;dsimp only
   repeat' (first | ((with_reducible show wpList _ _ _ (⟨none,.store _ _ _,_,_,_,_⟩::_) _ _); refine zF rfl 70 (.tmp 13) (.tmp 71) rfl w5.heap.size #[Ez gt,Ex cN g8 gN,Ez gF,Ex cU gd dP,Ez co,Ex gY fl gH,Ez gG,Ex ed dy dl,Ez eW,Ex gA gT bl,Ez gn,Ex dz bi cy,Ez br,Ex gB cn f7,Ez em,Ex dx gK f8,Ex yo pn yc,Ez jd,Ex iV k7 iX,Ez k6,Ex jb iW ko] rfl rfl 70 yF zw D6 rfl (by simp[yF,Value.oneCell']) (fun wy ry=> ?_)) | go_values | go_skip | go_guarded | go_step | go_upon)
   have s5:zf w5 wy:=ry.below ((Et _ _).alloc (Eo _) _) (Eo _);have p2:=ry.bz;replace p1:=p1.ae s5;have B6:=zt B5 (Eo _) s5;replace S4:=S4.st s5;replace S5:=S5.st s5;replace I4:=I4.ae s5;replace I5:=I5.ae s5;replace F4:=F4.af (av.ae s5);replace F5:=F5.af (av.ae s5);have iU:=HP.out.1.ae B6;have ja:=HP.out.2.ae B6;have iM:=E6 (E7 (ir.out.1.ae s5) (ir.out.2.ae s5));generalize w5.heap.size=g2 at *;clear ry s5 ir B5 HP l4
   go_loopw [15] (fun sl0 wr=>∃i:Nat,i<=nl/\sl0 = Ey Ew i/\zf wy wr) (fun sl0 _=>nl-(intOf sl0).toNat)
   case atStart=>exact⟨0,by omega,rfl,Et _ _⟩
   case round=>
    obtain⟨i,hi,rfl,st⟩:=hrel
    rcases Nat.lt_or_ge i nl with i4 | i4
    .
     have T:decide ((i:Int)<(nl:Int))=true:=E_ D5;have b9:=E6 i4;obtain⟨b,o,e,hb,bg,a9⟩:=iU.at (a:=i) (by have:=HN.out.1; omega);subst e;obtain⟨b',o',e,I,ah,Y⟩:=iM.out.1.at (a:=i) (by have:=HN.out.1; omega);subst e;have lb:b<wr.heap.size:=Nat.lt_of_lt_of_le hb st.size;have N:b'<wr.heap.size:=Nat.lt_of_lt_of_le I st.size;have c0:=(st.cell (p:=⟨b,_,none⟩) hb).trans bg;have c1:=(st.cell (p:=⟨b,_,none⟩) hb).trans a9;have c2:=(st.cell (p:=⟨b',_,none⟩) I).trans ah;have c3:=(st.cell (p:=⟨b',_,none⟩) I).trans Y;clear bg a9 ah Y hb I
     go_upto_region 9 with fail
     refine aj.cC wr wr [] [] [] [] [] [] (by simp only[aP]; exact⟨zh,zj,trivial⟩) (fun N0 i7 aY Q' E hQ=> ?_)
     iterate 3 refine aj.RQ E _ ?_
     refine aj.bH E 82 (fun _ _ _ _ h=>E7 ((h.b.cell (p:=⟨b,o+i*2,none⟩) lb).trans c0) ((h.b.cell (p:=⟨b,o+i*2+1,none⟩) lb).trans c1)) ?_
     iterate 3 refine aj.RQ E _ ?_
     refine aj.bH E 86 (fun _ _ _ _ h=>E7 ((h.b.cell (p:=⟨b',o'+i*2,none⟩) N).trans c2) ((h.b.cell (p:=⟨b',o'+i*2+1,none⟩) N).trans c3)) ?_;refine aj.RQ E 87 ?_ (h:=fun W' K hK=>by have qe:=GL (pt l i).1 (pt l i).2 W'; go_step; exact hK.out);refine aj.sE (fun _ v' W7 B7 jk hl _ _ hf=> ?_);refine hQ _ _ ?_;clear hl hf hQ E Q' aY jk i7 c0 c1 c2 c3 lb N;have iy:=zt st (Eo _) B7;clear B7 st;go_wp2_with fail
     go_roundw
     case rel=>exact⟨i+1,b9.out,by go_num,iy⟩
     case measure=>have:=b9.out; simp[intOf]; omega
    .
     have T:decide ((i:Int)<(nl:Int))=false:=E' D5;go_wp2_with fail
     clear hi i4 T
     go_loopw [16] (fun sl0 wr=>∃i:Nat,i<=nm/\sl0 = Ey Ew i/\zf wy wr) (fun sl0 _=>nm-(intOf sl0).toNat)
     case atStart=>exact⟨0,by omega,rfl,st⟩
     case round=>
      obtain⟨i,hi,rfl,st⟩:=hrel
      rcases Nat.lt_or_ge i nm with i4 | i4
      .
       have T:decide ((i:Int)<(nm:Int))=true:=E_ D5;have b9:=E6 i4;obtain⟨b,o,e,hb,bg,a9⟩:=ja.at (a:=i) (by have:=HN.out.2; omega);subst e;obtain⟨b',o',e,I,ah,Y⟩:=iM.out.2.at (a:=i) (by have:=HN.out.2; omega);subst e;have lb:b<wr.heap.size:=Nat.lt_of_lt_of_le hb st.size;have N:b'<wr.heap.size:=Nat.lt_of_lt_of_le I st.size;have c0:=(st.cell (p:=⟨b,_,none⟩) hb).trans bg;have c1:=(st.cell (p:=⟨b,_,none⟩) hb).trans a9;have c2:=(st.cell (p:=⟨b',_,none⟩) I).trans ah;have c3:=(st.cell (p:=⟨b',_,none⟩) I).trans Y;clear bg a9 ah Y hb I
       go_upto_region 14 with fail
       refine aj.cC wr wr [] [] [] [] [] [] (by simp only[aP]; exact⟨zh,zj,trivial⟩) (fun N0 i7 aY Q' E hQ=> ?_)
       iterate 3 refine aj.RQ E _ ?_
       refine aj.bH E 97 (fun _ _ _ _ h=>E7 ((h.b.cell (p:=⟨b,o+i*2,none⟩) lb).trans c0) ((h.b.cell (p:=⟨b,o+i*2+1,none⟩) lb).trans c1)) ?_
       iterate 3 refine aj.RQ E _ ?_
       refine aj.bH E 101 (fun _ _ _ _ h=>E7 ((h.b.cell (p:=⟨b',o'+i*2,none⟩) N).trans c2) ((h.b.cell (p:=⟨b',o'+i*2+1,none⟩) N).trans c3)) ?_;refine aj.RQ E 102 ?_ (h:=fun W' K hK=>by have qe:=GL (pt m i).1 (pt m i).2 W'; go_step; exact hK.out);refine aj.sE (fun _ v' W7 B7 jk hl _ _ hf=> ?_);refine hQ _ _ ?_;clear hl hf hQ E Q' aY jk i7 c0 c1 c2 c3 lb N;have iy:=zt st (Eo _) B7;clear B7 st;go_wp2_with fail
       go_roundw
       case rel=>exact⟨i+1,b9.out,by go_num,iy⟩
       case measure=>have:=b9.out; simp[intOf]; omega
      .
       have T:decide ((i:Int)<(nm:Int))=false:=E' D5;have q1:=p1.ae st;have q2:=p2.ae st
       have h9:∀j,j<(#[Ez gI,Ex dk ey gD,Ez gR,Ex cx gz gV,Ez gP,Ex ci dc gJ,Ez gC,Ex bh gW gL,Ez cg,Ex fe f9 gM,Ez er,Ex ek bt ft,Ez fd,Ex d9 ce eM,Ez gX,Ex gE g9 gO]:Array Ef).size->wr.cell? ⟨g1,0+j,none⟩=(#[Ez gI,Ex dk ey gD,Ez gR,Ex cx gz gV,Ez gP,Ex ci dc gJ,Ez gC,Ex bh gW gL,Ez cg,Ex fe f9 gM,Ez er,Ex ek bt ft,Ez fd,Ex d9 ce eM,Ez gX,Ex gE g9 gO]:Array Ef)[j]? :=fun j hj=>by
        rw[Nat.zero_add,q1.cell j];exact(Qn hj).symm
       have hE:∀j,j<(#[Ez gt,Ex cN g8 gN,Ez gF,Ex cU gd dP,Ez co,Ex gY fl gH,Ez gG,Ex ed dy dl,Ez eW,Ex gA gT bl,Ez gn,Ex dz bi cy,Ez br,Ex gB cn f7,Ez em,Ex dx gK f8]:Array Ef).size->wr.cell? ⟨g2,0+j,none⟩=(#[Ez gt,Ex cN g8 gN,Ez gF,Ex cU gd dP,Ez co,Ex gY fl gH,Ez gG,Ex ed dy dl,Ez eW,Ex gA gT bl,Ez gn,Ex dz bi cy,Ez br,Ex gB cn f7,Ez em,Ex dx gK f8]:Array Ef)[j]? :=fun j hj=>by
        rw[Nat.zero_add,q2.cell j];exact(Qn hj).symm
       go_upto_region 16 with fail
       refine wp_region_lit ?_
       repeat' (first | ((with_reducible show wpList _ _ _ (⟨some 104,_,_,_,_,_⟩::_) _ _); refine j8 rfl 30 (.tmp 103) rfl g1 0 rfl #[Ez gI,Ex dk ey gD,Ez gR,Ex cx gz gV,Ez gP,Ex ci dc gJ,Ez gC,Ex bh gW gL,Ez cg,Ex fe f9 gM,Ez er,Ex ek bt ft,Ez fd,Ex d9 ce eM,Ez gX,Ex gE g9 gO] _ h9 Tryz.underlying30 rfl D6 ?_) | ((with_reducible show wpList _ _ _ (⟨some 106,_,_,_,_,_⟩::_) _ _); refine j8 rfl 30 (.tmp 105) rfl g2 0 rfl #[Ez gt,Ex cN g8 gN,Ez gF,Ex cU gd dP,Ez co,Ex gY fl gH,Ez gG,Ex ed dy dl,Ez eW,Ex gA gT bl,Ez gn,Ex dz bi cy,Ez br,Ex gB cn f7,Ez em,Ex dx gK f8] _ hE Tryz.underlying30 rfl D6 ?_) | go_values | go_skip | go_guarded | go_step | go_upon)
       refine(Wl _ (S4.st st) (S5.st st)).mono ?_;rintro e w9 ⟨rfl,iL⟩;have X:=zt st (Eo _) iL;clear h9 hE st iL;have r1:=p1.ae X;have r2:=p2.ae X;have ij:=r1.c 16 rfl;have iA:=r1.c 17 rfl;have iu:=r1.c 18 rfl;have iD:=r1.c 19 rfl;have ik:=r1.c 20 rfl;have iq:=r2.c 16 rfl;have iF:=r2.c 17 rfl;have iv:=r2.c 18 rfl;have iE:=r2.c 19 rfl;have iG:=r2.c 20 rfl;have ln:=r1.lt;have iJ:=r2.lt;dsimp only
       repeat' (first | go_values | go_skip | go_guarded | go_step | go_upon)
       refine(Ug _ (I4.ae X) (I5.ae X) (by have:=i8.out; omega)).mono ?_;rintro e kw ⟨rfl,i5⟩;have M:=zt X (Eo _) i5;clear X i5 ij iq iA iu iD ik iF iv iE iG ln iJ;have r1:=p1.ae M;have r2:=p2.ae M;have ij:=r1.c 16 rfl;have iA:=r1.c 17 rfl;have iu:=r1.c 18 rfl;have iD:=r1.c 19 rfl;have ik:=r1.c 20 rfl;have iq:=r2.c 16 rfl;have iF:=r2.c 17 rfl;have iv:=r2.c 18 rfl;have iE:=r2.c 19 rfl;have iG:=r2.c 20 rfl;have ln:=r1.lt;have iJ:=r2.lt;dsimp only
       repeat' (first | go_values | go_skip | go_guarded | go_step | go_upon)
       refine(ZA _ (F4.af (av.ae M)) (F5.af (av.ae M))).mono ?_;rintro e kx ⟨rfl,iO⟩;clear ij iq iA iu iD ik iF iv iE iG ln iJ;have B9:=zt B6 (Eo _) (zt M (Eo _) iO);dsimp only;go_wp2_with fail
       go_returns
       exact⟨rfl,B9⟩
end
end Go.Proofs.YtffmbepfbienaaaGreat
