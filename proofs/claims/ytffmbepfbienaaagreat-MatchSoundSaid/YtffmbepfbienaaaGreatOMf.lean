import Derived.Test.YtffmbepfbienaaaGreatOMd
import Derived.Test.YtffmbepfbienaaaGreatOFou
set_option linter.unusedVariables false
set_option linter.unusedSimpArgs false
set_option maxHeartbeats 6400000
set_option maxRecDepth 1000000
open Go.Value renaming slice->Ex,bool->Ez,int->Ey,agg->Ej,pointer->Ek,tuple->Ev
open Go.IntKind renaming i64->Ew
open Go.Ending renaming returned->Eh
open Go.Proofs.Tryz renaming prog->Ed
open Go renaming Calls->Ee,World->Ef,Value->Ei,TypeId->Em,bodyPost_ret->Eo
open Nat renaming le_refl->Ep,lt_or_ge->Er
namespace Go.Proofs.YtffmbepfbienaaaGreat
open Go.RowKit
variable {f9:Array Ei} {a1 a5 cn cZ dt bt em ek eS f8 ua1 ua5 ub1 ub5 uc1 uc5:Bool} {A R x:Int} {l:List Int} {a4 a8 cap g gc i bf ci ah dl be cN b9 dc br dy bi er bg dx bh dP most n p q ua3 ua4 ua7 ua8 ub3 ub4 ub7 ub8 uc3 uc4 uc7 uc8:Nat} {out:Nat->Bool} {LA LB:Nat->Nat} {O:Nat->Option Rat} {a2 a6 d9 ce cg dk ey ed f7 ec ua2 ua6 ub2 ub6 uc2 uc6:Option Addr} {o:Option Rat} {m:PL} {r a9 s y:Rat} {t tc tg:Em} {v va vb vl vm vp:Ei} {w w':Ef}
theorem wr14 {r i0 i1 i2 i3 i4 i5 i6 i7 i8 i9 i10 i11 i12 i13:Nat} {u0 u1 u2 u3 u4 u5 u6 u7 u8 u9 u10 u11 u12 u13:Value} {w:World}:Wr r w (World.setCell (World.setCell (World.setCell (World.setCell (World.setCell (World.setCell (World.setCell (World.setCell (World.setCell (World.setCell (World.setCell (World.setCell (World.setCell (World.setCell w ⟨r,i0,none⟩ u0) ⟨r,i1,none⟩ u1) ⟨r,i2,none⟩ u2) ⟨r,i3,none⟩ u3) ⟨r,i4,none⟩ u4) ⟨r,i5,none⟩ u5) ⟨r,i6,none⟩ u6) ⟨r,i7,none⟩ u7) ⟨r,i8,none⟩ u8) ⟨r,i9,none⟩ u9) ⟨r,i10,none⟩ u10) ⟨r,i11,none⟩ u11) ⟨r,i12,none⟩ u12) ⟨r,i13,none⟩ u13):=(Wr.refl r w).set.set.set.set.set.set.set.set.set.set.set.set.set.set
theorem H_ (x y I H:Int) (w:Ef):(Op.equalIn 10000 23 (Ej #[Ey Ew x,Ey Ew y]) (Ej #[Ey Ew I,Ey Ew H])).run Ed w = .ok (x==I&&y==H) w:=by
 have one:∀k J:Int,(Op.equalIn 9999 2 (Ey Ew k) (Ey Ew J)).run Ed w = .ok (k==J) w:=fun k J=>by kernel_rfl
 have p0:∀x y,(part 2 #[Ey Ew x,Ey Ew y] 0).run Ed w = .ok (Ey Ew x) w:=fun x y=>by kernel_rfl
 have p1:∀x y,(part 2 #[Ey Ew x,Ey Ew y] 1).run Ed w = .ok (Ey Ew y) w:=fun x y=>by kernel_rfl
 have E:(Tryz.prog.fieldsOf 23).toList.map (fun f=>(decide (f.name = "_"),f.type,f.offset)) = [(false,2,0),(false,2,1)]:=by kernel_rfl
 rw[show (10000:Nat)=9999+1 from rfl,run_equalIn_struct w 9999 _ _ _ D7 D7];generalize (Tryz.prog.fieldsOf 23).toList=fs at E
 rcases fs with _ | ⟨f0,_ | ⟨f1,_ | ⟨f2,r⟩⟩⟩
 . exact absurd (congrArg List.length E) D9
 . exact absurd (congrArg List.length E) D9
 .
  simp only[List.map_cons,List.map_nil,List.cons.injEq,Prod.mk.injEq,decide_eq_false_iff_not,and_true]at E;obtain⟨⟨M,N,o0⟩,T,X,o1⟩:=E
  cases h1:(x==I)<;>cases h2:(y==H)<;>simp only[Op.eqFields,N,X,o0,o1,ne_eq,M,T,not_false_eq_true,if_true,Sem.run_bind,p0,p1,one,h1,h2,Result.andThen_ok,Bool.not_true,Bool.not_false,Bool.false_eq_true,if_false,Sem.run_pure,Bool.and_true,Bool.and_false,Bool.true_and,Bool.false_and]
 . exact absurd (congrArg List.length E) D9
theorem Wp {M J I E N H qx T:Int} (h:ai w g t #[Ey Ew M,Ey Ew J,Ey Ew I,Ey Ew E,Ey Ew N,Ey Ew H,Ey Ew qx,Ey Ew T])
  (Z:(-9223372036854775808<=M/\M<=9223372036854775807)/\(-9223372036854775808<=J/\J<=9223372036854775807)) (X:(-9223372036854775808<=I/\I<=9223372036854775807)/\(-9223372036854775808<=E/\E<=9223372036854775807)) (h3:(-9223372036854775808<=N/\N<=9223372036854775807)/\(-9223372036854775808<=H/\H<=9223372036854775807)) (Y:(-9223372036854775808<=qx/\qx<=9223372036854775807)/\(-9223372036854775808<=T/\T<=9223372036854775807)):bT w (Ex (some ⟨g,0,none⟩) 4 4) [(M,J),(I,E),(N,H),(qx,T)]:=by
 refine⟨fun k=> ?_,some ⟨g,0,none⟩,4,rfl,Ep _,fun _=>⟨g,0,rfl,h.lt,fun t ht=> ?_⟩⟩
 .
  match k with
  | 0=>exact⟨Z.1.1,Z.1.2,Z.2.1,Z.2.2⟩
  | 1=>exact⟨X.1.1,X.1.2,X.2.1,X.2.2⟩
  | 2=>exact⟨h3.1.1,h3.1.2,h3.2.1,h3.2.2⟩
  | 3=>exact⟨Y.1.1,Y.1.2,Y.2.1,Y.2.2⟩
  | k+4=>rw[show ([(M,J),(I,E),(N,H),(qx,T)]:List (Int×Int)).getD (k+4) (0,0)=(0,0) by simp[List.getD]]; decide
 .
  have:t=0\/t=1\/t=2\/t=3:=by simp at ht; omega
  rcases this with rfl | rfl | rfl | rfl
  . exact⟨h.c 0 rfl,h.c 1 rfl⟩
  . exact⟨h.c 2 rfl,h.c 3 rfl⟩
  . exact⟨h.c 4 rfl,h.c 5 rfl⟩
  . exact⟨h.c 6 rfl,h.c 7 rfl⟩
theorem Wq (a b p q:Int×Int):zP [a,b,p,q]=if qq a/\qq b/\qq p/\qq q then 0 else 8:=by unfold zP; simp
def Cx (a b p q:Int×Int):Int×Option (Nat->Rat):=if qq a/\qq b/\qq p/\qq q then(if a=b then(18,none)else(0,some (v_ a b p q)))else(8,none)
def cF (w:Ef) (v:Ei):Option (Nat->Rat)->Prop
 | some t=>bY w v t
 | none=>v = Ej W_
theorem H' {a b:Int×Int} (h:a≠b):j5 (b.1-a.1) (b.2-a.2)≠0:=by
 have:=Gi (re:=b.1-a.1) (im:=b.2-a.2) (fun⟨H,E⟩=>h (by obtain⟨a1,a2⟩:=a; obtain⟨b1,b2⟩:=b; dsimp only at H E; congr 1<;>omega));omega
theorem DJ (M X N H px py qx qy:Int) (w:Ef) (ra:(-9223372036854775808<=M/\M<=9223372036854775807)/\(-9223372036854775808<=X/\X<=9223372036854775807)) (rb:(-9223372036854775808<=N/\N<=9223372036854775807)/\(-9223372036854775808<=H/\H<=9223372036854775807)) (ri:(-9223372036854775808<=px/\px<=9223372036854775807)/\(-9223372036854775808<=py/\py<=9223372036854775807)) (rj:(-9223372036854775808<=qx/\qx<=9223372036854775807)/\(-9223372036854775808<=qy/\qy<=9223372036854775807)) :
  Ee Ed 11 #[Ej #[Ey Ew M,Ey Ew X],Ej #[Ey Ew N,Ey Ew H],Ej #[Ey Ew px,Ey Ew py],Ej #[Ey Ew qx,Ey Ew qy]] w fun e w'=>∃v,e = Eh (Ev #[v,Ey Ew (Cx (M,X) (N,H) (px,py) (qx,qy)).1])/\cF w' v (Cx (M,X) (N,H) (px,py) (qx,qy)).2/\zf w w':=by
 have ck:∀w' g t,ai w' g t #[Ey Ew M,Ey Ew X,Ey Ew N,Ey Ew H,Ey Ew px,Ey Ew py,Ey Ew qx,Ey Ew qy]->Ee Ed 37 #[Ex (some ⟨g,0,none⟩) 4 4] w' fun e I=>e = Eh (Ey Ew (if qq (M,X)/\qq (N,H)/\qq (px,py)/\qq (qx,qy)then 0 else 8))/\zf w' I:=fun w' g t hb=>by
  have:=qX w' (Wp hb ra rb ri rj) D9;rw[Wq]at this;exact this
 have qe:∀W,(Op.equalIn 10000 23 (Ej #[Ey Ew M,Ey Ew X]) (Ej #[Ey Ew N,Ey Ew H])).run Ed W = .ok (M==N&&X==H) W:=fun W=>H_ M X N H W;unfold Cx;clear ra rb ri rj
 by_cases hok:qq (M,X)/\qq (N,H)/\qq (px,py)/\qq (qx,qy)
 .
  rw[E9 hok]at ck;rw[E9 hok]
  by_cases he:((M,X):Int×Int)=(N,H)
  .
   rw[E9 he];have hE:(M==N&&X==H)=true:=by simp only[Prod.mk.injEq]at he; simp[he]
   rw[hE]at qe;clear hok he hE
   go_enter Tryz.func11,Tryz.ntmps11
   go_wp2_with fail
   refine(ck _ (w.heap.size+1+1+1+1+1) 23 zC).mono ?_;rintro e J ⟨rfl,gP⟩;have st:zf _ J:=gP;have B:=bA w st;have oa:ai J w.heap.size 23 #[Ey Ew M,Ey Ew X]:=ai.au st;have ob:ai J (w.heap.size+1) 23 #[Ey Ew N,Ey Ew H]:=ai.au st;have oi:ai J (w.heap.size+1+1) 23 #[Ey Ew px,Ey Ew py]:=ai.au st;have oj:ai J (w.heap.size+1+1+1) 23 #[Ey Ew qx,Ey Ew qy]:=ai.au st;have or:ai J (w.heap.size+1+1+1+1) 30 W_:=ai.au st;clear st;obtain⟨gW,gT⟩:=oa.r1;have la:=oa.lt;obtain⟨gQ,gR⟩:=ob.r1;have lb:=ob.lt;have li:=oi.lt;have lj:=oj.lt;have lr:=or.lt
   go_wp2_with (first
    | (
      (with_reducible show wpList _ _ _ (⟨some 26,_,_,_,_,_⟩::_) _ _)
      refine yW rfl 30 #[] rfl #[Ez false,Ex none 0 0,Ez false,Ex none 0 0,Ez false,Ex none 0 0,Ez false,Ex none 0 0,Ez false,Ex none 0 0,Ez false,Ex none 0 0,Ez false,Ex none 0 0,Ez false,Ex none 0 0] D7 ?_
      skip)
    | (
      (with_reducible show wpList _ _ _ (⟨none,.store _ _ _,_,_,_,_⟩::_) _ _)
      refine zL rfl 30 (.tmp 8) (.tmp 26) rfl (w.heap.size+1+1+1+1) #[Ez false,Ex none 0 0,Ez false,Ex none 0 0,Ez false,Ex none 0 0,Ez false,Ex none 0 0,Ez false,Ex none 0 0,Ez false,Ex none 0 0,Ez false,Ex none 0 0,Ez false,Ex none 0 0] rfl rfl 30 #[Ez false,Ex none 0 0,Ez false,Ex none 0 0,Ez false,Ex none 0 0,Ez false,Ex none 0 0,Ez false,Ex none 0 0,Ez false,Ex none 0 0,Ez false,Ex none 0 0,Ez false,Ex none 0 0] zC D7 rfl (by simp[Value.oneCell']) (fun I E=> ?_);have Bn:Below w.heap.size w I:=E.below zh D6;replace oa:ai I w.heap.size 23 #[Ey Ew M,Ey Ew X]:=E.bc zC (show w.heap.size≠w.heap.size+1+1+1+1 by omega);replace ob:ai I (w.heap.size+1) 23 #[Ey Ew N,Ey Ew H]:=E.bc zC (show w.heap.size+1≠w.heap.size+1+1+1+1 by omega);replace oi:ai I (w.heap.size+1+1) 23 #[Ey Ew px,Ey Ew py]:=E.bc zC (show w.heap.size+1+1≠w.heap.size+1+1+1+1 by omega);replace oj:ai I (w.heap.size+1+1+1) 23 #[Ey Ew qx,Ey Ew qy]:=E.bc zC (show w.heap.size+1+1+1≠w.heap.size+1+1+1+1 by omega);replace or:ai I (w.heap.size+1+1+1+1) 30 W_:=E.bI;clear gW gT la gQ gR lb li lj lr;replace B:=Bn;clear Bn E
      skip)
    )
   skip
   refine Eo (yf rfl _ _ (w.heap.size+1+1+1+1) rfl (cs:=#[Ez false,Ex none 0 0,Ez false,Ex none 0 0,Ez false,Ex none 0 0,Ez false,Ex none 0 0,Ez false,Ex none 0 0,Ez false,Ex none 0 0,Ez false,Ex none 0 0,Ez false,Ex none 0 0]) zC Tryz.underlying30 rfl D7) rfl ?_;exact⟨_,rfl,rfl,zh⟩
  .
   rw[E_ he];have hE:(M==N&&X==H)=false:=by cases h:(M==N&&X==H)with | false=>rfl | true=>exact absurd (by simp only[Bool.and_eq_true,beq_iff_eq]at h; rw[h.1,h.2]) he
   rw[hE]at qe;have hn:j5 (N-M) (H-X)≠0:=H' he;have SM:=fun(w':Ef) (g:Nat) (t:Em) (hc:ai w' g t #[Ey Ew 0])=>Q8 w' hc hok.1 hok.2.1 hok.2.2.1 hok.2.2.2 hn;clear hok he hE hn;generalize v_ (M,X) (N,H) (px,py) (qx,qy)=T at *
   go_enter Tryz.func11,Tryz.ntmps11
   go_wp2_with fail
   refine(ck _ (w.heap.size+1+1+1+1+1) 23 zC).mono ?_;rintro e J ⟨rfl,gP⟩;have st:zf _ J:=gP;have B:=bA w st;have oa:ai J w.heap.size 23 #[Ey Ew M,Ey Ew X]:=ai.au st;have ob:ai J (w.heap.size+1) 23 #[Ey Ew N,Ey Ew H]:=ai.au st;have oi:ai J (w.heap.size+1+1) 23 #[Ey Ew px,Ey Ew py]:=ai.au st;have oj:ai J (w.heap.size+1+1+1) 23 #[Ey Ew qx,Ey Ew qy]:=ai.au st;have or:ai J (w.heap.size+1+1+1+1) 30 W_:=ai.au st;clear st;obtain⟨gW,gT⟩:=oa.r1;have la:=oa.lt;obtain⟨gQ,gR⟩:=ob.r1;have lb:=ob.lt;obtain⟨ig,ik⟩:=oi.r1;have li:=oi.lt;obtain⟨i8,ij⟩:=oj.r1;have lj:=oj.lt;have lr:=or.lt;have ip:w.heap.size+1+1+1+1<J.heap.size:=or.lt;have iq:=B.size;go_wp2_with fail
   refine(SM _ J.heap.size 89 zC).mono ?_;rintro e I ⟨vs,rfl,i7,st⟩;have sk:=bA J st;replace B:=bS B sk;have gK:ai I J.heap.size 89 #[Ey Ew 0]:=ai.au st;replace oa:=oa.ae sk;replace ob:=ob.ae sk;replace oi:=oi.ae sk;replace oj:=oj.ae sk;replace or:=or.ae sk;clear st sk gW gT la gQ gR lb ig ik li i8 ij lj lr;obtain⟨bl,Y,gt,Z,gk,fe,gA,gE,gz,fd,fl,gD,gB,gC,gH,gp,eM,gn,gJ,gi,g8,cx,ft,gr,gd,gG,gj,g9,gI,gF,cy,eW,rfl,i4,gY,h9,gX⟩:=i7;have gO:=E7 i4;have gM:=E7 gY;have gN:=E7 h9;have gL:=E7 gX;clear i4 gY h9 gX;have i6:J.heap.size<I.heap.size:=gK.lt;have ir:=B.size
   go_wp2_with (first
    | (
      (with_reducible show wpList _ _ _ (⟨none,.store _ _ _,_,_,_,_⟩::_) _ _)
      refine zL rfl 30 (.tmp 12) (.tmp 31) rfl I.heap.size #[Ez bl,Ex Y gt Z,Ez gk,Ex fe gA gE,Ez gz,Ex fd fl gD,Ez gB,Ex gC gH gp,Ez eM,Ex gn gJ gi,Ez g8,Ex cx ft gr,Ez gd,Ex gG gj g9,Ez gI,Ex gF cy eW] rfl rfl 30 #[Ez false,Ex none 0 0,Ez false,Ex none 0 0,Ez false,Ex none 0 0,Ez false,Ex none 0 0,Ez false,Ex none 0 0,Ez false,Ex none 0 0,Ez false,Ex none 0 0,Ez false,Ex none 0 0] zC D7 rfl (by simp[Value.oneCell']) (fun w3 E=> ?_);have Bn:Below w.heap.size w w3:=E.below zh D6;have kp:av I w3:=av.trans zw (E.af rfl);replace oa:ai w3 w.heap.size 23 #[Ey Ew M,Ey Ew X]:=E.bc zC (show w.heap.size≠I.heap.size by omega);replace ob:ai w3 (w.heap.size+1) 23 #[Ey Ew N,Ey Ew H]:=E.bc zC (show w.heap.size+1≠I.heap.size by omega);replace oi:ai w3 (w.heap.size+1+1) 23 #[Ey Ew px,Ey Ew py]:=E.bc zC (show w.heap.size+1+1≠I.heap.size by omega);replace oj:ai w3 (w.heap.size+1+1+1) 23 #[Ey Ew qx,Ey Ew qy]:=E.bc zC (show w.heap.size+1+1+1≠I.heap.size by omega);replace or:ai w3 (w.heap.size+1+1+1+1) 30 W_:=E.bc zC (show w.heap.size+1+1+1+1≠I.heap.size by omega);replace gK:ai w3 J.heap.size 89 #[Ey Ew 0]:=E.bc zC (show J.heap.size≠I.heap.size by omega);have gZ:ai w3 I.heap.size 30 #[Ez bl,Ex Y gt Z,Ez gk,Ex fe gA gE,Ez gz,Ex fd fl gD,Ez gB,Ex gC gH gp,Ez eM,Ex gn gJ gi,Ez g8,Ex cx ft gr,Ez gd,Ex gG gj g9,Ez gI,Ex gF cy eW]:=E.bI;replace B:=Bn;clear Bn E;replace gO:=E7 (gO.out.af kp);replace gM:=E7 (gM.out.af kp);replace gN:=E7 (gN.out.af kp);replace gL:=E7 (gL.out.af kp);clear kp;have gV:=gK.q0;have i5:=gK.lt
      skip)
    | (
      (with_reducible show wpList _ _ _ (⟨some 38,_,_,_,_,_⟩::_) _ _)
      refine yg rfl 30 (.tmp 12) rfl I.heap.size rfl 30 #[Ez bl,Ex Y gt Z,Ez gk,Ex fe gA gE,Ez gz,Ex fd fl gD,Ez gB,Ex gC gH gp,Ez eM,Ex gn gJ gi,Ez g8,Ex cx ft gr,Ez gd,Ex gG gj g9,Ez gI,Ex gF cy eW] _ zC Tryz.underlying30 rfl D7 ?_
      skip)
    | (
      (with_reducible show wpList _ _ _ (⟨none,.store _ _ _,_,_,_,_⟩::_) _ _)
      refine zL rfl 30 (.tmp 8) (.tmp 38) rfl (w.heap.size+1+1+1+1) #[Ez bl,Ex Y gt Z,Ez gk,Ex fe gA gE,Ez gz,Ex fd fl gD,Ez gB,Ex gC gH gp,Ez eM,Ex gn gJ gi,Ez g8,Ex cx ft gr,Ez gd,Ex gG gj g9,Ez gI,Ex gF cy eW] rfl rfl 30 #[Ez false,Ex none 0 0,Ez false,Ex none 0 0,Ez false,Ex none 0 0,Ez false,Ex none 0 0,Ez false,Ex none 0 0,Ez false,Ex none 0 0,Ez false,Ex none 0 0,Ez false,Ex none 0 0] zC D7 rfl (by simp[Value.oneCell']) (fun w4 E=> ?_);have Bn:Below w.heap.size w w4:=E.below zh D6;have kp:av w3 w4:=av.trans zw (E.af rfl);replace oa:ai w4 w.heap.size 23 #[Ey Ew M,Ey Ew X]:=E.bc zC (show w.heap.size≠w.heap.size+1+1+1+1 by omega);replace ob:ai w4 (w.heap.size+1) 23 #[Ey Ew N,Ey Ew H]:=E.bc zC (show w.heap.size+1≠w.heap.size+1+1+1+1 by omega);replace oi:ai w4 (w.heap.size+1+1) 23 #[Ey Ew px,Ey Ew py]:=E.bc zC (show w.heap.size+1+1≠w.heap.size+1+1+1+1 by omega);replace oj:ai w4 (w.heap.size+1+1+1) 23 #[Ey Ew qx,Ey Ew qy]:=E.bc zC (show w.heap.size+1+1+1≠w.heap.size+1+1+1+1 by omega);replace or:ai w4 (w.heap.size+1+1+1+1) 30 #[Ez bl,Ex Y gt Z,Ez gk,Ex fe gA gE,Ez gz,Ex fd fl gD,Ez gB,Ex gC gH gp,Ez eM,Ex gn gJ gi,Ez g8,Ex cx ft gr,Ez gd,Ex gG gj g9,Ez gI,Ex gF cy eW]:=E.bI;replace gK:ai w4 J.heap.size 89 #[Ey Ew 0]:=E.bc zC (show J.heap.size≠w.heap.size+1+1+1+1 by omega);replace gZ:ai w4 I.heap.size 30 #[Ez bl,Ex Y gt Z,Ez gk,Ex fe gA gE,Ez gz,Ex fd fl gD,Ez gB,Ex gC gH gp,Ez eM,Ex gn gJ gi,Ez g8,Ex cx ft gr,Ez gd,Ex gG gj g9,Ez gI,Ex gF cy eW]:=E.bc zC (show I.heap.size≠w.heap.size+1+1+1+1 by omega);clear gV i5;replace B:=Bn;clear Bn E;replace gO:=E7 (gO.out.af kp);replace gM:=E7 (gM.out.af kp);replace gN:=E7 (gN.out.af kp);replace gL:=E7 (gL.out.af kp);clear kp
      skip)
    )
   skip
   refine Eo (yf rfl _ _ (w.heap.size+1+1+1+1) rfl (cs:=#[Ez bl,Ex Y gt Z,Ez gk,Ex fe gA gE,Ez gz,Ex fd fl gD,Ez gB,Ex gC gH gp,Ez eM,Ex gn gJ gi,Ez g8,Ex cx ft gr,Ez gd,Ex gG gj g9,Ez gI,Ex gF cy eW]) zC Tryz.underlying30 rfl D7) rfl ?_;exact⟨_,rfl,⟨_,_,_,_,_,_,_,_,_,_,_,_,_,_,_,_,_,_,_,_,_,_,_,_,_,_,_,_,_,_,_,_,rfl,gO.out.af zw,gM.out.af zw,gN.out.af zw,gL.out.af zw⟩,zh⟩
 .
  rw[E_ hok]at ck;rw[E_ hok];clear hok qe
  go_enter Tryz.func11,Tryz.ntmps11
  go_wp2_with fail
  refine(ck _ (w.heap.size+1+1+1+1+1) 23 zC).mono ?_;rintro e J ⟨rfl,st⟩;have B:=bA w st;have oa:ai J w.heap.size 23 #[Ey Ew M,Ey Ew X]:=ai.au st;have ob:ai J (w.heap.size+1) 23 #[Ey Ew N,Ey Ew H]:=ai.au st;have oi:ai J (w.heap.size+1+1) 23 #[Ey Ew px,Ey Ew py]:=ai.au st;have oj:ai J (w.heap.size+1+1+1) 23 #[Ey Ew qx,Ey Ew qy]:=ai.au st;have or:ai J (w.heap.size+1+1+1+1) 30 W_:=ai.au st;clear st
  go_wp2_with (first
   | (
     (with_reducible show wpList _ _ _ (⟨some 21,_,_,_,_,_⟩::_) _ _)
     refine yW rfl 30 #[] rfl #[Ez false,Ex none 0 0,Ez false,Ex none 0 0,Ez false,Ex none 0 0,Ez false,Ex none 0 0,Ez false,Ex none 0 0,Ez false,Ex none 0 0,Ez false,Ex none 0 0,Ez false,Ex none 0 0] D7 ?_
     skip)
   | (
     (with_reducible show wpList _ _ _ (⟨none,.store _ _ _,_,_,_,_⟩::_) _ _)
     refine zL rfl 30 (.tmp 8) (.tmp 21) rfl (w.heap.size+1+1+1+1) #[Ez false,Ex none 0 0,Ez false,Ex none 0 0,Ez false,Ex none 0 0,Ez false,Ex none 0 0,Ez false,Ex none 0 0,Ez false,Ex none 0 0,Ez false,Ex none 0 0,Ez false,Ex none 0 0] rfl rfl 30 #[Ez false,Ex none 0 0,Ez false,Ex none 0 0,Ez false,Ex none 0 0,Ez false,Ex none 0 0,Ez false,Ex none 0 0,Ez false,Ex none 0 0,Ez false,Ex none 0 0,Ez false,Ex none 0 0] zC D7 rfl (by simp[Value.oneCell']) (fun I E=> ?_);have Bn:Below w.heap.size w I:=E.below zh D6;replace oa:ai I w.heap.size 23 #[Ey Ew M,Ey Ew X]:=E.bc zC (show w.heap.size≠w.heap.size+1+1+1+1 by omega);replace ob:ai I (w.heap.size+1) 23 #[Ey Ew N,Ey Ew H]:=E.bc zC (show w.heap.size+1≠w.heap.size+1+1+1+1 by omega);replace oi:ai I (w.heap.size+1+1) 23 #[Ey Ew px,Ey Ew py]:=E.bc zC (show w.heap.size+1+1≠w.heap.size+1+1+1+1 by omega);replace oj:ai I (w.heap.size+1+1+1) 23 #[Ey Ew qx,Ey Ew qy]:=E.bc zC (show w.heap.size+1+1+1≠w.heap.size+1+1+1+1 by omega);replace or:ai I (w.heap.size+1+1+1+1) 30 W_:=E.bI;replace B:=Bn;clear Bn E
     skip)
   )
  skip
  refine Eo (yf rfl _ _ (w.heap.size+1+1+1+1) rfl (cs:=#[Ez false,Ex none 0 0,Ez false,Ex none 0 0,Ez false,Ex none 0 0,Ez false,Ex none 0 0,Ez false,Ex none 0 0,Ez false,Ex none 0 0,Ez false,Ex none 0 0,Ez false,Ex none 0 0]) zC Tryz.underlying30 rfl D7) rfl ?_;exact⟨_,rfl,rfl,zh⟩
def yh {α : Type} (a b c d : α) (i:Nat) : α:=match i with | 0=>a | 1=>b | 2=>c | _=>d
def kM (O:Nat->Option Rat) (LA LB:Nat->Nat) (n:Nat):Prop:=∀i,i<n->∀q,O i=some q->zi q.num<=bp (LA i)/\(q.den:Int)<=bp (LB i)
def FO (w:Ef) (v:Ei):Option Rat->Prop
 | some r=>FR w v r
 | none=>v = Ej jN
theorem FO.af (h:FO w v o) (k:av w w'):FO w' v o:=by
 cases o with
 | none=>exact h
 | some r=>exact FR.af h k
theorem Ws (h:aZ most o p q=true):p<=most/\q<=most/\∃r,o=some r:=by
 unfold aZ at h;simp only[Bool.and_eq_true,decide_eq_true_eq]at h;exact⟨h.1.1,h.1.2,Option.isSome_iff_exists.1 h.2⟩
theorem Jg : ∀{n:Nat},xq most O LA LB n=true->∀i,i<n->aZ most (O i) (LA i) (LB i)=true
 | n+1,h,i,hi=>by
  unfold xq at h;simp only[Bool.and_eq_true]at h
  rcases Er i n with g | g
  . exact Jg h.1 i g
  .
   obtain rfl:i=n:=D6
   exact h.2
theorem Jh {j:Nat} (h:i<=j):bp i<=bp j:=by
 unfold bp;exact Int.ofNat_le.2 (Nat.pow_le_pow_right D8 h)
theorem yZ (h:xq most O LA LB n=true) (f:kM O LA LB n) (i:Nat) (E:i<n):∃r,O i=some r/\sz r most:=by
 obtain⟨I,H,r,e⟩:=Ws (Jg h i E);obtain⟨J,M⟩:=f i E r e;have p1:=Jh I;have p2:=Jh H;exact⟨r,e,by omega,by omega⟩
theorem Dh (h:ai w g t #[Ez cn,Ex d9 bf ci,Ez cZ,Ex ce ah dl,Ez dt,Ex cg be cN,Ez bt,Ex dk b9 dc,Ez em,Ex ey br dy,Ez ek,Ex ed bi er,Ez eS,Ex f7 bg dx,Ez f8,Ex ec bh dP]) (E:FB w (Ej #[Ez cn,Ex d9 bf ci,Ez cZ,Ex ce ah dl]) (O 0)) (b1:FB w (Ej #[Ez dt,Ex cg be cN,Ez bt,Ex dk b9 dc]) (O 1)) (b2:FB w (Ej #[Ez em,Ex ey br dy,Ez ek,Ex ed bi er]) (O 2)) (b3:FB w (Ej #[Ez eS,Ex f7 bg dx,Ez f8,Ex ec bh dP]) (O 3)):C0 w (Ex (some ⟨g,0,none⟩) 4 4) 4 O (yh bf be br bg) (yh ah b9 bi bh):=by
 refine⟨g,0,4,rfl,Ep _,h.lt,fun i H=> ?_⟩;have:i=0\/i=1\/i=2\/i=3:=D6
 rcases this with rfl | rfl | rfl | rfl
 . exact⟨_,_,_,_,_,_,h.c 0 rfl,h.c 1 rfl,h.c 2 rfl,h.c 3 rfl,E⟩
 . exact⟨_,_,_,_,_,_,h.c 4 rfl,h.c 5 rfl,h.c 6 rfl,h.c 7 rfl,b1⟩
 . exact⟨_,_,_,_,_,_,h.c 8 rfl,h.c 9 rfl,h.c 10 rfl,h.c 11 rfl,b2⟩
 . exact⟨_,_,_,_,_,_,h.c 12 rfl,h.c 13 rfl,h.c 14 rfl,h.c 15 rfl,b3⟩
def DK (O:Nat->Option Rat) (LA LB:Nat->Nat) (p:Int×Int):Bool:=xq 16 O LA LB 4&&decide (qq p)
def Zf (b:Bool):Int:=if b then 0 else 8
def Dv (b:Bool) (r:Rat):Option Rat:=if b then some r else none
theorem Di (h:ai w g t #[Ez ua1,Ex ua2 ua3 ua4,Ez ua5,Ex ua6 ua7 ua8,Ez ub1,Ex ub2 ub3 ub4,Ez ub5,Ex ub6 ub7 ub8,Ez uc1,Ex uc2 uc3 uc4,Ez uc5,Ex uc6 uc7 uc8]) (E:FB w (Ej #[Ez ua1,Ex ua2 ua3 ua4,Ez ua5,Ex ua6 ua7 ua8]) (O 0)) (b1:FB w (Ej #[Ez ub1,Ex ub2 ub3 ub4,Ez ub5,Ex ub6 ub7 ub8]) (O 1)) (b2:FB w (Ej #[Ez uc1,Ex uc2 uc3 uc4,Ez uc5,Ex uc6 uc7 uc8]) (O 2)):C0 w (Ex (some ⟨g,0,none⟩) 3 3) 3 O (yh ua3 ub3 uc3 uc3) (yh ua7 ub7 uc7 uc7):=by
 refine⟨g,0,3,rfl,Ep _,h.lt,fun i H=> ?_⟩;have:i=0\/i=1\/i=2:=D6
 rcases this with rfl | rfl | rfl
 . exact⟨_,_,_,_,_,_,h.c 0 rfl,h.c 1 rfl,h.c 2 rfl,h.c 3 rfl,E⟩
 . exact⟨_,_,_,_,_,_,h.c 4 rfl,h.c 5 rfl,h.c 6 rfl,h.c 7 rfl,b1⟩
 . exact⟨_,_,_,_,_,_,h.c 8 rfl,h.c 9 rfl,h.c 10 rfl,h.c 11 rfl,b2⟩
def yu (O:Nat->Option Rat) (LA LB:Nat->Nat) (R A:Int) (neg:Bool):Bool:=
 xq 2 O LA LB 3&&decide (1<=R/\R<=65536/\1<=A/\A<=17592186044416) && !neg&&decide (0<(O 1).getD 0/\(O 1).getD 0<1/\0<(O 2).getD 0)
theorem zT {neg:Bool} : yu O LA LB R A neg=true↔xq 2 O LA LB 3=true/\(1<=R/\R<=65536/\1<=A/\A<=17592186044416)/\neg=false/\0<(O 1).getD 0/\(O 1).getD 0<1/\0<(O 2).getD 0:=by
 unfold yu
 cases neg<;>simp[and_assoc]
theorem G1 : xq most O LA LB 3=(aZ most (O 0) (LA 0) (LB 0)&&aZ most (O 1) (LA 1) (LB 1)&&aZ most (O 2) (LA 2) (LB 2)):=by
 show (((true&&_)&&_)&&_)=_
 rw[Bool.true_and]
theorem Zv:((0:Int):Rat)=0:=rfl
theorem Zw:sz (0:Rat) 2:=yq (x:=0) D8
theorem Ba:sz (1:Rat) 2:=du
theorem Kc (w:Ef) (b0:FB w (Ej #[Ez ua1,Ex ua2 ua3 ua4,Ez ua5,Ex ua6 ua7 ua8]) (O 0)) (b1:FB w (Ej #[Ez ub1,Ex ub2 ub3 ub4,Ez ub5,Ex ub6 ub7 ub8]) (O 1)) (b2:FB w (Ej #[Ez uc1,Ex uc2 uc3 uc4,Ez uc5,Ex uc6 uc7 uc8]) (O 2)) (fw:kM O (yh ua3 ub3 uc3 uc3) (yh ua7 ub7 uc7 uc7) 3) :
  Ee Ed 26 #[Ej #[Ez ua1,Ex ua2 ua3 ua4,Ez ua5,Ex ua6 ua7 ua8,Ey Ew R,Ey Ew A,Ez ub1,Ex ub2 ub3 ub4,Ez ub5,Ex ub6 ub7 ub8,Ez uc1,Ex uc2 uc3 uc4,Ez uc5,Ex uc6 uc7 uc8]] w fun e w'=>e = Eh (Ey Ew (Zf (yu O (yh ua3 ub3 uc3 uc3) (yh ua7 ub7 uc7 uc7) R A ua1)))/\zf w w':=by
 obtain⟨K,hK⟩:∃k,yu O (yh ua3 ub3 uc3 uc3) (yh ua7 ub7 uc7 uc7) R A ua1=k:=⟨_,rfl⟩
 have KF:∀ (P:Prop),(yu O (yh ua3 ub3 uc3 uc3) (yh ua7 ub7 uc7 uc7) R A ua1=true->P)->¬P->K=false:=fun P h1 h2=>by
  cases hk:K with
  | false=>rfl
  | true=>exact absurd (h1 (hK.trans hk)) h2
 have KL:=fun(h:xq 2 O (yh ua3 ub3 uc3 uc3) (yh ua7 ub7 uc7 uc7) 3=false)=>KF (xq 2 O (yh ua3 ub3 uc3 uc3) (yh ua7 ub7 uc7 uc7) 3=true) (fun g=>(zT.1 g).1) (by rw[h]; decide);have KR:=KF _ (fun g=>(zT.1 g).2.1);have KN:=fun(h:ua1=true)=>KF (ua1=false) (fun g=>(zT.1 g).2.2.1) (by rw[h]; decide);have K1:=fun(h:z9 ((O 1).getD 0) 0<=0)=>KF _ (fun g=>(zT.1 g).2.2.2.1) (fun g=>absurd (qW.2 g) D6);have K2:=fun(h:¬z9 ((O 1).getD 0) 1<0)=>KF _ (fun g=>(zT.1 g).2.2.2.2.1) (fun g=>h (bj.2 g));have K3:=fun(h:z9 ((O 2).getD 0) 0<=0)=>KF _ (fun g=>(zT.1 g).2.2.2.2.2) (fun g=>absurd (qW.2 g) D6);have KT:xq 2 O (yh ua3 ub3 uc3 uc3) (yh ua7 ub7 uc7 uc7) 3=true->(1<=R/\R<=65536/\1<=A/\A<=17592186044416)->ua1=false->¬z9 ((O 1).getD 0) 0<=0->z9 ((O 1).getD 0) 1<0->¬z9 ((O 2).getD 0) 0<=0->K=true:=fun h1 h2 h3 h4 h5 h6=>hK.symm.trans (zT.2 ⟨h1,h2,h3,qW.1 D6,bj.1 h5,qW.1 D6⟩)
 have FQ:xq 2 O (yh ua3 ub3 uc3 uc3) (yh ua7 ub7 uc7 uc7) 3=true->(∃r,O 1=some r/\(O 1).getD 0=r/\sz r 2)/\∃r,O 2=some r/\(O 2).getD 0=r/\sz r 2:=fun h=>by
  obtain⟨r1,e1,z1⟩:=yZ h fw 1 D6;obtain⟨r2,e2,z2⟩:=yZ h fw 2 D6;exact⟨⟨r1,e1,by rw[e1]; rfl,z1⟩,⟨r2,e2,by rw[e2]; rfl,z2⟩⟩
 have LM:∀w' g t,av w w'->ai w' g t #[Ez ua1,Ex ua2 ua3 ua4,Ez ua5,Ex ua6 ua7 ua8,Ez ub1,Ex ub2 ub3 ub4,Ez ub5,Ex ub6 ub7 ub8,Ez uc1,Ex uc2 uc3 uc4,Ez uc5,Ex uc6 uc7 uc8]->Ee Ed 41 #[Ey Ew 2,Ex (some ⟨g,0,none⟩) 3 3] w' fun e w2=>e = Eh (Ez (xq 2 O (yh ua3 ub3 uc3 uc3) (yh ua7 ub7 uc7 uc7) 3))/\zf w' w2:=fun w' g t k hb=>QU 2 w' (Di hb (b0.af k) (b1.af k) (b2.af k)) D6;have OF:∀x:Int,-9223372036854775808<=x->x<=9223372036854775807->∀w' g t,ai w' g t #[Ey Ew 0]->Ee Ed 66 #[Ek (some ⟨g,0,none⟩),Ey Ew x] w' fun e w2=>∃v,e = Eh v/\FR w2 v (x:Rat)/\zf w' w2:=fun x h0 h1 w' g t hb=>U1 x w' hb h0 h1;have O0:=fun w' g t hb=>by have:=OF 0 D8 D8 w' g t hb; rw[Zv]at this; exact this
 have O1:=fun w' g t hb=>by have:=OF 1 D8 D8 w' g t hb; rw[Zd]at this; exact this
 clear OF;rw[hK];generalize hL:xq 2 O (yh ua3 ub3 uc3 uc3) (yh ua7 ub7 uc7 uc7) 3=L at *
 cases ua1 with
 | true=>
  cases L with
  | false=>
   have Y:=KL rfl;subst Y;clear KF KL KR KN K1 K2 K3 KT FQ O0 O1 hK hL b0 b1 b2 fw
   go_enter Tryz.func26,Tryz.ntmps26
   have Z:=av.refl w;go_wp2_with fail
   refine(LM _ (w.heap.size+1) 28 (Z.trans zw) zC).mono ?_;rintro e w1 ⟨rfl,gC⟩;have st:zf _ w1:=gC;have B:=bA w st;have kp:=kB w st;replace Z:=Z.trans kp;have M:ai w1 w.heap.size 45 #[Ez true,Ex ua2 ua3 ua4,Ez ua5,Ex ua6 ua7 ua8,Ey Ew R,Ey Ew A,Ez ub1,Ex ub2 ub3 ub4,Ez ub5,Ex ub6 ub7 ub8,Ez uc1,Ex uc2 uc3 uc4,Ez uc5,Ex uc6 uc7 uc8]:=ai.au st;clear kp;clear st;go_wp2_with fail
   refine Eo (by simp[results,Tryz.results26,go_sem,]; rfl) rfl ?_;exact⟨rfl,zh⟩
  | true=>
   go_enter Tryz.func26,Tryz.ntmps26
   have Z:=av.refl w;obtain⟨⟨r1,e1,q1,z1⟩,r2,e2,q2,z2⟩:=FQ rfl;rw[e1]at b1;rw[e2]at b2;rw[q1]at K1 K2 KT;rw[q2]at K3 KT;have F1:Hid (FR w (Ej #[Ez ub1,Ex ub2 ub3 ub4,Ez ub5,Ex ub6 ub7 ub8]) r1):=E7 b1;have F2:Hid (FR w (Ej #[Ez uc1,Ex uc2 uc3 uc4,Ez uc5,Ex uc6 uc7 uc8]) r2):=E7 b2;obtain⟨c1,gp⟩:∃c,z9 r1 0=c:=⟨_,rfl⟩;obtain⟨c2,gt⟩:∃c,z9 r1 1=c:=⟨_,rfl⟩;obtain⟨c3,gz⟩:∃c,z9 r2 0=c:=⟨_,rfl⟩;rw[gp]at K1 KT;rw[gt]at K2 KT;rw[gz]at K3 KT;have T:∀ (w':Ef) (g:Nat) (t:Em) (u v:Ei),ai w' g t #[Ey Ew 0]->FR w' u r1->FR w' v 0->Ee Ed 67 #[Ek (some ⟨g,0,none⟩),u,v] w' fun e w2=>e = Eh (Ey Ew c1)/\zf w' w2:=fun w' g t u v hb h1 h2=>by have:=xD w' hb h1 h2 z1 Zw D6; rw[gp]at this; exact this
   have X:∀ (w':Ef) (g:Nat) (t:Em) (u v:Ei),ai w' g t #[Ey Ew 0]->FR w' u r1->FR w' v 1->Ee Ed 67 #[Ek (some ⟨g,0,none⟩),u,v] w' fun e w2=>e = Eh (Ey Ew c2)/\zf w' w2:=fun w' g t u v hb h1 h2=>by have:=xD w' hb h1 h2 z1 Ba D6; rw[gt]at this; exact this
   have N:∀ (w':Ef) (g:Nat) (t:Em) (u v:Ei),ai w' g t #[Ey Ew 0]->FR w' u r2->FR w' v 0->Ee Ed 67 #[Ek (some ⟨g,0,none⟩),u,v] w' fun e w2=>e = Eh (Ey Ew c3)/\zf w' w2:=fun w' g t u v hb h1 h2=>by have:=xD w' hb h1 h2 z2 Zw D6; rw[gz]at this; exact this
   clear gp gt gz;have cy:=KT rfl;clear KF KL KT FQ hK hL e1 e2 q1 q2 fw b0 b1 b2;go_wp2_with fail
   refine(LM _ (w.heap.size+1) 28 (Z.trans zw) zC).mono ?_;rintro e w1 ⟨rfl,gC⟩;have st:zf _ w1:=gC;have B:=bA w st;have kp:=kB w st;replace Z:=Z.trans kp;have M:ai w1 w.heap.size 45 #[Ez true,Ex ua2 ua3 ua4,Ez ua5,Ex ua6 ua7 ua8,Ey Ew R,Ey Ew A,Ez ub1,Ex ub2 ub3 ub4,Ez ub5,Ex ub6 ub7 ub8,Ez uc1,Ex uc2 uc3 uc4,Ez uc5,Ex uc6 uc7 uc8]:=ai.au st;replace F1:=E7 (F1.out.af kp);replace F2:=E7 (F2.out.af kp);clear kp;clear st;obtain⟨eW,gi,eM,gj,g8,fe,gk,ft,g9,fd,J,I,H,E⟩:=M.dA;have lu:=M.lt;clear LM
   rcases(show R<1\/(¬R<1/\65536<R)\/(¬R<1/\¬65536<R/\A<1)\/(¬R<1/\¬65536<R/\¬A<1/\17592186044416<A)\/(¬R<1/\¬65536<R/\¬A<1/\¬17592186044416<A) by omega)with g1 | ⟨g1,g2⟩ | ⟨g1,g2,g3⟩ | ⟨g1,g2,g3,g4⟩ | ⟨g1,g2,g3,g4⟩
   .
    have Y:=KR D6;subst Y;clear KR KN K1 K2 K3 cy O0 O1 T X N
    go_wp2
    go_returns
    exact⟨rfl,zh⟩
   .
    have Y:=KR D6;subst Y;clear KR KN K1 K2 K3 cy O0 O1 T X N
    go_wp2
    go_returns
    exact⟨rfl,zh⟩
   .
    have Y:=KR D6;subst Y;clear KR KN K1 K2 K3 cy O0 O1 T X N
    go_wp2
    go_returns
    exact⟨rfl,zh⟩
   .
    have Y:=KR D6;subst Y;clear KR KN K1 K2 K3 cy O0 O1 T X N
    go_wp2
    go_returns
    exact⟨rfl,zh⟩
   .
    have gA:=cy ⟨by omega,by omega,by omega,by omega⟩;clear cy KR;have gK:w.heap.size<w1.heap.size:=M.lt;have gP:=B.size;go_wp2_with fail
    refine(O0 _ w1.heap.size 89 zC).mono ?_;rintro e w2 ⟨gT,rfl,fl,gR⟩;have st:zf _ w2:=gR;have sk:=bA w1 st;replace B:=bS B sk;have bl:ai w2 w1.heap.size 89 #[Ey Ew 0]:=ai.au st;replace M:=M.ae sk;replace F1:=E7 (F1.out.ae sk);replace F2:=E7 (F2.out.ae sk);replace Z:=Z.aI sk;clear st sk eW gi eM gj g8 fe gk ft g9 fd J I H E lu;obtain⟨cn,d9,bf,ci,cZ,ce,ah,dl,rfl⟩:=fl.ak;have cx:=E7 fl;clear fl;go_wp2_with fail
    refine(O1 _ w1.heap.size 89 zC).mono ?_;rintro e w3 ⟨gW,rfl,gd,gQ⟩;have st:zf _ w3:=gQ;have sk:=bA w2 st;replace B:=bS B sk;replace M:=M.ae sk;replace bl:=bl.ae sk;replace F1:=E7 (F1.out.ae sk);replace F2:=E7 (F2.out.ae sk);replace cx:=E7 (cx.out.ae sk);replace Z:=Z.aI sk;clear st sk;obtain⟨eW,gi,eM,gj,g8,fe,gk,ft,g9,fd,J,I,H,E⟩:=M.dA;have lu:=M.lt;obtain⟨dt,cg,be,cN,bt,dk,b9,dc,rfl⟩:=gd.ak;have gn:=E7 gd;clear gd;have gD:w1.heap.size<w3.heap.size:=bl.lt;have gV:=B.size
    skip
    have Y:=KN D9;subst Y;clear KN K1 K2 K3 gA O0 O1 T X N;go_wp2_with fail
    refine Eo (by simp[results,Tryz.results26,go_sem,eW,gi,eM,gj,g8,fe,gk,ft,g9,fd,J,I,H,E,lu]; rfl) rfl ?_;exact⟨rfl,zh⟩
 | false=>
  cases L with
  | false=>
   have Y:=KL rfl;subst Y;clear KF KL KR KN K1 K2 K3 KT FQ O0 O1 hK hL b0 b1 b2 fw
   go_enter Tryz.func26,Tryz.ntmps26
   have Z:=av.refl w;go_wp2_with fail
   refine(LM _ (w.heap.size+1) 28 (Z.trans zw) zC).mono ?_;rintro e w1 ⟨rfl,gC⟩;have st:zf _ w1:=gC;have B:=bA w st;have kp:=kB w st;replace Z:=Z.trans kp;have M:ai w1 w.heap.size 45 #[Ez false,Ex ua2 ua3 ua4,Ez ua5,Ex ua6 ua7 ua8,Ey Ew R,Ey Ew A,Ez ub1,Ex ub2 ub3 ub4,Ez ub5,Ex ub6 ub7 ub8,Ez uc1,Ex uc2 uc3 uc4,Ez uc5,Ex uc6 uc7 uc8]:=ai.au st;clear kp;clear st;go_wp2_with fail
   refine Eo (by simp[results,Tryz.results26,go_sem,]; rfl) rfl ?_;exact⟨rfl,zh⟩
  | true=>
   go_enter Tryz.func26,Tryz.ntmps26
   have Z:=av.refl w;obtain⟨⟨r1,e1,q1,z1⟩,r2,e2,q2,z2⟩:=FQ rfl;rw[e1]at b1;rw[e2]at b2;rw[q1]at K1 K2 KT;rw[q2]at K3 KT;have F1:Hid (FR w (Ej #[Ez ub1,Ex ub2 ub3 ub4,Ez ub5,Ex ub6 ub7 ub8]) r1):=E7 b1;have F2:Hid (FR w (Ej #[Ez uc1,Ex uc2 uc3 uc4,Ez uc5,Ex uc6 uc7 uc8]) r2):=E7 b2;obtain⟨c1,gp⟩:∃c,z9 r1 0=c:=⟨_,rfl⟩;obtain⟨c2,gt⟩:∃c,z9 r1 1=c:=⟨_,rfl⟩;obtain⟨c3,gz⟩:∃c,z9 r2 0=c:=⟨_,rfl⟩;rw[gp]at K1 KT;rw[gt]at K2 KT;rw[gz]at K3 KT;have T:∀ (w':Ef) (g:Nat) (t:Em) (u v:Ei),ai w' g t #[Ey Ew 0]->FR w' u r1->FR w' v 0->Ee Ed 67 #[Ek (some ⟨g,0,none⟩),u,v] w' fun e w2=>e = Eh (Ey Ew c1)/\zf w' w2:=fun w' g t u v hb h1 h2=>by have:=xD w' hb h1 h2 z1 Zw D6; rw[gp]at this; exact this
   have X:∀ (w':Ef) (g:Nat) (t:Em) (u v:Ei),ai w' g t #[Ey Ew 0]->FR w' u r1->FR w' v 1->Ee Ed 67 #[Ek (some ⟨g,0,none⟩),u,v] w' fun e w2=>e = Eh (Ey Ew c2)/\zf w' w2:=fun w' g t u v hb h1 h2=>by have:=xD w' hb h1 h2 z1 Ba D6; rw[gt]at this; exact this
   have N:∀ (w':Ef) (g:Nat) (t:Em) (u v:Ei),ai w' g t #[Ey Ew 0]->FR w' u r2->FR w' v 0->Ee Ed 67 #[Ek (some ⟨g,0,none⟩),u,v] w' fun e w2=>e = Eh (Ey Ew c3)/\zf w' w2:=fun w' g t u v hb h1 h2=>by have:=xD w' hb h1 h2 z2 Zw D6; rw[gz]at this; exact this
   clear gp gt gz;have cy:=KT rfl;clear KF KL KT FQ hK hL e1 e2 q1 q2 fw b0 b1 b2;go_wp2_with fail
   refine(LM _ (w.heap.size+1) 28 (Z.trans zw) zC).mono ?_;rintro e w1 ⟨rfl,st⟩;have B:=bA w st;have kp:=kB w st;replace Z:=Z.trans kp;have M:ai w1 w.heap.size 45 #[Ez false,Ex ua2 ua3 ua4,Ez ua5,Ex ua6 ua7 ua8,Ey Ew R,Ey Ew A,Ez ub1,Ex ub2 ub3 ub4,Ez ub5,Ex ub6 ub7 ub8,Ez uc1,Ex uc2 uc3 uc4,Ez uc5,Ex uc6 uc7 uc8]:=ai.au st;replace F1:=E7 (F1.out.af kp);replace F2:=E7 (F2.out.af kp);clear kp;clear st;obtain⟨eW,gi,eM,gj,g8,fe,gk,ft,g9,fd,J,I,H,E⟩:=M.dA;have lu:=M.lt;clear LM
   rcases(show R<1\/(¬R<1/\65536<R)\/(¬R<1/\¬65536<R/\A<1)\/(¬R<1/\¬65536<R/\¬A<1/\17592186044416<A)\/(¬R<1/\¬65536<R/\¬A<1/\¬17592186044416<A) by omega)with g1 | ⟨g1,g2⟩ | ⟨g1,g2,g3⟩ | ⟨g1,g2,g3,g4⟩ | ⟨g1,g2,g3,g4⟩
   .
    have Y:=KR D6;subst Y;clear KR KN K1 K2 K3 cy O0 O1 T X N
    go_wp2
    go_returns
    exact⟨rfl,zh⟩
   .
    have Y:=KR D6;subst Y;clear KR KN K1 K2 K3 cy O0 O1 T X N
    go_wp2
    go_returns
    exact⟨rfl,zh⟩
   .
    have Y:=KR D6;subst Y;clear KR KN K1 K2 K3 cy O0 O1 T X N
    go_wp2
    go_returns
    exact⟨rfl,zh⟩
   .
    have Y:=KR D6;subst Y;clear KR KN K1 K2 K3 cy O0 O1 T X N
    go_wp2
    go_returns
    exact⟨rfl,zh⟩
   .
    have gA:=cy ⟨by omega,by omega,by omega,by omega⟩;clear cy KR;have gK:w.heap.size<w1.heap.size:=M.lt;have gP:=B.size;go_wp2_with fail
    refine(O0 _ w1.heap.size 89 zC).mono ?_;rintro e w2 ⟨gT,rfl,fl,st⟩;have sk:=bA w1 st;replace B:=bS B sk;have bl:ai w2 w1.heap.size 89 #[Ey Ew 0]:=ai.au st;replace M:=M.ae sk;replace F1:=E7 (F1.out.ae sk);replace F2:=E7 (F2.out.ae sk);replace Z:=Z.aI sk;clear st sk eW gi eM gj g8 fe gk ft g9 fd J I H E lu;obtain⟨cn,d9,bf,ci,cZ,ce,ah,dl,rfl⟩:=fl.ak;have cx:=E7 fl;clear fl;go_wp2_with fail
    refine(O1 _ w1.heap.size 89 zC).mono ?_;rintro e w3 ⟨gW,rfl,gd,st⟩;have sk:=bA w2 st;replace B:=bS B sk;replace M:=M.ae sk;replace bl:=bl.ae sk;replace F1:=E7 (F1.out.ae sk);replace F2:=E7 (F2.out.ae sk);replace cx:=E7 (cx.out.ae sk);replace Z:=Z.aI sk;clear st sk;obtain⟨eW,gi,eM,gj,g8,fe,gk,ft,g9,fd,J,I,H,E⟩:=M.dA;have lu:=M.lt;obtain⟨dt,cg,be,cN,bt,dk,b9,dc,rfl⟩:=gd.ak;have gn:=E7 gd;clear gd;have gD:w1.heap.size<w3.heap.size:=bl.lt;have gV:=B.size;clear O0 O1 KN;go_wp2_with fail
    refine(T _ w1.heap.size 89 _ _ zC (F1.out.af zw) (cx.out.af zw)).mono ?_;rintro e w4 ⟨rfl,st⟩;have sk:=bA w3 st;replace B:=bS B sk;have gr:ai w4 w3.heap.size 28 #[Ez cn,Ex d9 bf ci,Ez cZ,Ex ce ah dl]:=ai.au st;have gB:ai w4 (w3.heap.size+1) 28 #[Ez dt,Ex cg be cN,Ez bt,Ex dk b9 dc]:=ai.au st;replace M:=M.ae sk;replace bl:=bl.ae sk;replace F1:=E7 (F1.out.ae sk);replace F2:=E7 (F2.out.ae sk);replace cx:=E7 (cx.out.ae sk);replace gn:=E7 (gn.out.ae sk);replace Z:=Z.aI sk;clear st sk eW gi eM gj g8 fe gk ft g9 fd J I H E lu;obtain⟨eW,gi,eM,gj,g8,fe,gk,ft,g9,fd,J,I,H,E⟩:=M.dA;have lu:=M.lt;have gF:=gr.lt;obtain⟨gL,gN,gH,gM⟩:=gB.r3;have gE:=gB.lt
    by_cases h1:c1<=0
    .
     have Y:=K1 D6;subst Y;clear K1 K2 K3 gA T X N
     go_wp2
     go_returns
     exact⟨rfl,zh⟩
    .
     go_wp2_with fail
     refine(X _ w1.heap.size 89 _ _ zC (F1.out.af zw) (gn.out.af zw)).mono ?_;rintro e w5 ⟨rfl,st⟩;have sk:=bA w4 st;replace B:=bS B sk;replace M:=M.ae sk;replace bl:=bl.ae sk;replace gr:=gr.ae sk;replace gB:=gB.ae sk;replace F1:=E7 (F1.out.ae sk);replace F2:=E7 (F2.out.ae sk);replace cx:=E7 (cx.out.ae sk);replace gn:=E7 (gn.out.ae sk);replace Z:=Z.aI sk;clear st sk eW gi eM gj g8 fe gk ft g9 fd J I H E lu gF gL gN gH gM gE;obtain⟨eW,gi,eM,gj,g8,fe,gk,ft,g9,fd,J,I,H,E⟩:=M.dA;have lu:=M.lt;obtain⟨gI,gJ,gO,gG⟩:=gr.r3;have gF:=gr.lt;have gE:=gB.lt
     by_cases h2:¬c2<0
     .
      have Y:=K2 D6;subst Y;clear K1 K2 K3 gA T X N
      go_wp2
      go_returns
      exact⟨rfl,zh⟩
     .
      have gX:c2<0:=D6
      go_wp2_with fail
      refine(N _ w1.heap.size 89 _ _ zC (F2.out.af zw) (cx.out.af zw)).mono ?_;rintro e w6 ⟨rfl,st⟩;have sk:=bA w5 st;replace B:=bS B sk;replace M:=M.ae sk;replace bl:=bl.ae sk;replace gr:=gr.ae sk;replace gB:=gB.ae sk;replace F1:=E7 (F1.out.ae sk);replace F2:=E7 (F2.out.ae sk);replace cx:=E7 (cx.out.ae sk);replace gn:=E7 (gn.out.ae sk);replace Z:=Z.aI sk;clear st sk eW gi eM gj g8 fe gk ft g9 fd J I H E lu gI gJ gO gG gF gE
      by_cases h3:c3<=0
      .
       have Y:=K3 D6;subst Y;clear K1 K2 K3 gA T X N
       go_wp2
       go_returns
       exact⟨rfl,zh⟩
      .
       have Y:=gA D9 D6 D6 D6;subst Y;clear K1 K2 K3 gA T X N;go_wp2_with fail
       refine Eo (by simp[results,Tryz.results26,go_sem,]; rfl) rfl ?_;exact⟨rfl,zh⟩
theorem aF.eX {ao:Option Addr} (h:aF w (Ex ao n cap) l) {t:Nat} (ht:t<l.length):∃b o,ao=some ⟨b,o,none⟩/\b<w.heap.size/\w.cell? ⟨b,o+t,none⟩=some (Ey Ew (l.getD t 0)):=by
 obtain⟨H,E,e,_,I⟩:=h
 injection e with J N T
 subst J;obtain⟨b,o,e,M,hc⟩:=I (fun e=>by rw[e]at ht; cases ht);exact⟨b,o,e,M,hc t ht⟩
def qp (l:List Int) (x:Int):Nat->Bool
 | 0=>false
 | t+1=>qp l x t||(x==l.getD t 0)
theorem V_ (h:qp l x i=true):∀m,i<=m->qp l x m=true:=by
 intro m E
 induction m with
 | zero=>
      obtain rfl:i=0:=D6
      exact h
 | succ m ih=>
  rcases Er m i with g | g
  .
   obtain rfl:i=m+1:=D6
   exact h
  . unfold qp; rw[ih g]; rfl
theorem Bb (x:Int) (w:Ef) (h:aF w v l) (hl:l.length<=100000) :
  Ee Ed 130 #[v,Ey Ew x] w fun e w'=>∃i,e = Eh (Ey Ew i)/\decide (0<=i)=qp l x l.length/\zf w w':=by
 obtain⟨ao,cap,rfl⟩:=h.ak;have T:=E7 h;obtain⟨n,M⟩:∃n,l.length=n:=⟨_,rfl⟩;have HL:=E7 M;rw[M]at T hl|-;clear h M
 go_enter Tryz.func130,Tryz.ntmps130
 go_wp2_with fail
 go_loopw [8] (fun I wr=>∃t:Nat,t<=n/\I = Ey Ew t/\qp l x t=false/\Below w.heap.size w wr) (fun I _=>n-(intOf I).toNat)
 case atStart=>exact⟨0,by omega,rfl,rfl,zh⟩
 case round=>
  obtain⟨t,ht,rfl,hw,B⟩:=hrel
  rcases Er t n with tn | tn
  .
   have bl:decide ((t:Int)<(n:Int))=true:=E' D6;obtain⟨b,of,rfl,J,h0⟩:=T.out.eX (t:=t) (by have:=HL.out; omega);have Z:wr.cell? ⟨b,of+t,none⟩=some (Ey Ew (l.getD t 0)):=(B.cell (p:=⟨b,_,none⟩) J).trans h0;have E:(x==l.getD t 0)=true->qp l x n=true:=fun e=>V_ (i:=t+1) (by unfold qp; rw[e,Bool.or_true]) n D6;have H:(x==l.getD t 0)=false->qp l x (t+1)=false:=fun e=>by unfold qp; rw[hw,e]; rfl
   obtain⟨y,X⟩:∃y,l.getD t 0=y:=⟨_,rfl⟩;rw[X]at Z E H;clear h0 X
   cases hxy:(x==y)with
   | true=>
    have Y:=E hxy;clear E H
    go_wp2
    go_returns
    exact⟨_,rfl,by rw[Y]; simp,B⟩
   | false=>
    have N:=H hxy;clear E H
    go_wp2
    go_roundw
    case rel=>exact⟨t+1,by omega,by go_num,N,B⟩
    case measure=>simp[intOf]; omega
  .
   obtain rfl:t=n:=D6
   go_wp2
   go_returns
   exact⟨_,rfl,by rw[hw]; rfl,B⟩
theorem Ua (x:Int) (w:Ef) (h:aF w v l) (I:l.length<=100000) :
  Ee Ed 91 #[v,Ey Ew x] w fun e w'=>e = Eh (Ez (qp l x l.length))/\zf w w':=by
 have ix:=Bb x w h I;obtain⟨ao,cap,rfl⟩:=h.ak;clear h I;generalize qp l x l.length=L at *
 go_enter Tryz.func91,Tryz.ntmps91
 go_wp2_with fail
 refine ix.mono ?_;rintro e M ⟨i,rfl,H,E⟩;clear ix
 cases L with
 | true=>
  have J:0<=i:=by simpa using H
  go_wp2
  go_returns
  exact⟨rfl,E⟩
 | false=>
  have J:¬0<=i:=by simpa using H
  go_wp2
  go_returns
  exact⟨rfl,E⟩
def YM (l:List Int) (n:Int):Nat->Bool
 | 0=>true
 | t+1=>YM l n t&&decide (-1<=l.getD t 0/\l.getD t 0<n)
theorem Wt {n:Int} (h:YM l n i=false):∀m,i<=m->YM l n m=false:=by
 intro m E
 induction m with
 | zero=>
      obtain rfl:i=0:=D6
      exact h
 | succ m ih=>
  rcases Er m i with g | g
  .
   obtain rfl:i=m+1:=D6
   exact h
  . unfold YM; rw[ih g]; rfl
theorem Bc (k n:Int) (w:Ef) (E:ai w g tg #[Ey Ew n]) :
  Ee Ed 49 #[Ey Ew k,Ek (some ⟨g,0,none⟩)] w fun e w'=>e = Eh (Ez (!decide (-1<=k/\k<n)))/\zf w w':=by
 have H:=E.lt;have I:=E.q0;clear E
 by_cases h1:k < -1
 .
  rw[Ea D6]
  go_enter Tryz.func49,Tryz.ntmps49
  go_wp2
  go_returns
  exact⟨rfl,zh⟩
 .
  by_cases h2:n<=k
  .
   rw[Ea D6]
   go_enter Tryz.func49,Tryz.ntmps49
   go_wp2
   go_returns
   exact⟨rfl,zh⟩
  .
   rw[E' D6]
   go_enter Tryz.func49,Tryz.ntmps49
   go_wp2
   go_returns
   exact⟨rfl,zh⟩
theorem Be (N:Int) (w:Ef) (h:aF w v l) (Y:ai w g tg #[Ey Ew N]) (hl:l.length<=100000) :
  Ee Ed 89 #[v,.func (.func 49) #[] #[Ek (some ⟨g,0,none⟩)]] w fun e w'=>∃i,e = Eh (Ey Ew i)/\decide (0<=i) = !YM l N l.length/\zf w w':=by
 obtain⟨ao,cap,rfl⟩:=h.ak;have HC:=E7 h;obtain⟨n,X⟩:∃n,l.length=n:=⟨_,rfl⟩;have HL:=E7 X;rw[X]at HC hl|-;have Z:∀w',zf w w'->∀k,Ee Ed 49 #[Ey Ew k,Ek (some ⟨g,0,none⟩)] w' fun e w2=>e = Eh (Ez (!decide (-1<=k/\k<N)))/\zf w' w2:=fun w' s k=>Bc k N w' (Y.ae s);clear h X Y
 go_enter Tryz.func89,Tryz.ntmps89
 go_wp2_with fail
 go_loopw [8] (fun T wr=>∃t:Nat,t<=n/\T = Ey Ew t/\YM l N t=true/\Below w.heap.size w wr) (fun T _=>n-(intOf T).toNat)
 case atStart=>exact⟨0,by omega,rfl,rfl,zh⟩
 case round=>
  obtain⟨t,ht,rfl,hw,B⟩:=hrel
  rcases Er t n with tn | tn
  .
   have bl:decide ((t:Int)<(n:Int))=true:=E' D6;obtain⟨b,of,rfl,M,h0⟩:=HC.out.eX (t:=t) (by have:=HL.out; omega);have c0:wr.cell? ⟨b,of+t,none⟩=some (Ey Ew (l.getD t 0)):=(B.cell (p:=⟨b,_,none⟩) M).trans h0;have J:=fun w' (s:zf w w')=>Z w' s (l.getD t 0);have I:decide (-1<=l.getD t 0/\l.getD t 0<N)=false->YM l N n=false:=fun e=>Wt (i:=t+1) (by unfold YM; rw[e,Bool.and_false]) n D6;have E:decide (-1<=l.getD t 0/\l.getD t 0<N)=true->YM l N (t+1)=true:=fun e=>by unfold YM; rw[hw,e]; rfl
   obtain⟨s,hs⟩:∃s,decide (-1<=l.getD t 0/\l.getD t 0<N)=s:=⟨_,rfl⟩;rw[hs]at J I E;obtain⟨y,hy⟩:∃y,l.getD t 0=y:=⟨_,rfl⟩;rw[hy]at c0 J;clear h0 hy hs Z;go_wp2_with fail
   refine(J _ zh).mono ?_;rintro e w1 ⟨rfl,H⟩;have B1:Below w.heap.size w w1:=yI H;clear J H B c0
   cases s with
   | false=>
    have N0:=I rfl;clear I E;rw[show (!false)=true from rfl]
    go_wp2
    go_returns
    exact⟨_,rfl,by rw[N0]; simp,B1⟩
   | true=>
    have Y0:=E rfl;clear I E;rw[show (!true)=false from rfl]
    go_wp2
    go_roundw
    case rel=>exact⟨t+1,by omega,by go_num,Y0,B1⟩
    case measure=>simp[intOf]; omega
  .
   obtain rfl:t=n:=D6
   go_wp2
   go_returns
   exact⟨_,rfl,by rw[hw]; rfl,B⟩
theorem Ub (N:Int) (w:Ef) (h:aF w v l) (I:ai w g tg #[Ey Ew N]) (E:l.length<=100000) :
  Ee Ed 48 #[v,.func (.func 49) #[] #[Ek (some ⟨g,0,none⟩)]] w fun e w'=>e = Eh (Ez (!YM l N l.length))/\zf w w':=by
 have ix:=Be N w h I E;obtain⟨ao,cap,rfl⟩:=h.ak;clear h E I;generalize YM l N l.length=L at *
 go_enter Tryz.func48,Tryz.ntmps48
 go_wp2_with fail
 refine ix.mono ?_;rintro e T ⟨i,rfl,J,H⟩;clear ix
 cases L with
 | true=>
  have M:¬0<=i:=by simpa using J
  go_wp2
  go_returns
  exact⟨rfl,H⟩
 | false=>
  have M:0<=i:=by simpa using J
  go_wp2
  go_returns
  exact⟨rfl,H⟩
theorem YN {w:Rat} (hw:sz w 20) (E:sz s 20) (l:List Int) (out:Nat->Bool):∀n,sz (xu w s l out n) (20*n+2)
 | 0=>du
 | n+1=>by
  unfold xu;have h:=YN hw E l out n
  split
  . exact h.mono D6
  .
   split
   . exact(h.mul hw).mono D6
   . exact(h.mul E).mono D6
theorem Wu {w:Rat} (h:out i=true):xu w s l out (i+1)=xu w s l out i:=by
 show (if out i=true then _ else _)=_
 rw[E9 h]
theorem Ud {w:Rat} (h:out i=false) (E:0<=l.getD i 0):xu w s l out (i+1)=xu w s l out i*w:=by
 show (if out i=true then _ else _)=_
 rw[E_ (by rw[h]; decide),E9 E]
theorem Ue {w:Rat} (h:out i=false) (E:¬0<=l.getD i 0):xu w s l out (i+1)=xu w s l out i*s:=by
 show (if out i=true then _ else _)=_
 rw[E_ (by rw[h]; decide),E_ E]
theorem Z6 {h:Rat} (H:sz s 2) (E:sz h 2) (h0:h≠0):sz (yU s h) 20:=by
 unfold yU;exact((((du.sub H).add (H.mul E)).div E h0).mono D6)
theorem G2 {n:Int} {vo:Ei} {lo:List Int} (w:Ef) (hc:ai w gc tc #[Ey Ew 0]) (gX:FR w (Ej #[Ez ub1,Ex ub2 ub3 ub4,Ez ub5,Ex ub6 ub7 ub8]) s) (ss:sz s 2) (r0:1<=R) (r1:R<=65536) (a0:1<=A) (a1:A<=17592186044416) (n2:1<=n) (n1:n<=200) (hl:aF w vp l) (ho:aF w vo lo) (l0:l.length<=200) (l1:lo.length<=100000) :
  Ee Ed 51 #[Ek (some ⟨gc,0,none⟩),Ej #[Ez ua1,Ex ua2 ua3 ua4,Ez ua5,Ex ua6 ua7 ua8,Ey Ew R,Ey Ew A,Ez ub1,Ex ub2 ub3 ub4,Ez ub5,Ex ub6 ub7 ub8,Ez uc1,Ex uc2 uc3 uc4,Ez uc5,Ex uc6 uc7 uc8],vp,Ey Ew n,vo] w fun e w'=>∃v,e = Eh v/\FR w' v (xu (yU s (zF R A n)) s l (fun i=>qp lo i lo.length) l.length)/\zf w w':=by
 have sc:=(jJ r0 r1 a0 a1 (show 0<=n by omega) n1).1;have hp:=jX r0 a0 n2;have i8:zF R A n≠0:=Rat.ne_of_gt hp;have sw:=Z6 ss sc i8;have KC:∀w',Below w.heap.size w w'->ai w' gc tc #[Ey Ew 0]:=fun w' s=>hc.ae s;have CH:=fun(w':Ef) (s:Below w.heap.size w w')=>ZZ (ua1:=ua1) (ua2:=ua2) (ua3:=ua3) (ua4:=ua4) (ua5:=ua5) (ua6:=ua6) (ua7:=ua7) (ua8:=ua8) (ub1:=ub1) (ub2:=ub2) (ub3:=ub3) (ub4:=ub4) (ub5:=ub5) (ub6:=ub6) (ub7:=ub7) (ub8:=ub8) (uc1:=uc1) (uc2:=uc2) (uc3:=uc3) (uc4:=uc4) (uc5:=uc5) (uc6:=uc6) (uc7:=uc7) (uc8:=uc8) R A n w' (KC w' s) r0 r1 a0 a1 D6 n1;have O1:∀w',Below w.heap.size w w'->Ee Ed 66 #[Ek (some ⟨gc,0,none⟩),Ey Ew 1] w' fun e w2=>∃v,e = Eh v/\FR w2 v (1:Rat)/\zf w' w2:=fun w' s=>by have:=U1 1 w' (KC w' s) D8 D8; rw[Zd]at this; exact this
 have s1:sz (1:Rat) 2:=du;have CT:=fun(w':Ef) (s:zf w w') (x:Int)=>Ua x w' (ho.ae s) l1;have OS:=fun k=>YN (w:=yU s (zF R A n)) (s:=s) sw (ss.mono D6) l (fun i=>qp lo i lo.length) k;have OO:=fun k=>Wu (w:=yU s (zF R A n)) (s:=s) (l:=l) (out:=fun i=>qp lo i lo.length) (i:=k);have OW:=fun k=>Ud (w:=yU s (zF R A n)) (s:=s) (l:=l) (out:=fun i=>qp lo i lo.length) (i:=k);have OL:=fun k=>Ue (w:=yU s (zF R A n)) (s:=s) (l:=l) (out:=fun i=>qp lo i lo.length) (i:=k);have OZ:xu (yU s (zF R A n)) s l (fun i=>qp lo i lo.length) 0=1:=rfl;have eW:yU s (zF R A n)=(1-s+s*zF R A n) / zF R A n:=rfl;generalize hOF:xu (yU s (zF R A n)) s l (fun i=>qp lo i lo.length)=OF at *
 (try dsimp only at OO OW OL)
 generalize hWQ:yU s (zF R A n)=wq at *;generalize decide (zF R A n<1)=bl at *;generalize zF R A n=q at *;have Fb:=E7 gX;obtain⟨ao,cap,rfl⟩:=hl.ak;obtain⟨lO,iL,rfl⟩:=ho.ak;have HP:=E7 hl;obtain⟨N,hN⟩:∃m,l.length=m:=⟨_,rfl⟩;have HL:=E7 hN;rw[hN]at HP l0|-;clear r0 r1 a0 a1 n2 n1 hp gX hl ho hc hOF hWQ hN
 go_enter Tryz.func51,Tryz.ntmps51
 go_wp2_with (first
  | (
    (with_reducible show wpList _ _ _ (⟨some 19,_,_,_,_,_⟩::_) _ _)
    refine yg rfl 45 (.tmp 6) rfl w.heap.size rfl 45 #[Ez ua1,Ex ua2 ua3 ua4,Ez ua5,Ex ua6 ua7 ua8,Ey Ew R,Ey Ew A,Ez ub1,Ex ub2 ub3 ub4,Ez ub5,Ex ub6 ub7 ub8,Ez uc1,Ex uc2 uc3 uc4,Ez uc5,Ex uc6 uc7 uc8] _ zC Tryz.underlying45 rfl D7 ?_
    skip)
  )
 refine(CH _ zh).mono ?_;rintro e w1 ⟨ky,rfl,gi,st⟩;have B:=bA w st;have kp:=kB w st;have ou:ai w1 w.heap.size 45 #[Ez ua1,Ex ua2 ua3 ua4,Ez ua5,Ex ua6 ua7 ua8,Ey Ew R,Ey Ew A,Ez ub1,Ex ub2 ub3 ub4,Ez ub5,Ex ub6 ub7 ub8,Ez uc1,Ex uc2 uc3 uc4,Ez uc5,Ex uc6 uc7 uc8]:=ai.au st;have or:ai w1 (w.heap.size+1) 28 jN:=ai.au st;replace Fb:=E7 (Fb.out.af kp);clear kp;clear st;obtain⟨gk,gA,gj,gB,gt,gp,gC,gr,gz,gn,ft,fe,fd,eM⟩:=ou.dA;have lu:=ou.lt;have lr:=or.lt;obtain⟨gT,i6,ik,gW,gQ,gP,ij,gV,rfl⟩:=gi.ak;have H:=E7 gi;clear gi;have iK:w.heap.size+1<w1.heap.size:=or.lt;have iT:=B.size;go_wp2_with fail
 go_upto_region 2 with fail
 refine aj.c_ w w1 [.o w.heap.size 45 #[Ez ua1,Ex ua2 ua3 ua4,Ez ua5,Ex ua6 ua7 ua8,Ey Ew R,Ey Ew A,Ez ub1,Ex ub2 ub3 ub4,Ez ub5,Ex ub6 ub7 ub8,Ez uc1,Ex uc2 uc3 uc4,Ez uc5,Ex uc6 uc7 uc8],.o (w.heap.size+1) 28 #[Ez false,Ex none 0 0,Ez false,Ex none 0 0],.o w1.heap.size 28 #[Ez gT,Ex i6 ik gW,Ez gQ,Ex gP ij gV],.n 19 28 #[Ez false,Ex none 0 0,Ez false,Ex none 0 0] 20 [18] aj.v1] [4,7,12,13,15,18,19,20] [(4,xh),(7,xh),(12,xh),(13,xh),(15,UN 0),(18,xh),(19,jE)] [(4,bV (1)),(7,bV ((1-s))),(12,bV ((s*q))),(13,bV (((1-s)+(s*q)))),(15,cT ((((1-s)+(s*q)) / q)) 0),(18,bV ((((1-s)+(s*q)) / q)))] [(7,[(4,some 28)]),(13,[(7,some 31),(12,some 36)]),(15,[(13,some 37)]),(18,[(15,some 39)]),(20,[(18,some 42),(19,some 13)]),(21,[(4,some 28),(7,some 31),(12,some 36),(13,some 37),(15,some 39),(18,some 42),(19,some 13)])] [(19,[20]),(18,[20])] (by simp only[aV]; exact⟨zh,zw,zC,zC,zC,trivial⟩) (fun N0 iJ h9 Q' E hQ=> ?_);clear gk gA gj gB gt gp gC gr gz gn ft fe fd eM lu lr;clear iJ
 repeat refine aj.aG _ ?_
 refine aj.sC E (fun D v' W' h _=>O1 W' h.b) ?_;rintro _ ⟨iX,l9,iR,kw,lh,lN,lY,lf,rfl⟩;refine aj.dV rfl ?_;refine aj.aG 29 ?_;refine aj.aS 30 (fun _ _ _ h=>E8 h.e.1.q6 (E8 h.e.1.q7 (E8 h.e.1.q8 h.e.1.q9))) ?_;refine aj.sC E (fun D v' W' h hf=>VV W' (KC _ h.b) (hf (4,some 28) (.head _) rfl).2.2 (Fb.out.af h.k) s1 ss D6) ?_;rintro _ ⟨iM,lj,ml,ki,mh,mg,mj,lk,rfl⟩;refine aj.dV rfl ?_
 repeat refine aj.aG _ ?_
 refine aj.aS 34 (fun _ _ _ h=>E8 h.e.1.q6 (E8 h.e.1.q7 (E8 h.e.1.q8 h.e.1.q9))) ?_;refine aj.aS 35 (fun _ _ _ h=>h.e.2.2.1.r3) ?_;refine aj.sC E (fun D v' W' h _=>JW W' (KC _ h.b) (Fb.out.af h.k) (H.out.af h.k) ss sc D6) ?_;rintro _ ⟨k6,k8,lF,lZ,ji,iY,iW,m9,rfl⟩;refine aj.dV rfl ?_;refine aj.sC E (fun D v' W' h hf=>Gk W' (KC _ h.b) (hf (7,some 31) (.head _) rfl).2.2 (hf (12,some 36) (.tail _ (.head _)) rfl).2.2 (s1.sub ss) (ss.mul sc) D6) ?_;rintro _ ⟨m7,iS,ko,me,iO,lg,lQ,iV,rfl⟩;refine aj.dV rfl ?_;refine aj.aS 38 (fun _ _ _ h=>h.e.2.2.1.r3) ?_;refine aj.sC E (fun D v' W' h hf=>Ch W' (hf (13,some 37) (.head _) rfl).2.2 (H.out.af h.k) ((s1.sub ss).add (ss.mul sc)) sc D6 i8) ?_;rintro _ ⟨kx,iQ,iU,iN,ma,lP,l3,iZ,rfl⟩;refine aj.dV rfl ?_
 repeat refine aj.aG _ ?_
 refine aj.sC E (fun D v' W' h hf=>k_ W' (KC _ h.b) (hf (15,some 39) (.head _) rfl).2.2.get) ?_;rintro _ ⟨gK,gH,gL,gM,gN,gJ,gO,gI,rfl⟩;refine aj.dV rfl ?_;refine aj.sA E ?_;rintro _ ⟨p13,rfl⟩;refine aj.dV rfl ?_;refine aj.sN E ?_;refine aj.sE (fun _ v' w2 B jk hl _ ir hf=> ?_);simp only[xZ,qk,WX]at hl ir;obtain⟨ou,or,cx,fl,-⟩:=hl;obtain⟨jb,I⟩:N0<=p13/\ai w2 p13 28 #[Ez gK,Ex gH gL gM,Ez gN,Ex gJ gO gI]:=fl p13 rfl;clear fl;have J:Hid (FR w2 (Ej #[Ez gK,Ex gH gL gM,Ez gN,Ex gJ gO gI]) ((((1-s)+(s*q)) / q))):=(hf (18,some 42) (.tail _ (.tail _ (.tail _ (.tail _ (.tail _ (.head _)))))) rfl).2.2;replace Fb:=E7 (Fb.out.af jk);replace H:=E7 (H.out.af jk);clear hf jk;refine hQ _ _ ?_;clear hQ E Q' h9;rw[<- eW]at J;go_wp2_with fail
 refine(O1 _ zh).mono ?_;rintro e w3 ⟨lI,rfl,g8,st⟩;have sk:=bA w2 st;replace B:=bS B sk;replace ou:=ou.ae sk;replace or:=or.ae sk;replace cx:=cx.ae sk;replace I:=I.ae sk;replace Fb:=E7 (Fb.out.ae sk);replace H:=E7 (H.out.ae sk);replace J:=E7 (J.out.ae sk);clear st sk;obtain⟨iE,iB,iu,iy,iG,iI,it,iA,rfl⟩:=g8.ak;have ip:=E7 g8;clear g8;have iz:p13<w3.heap.size:=I.lt;have lM:=B.size;go_wp2_with fail
 have i5:Hid (FR _ (Ej #[Ez iE,Ex iB iu iy,Ez iG,Ex iI it iA]) (OF 0)):=E7 (by rw[OZ]; exact ip.out)
 go_loopw [47] (fun sl0 wr=>∃ (i:Nat) (y1:Bool) (y2:Option Addr) (y3 y4:Nat) (y5:Bool) (y6:Option Addr) (y7 y8:Nat),i<=N/\sl0 = Ey Ew i/\ai wr w3.heap.size 28 #[Ez y1,Ex y2 y3 y4,Ez y5,Ex y6 y7 y8]/\FR wr (Ej #[Ez y1,Ex y2 y3 y4,Ez y5,Ex y6 y7 y8]) (OF i)/\ai wr w.heap.size 45 #[Ez ua1,Ex ua2 ua3 ua4,Ez ua5,Ex ua6 ua7 ua8,Ey Ew R,Ey Ew A,Ez ub1,Ex ub2 ub3 ub4,Ez ub5,Ex ub6 ub7 ub8,Ez uc1,Ex uc2 uc3 uc4,Ez uc5,Ex uc6 uc7 uc8]/\ai wr (w.heap.size+1) 28 jN/\ai wr w1.heap.size 28 #[Ez gT,Ex i6 ik gW,Ez gQ,Ex gP ij gV]/\ai wr (p13) 28 #[Ez gK,Ex gH gL gM,Ez gN,Ex gJ gO gI]/\Below w.heap.size w wr/\av w3 wr) (fun sl0 _=>N-(intOf sl0).toNat)
 case atStart=>exact⟨0,_,_,_,_,_,_,_,_,by omega,rfl,zC,i5.out.af zw,zC,zC,zC,zC,zh,zw⟩
 case round=>
  clear i5 ip;clear ou or cx I;clear B;obtain⟨i,y1,y2,y3,y4,y5,y6,y7,y8,hi,rfl,M,fy,ou,or,cx,I,B,kk⟩:=hrel;replace Fb:=E7 (Fb.out.af kk);replace H:=E7 (H.out.af kk);replace J:=E7 (J.out.af kk);have Fy:=E7 fy;clear fy;have iq:=OS i;have lu:=ou.lt;obtain⟨gZ,ig,i7,gY,fr,lr⟩:=or.s3;obtain⟨Z,X,Y,T⟩:=M.r3;have cy:=M.lt
  rcases Er i N with i4 | i4
  .
   have lG:decide ((i:Int)<(N:Int))=true:=E' D6;obtain⟨b,of,rfl,iv,h0⟩:=HP.out.eX (t:=i) (by have:=HL.out; omega);have c0:wr.cell? ⟨b,of+i,none⟩=some (Ey Ew (l.getD i 0)):=(B.cell (p:=⟨b,_,none⟩) iv).trans h0;have ct:=fun(w':Ef) (s:Below w.heap.size w w')=>CT w' s (i:Int);have oo:=OO i;have ow:=OW i;have ol:=OL i;generalize qp lo (i:Int) lo.length=m at ct oo ow ol;generalize l.getD i 0=y at c0 ow ol;clear h0 CT OO OW OL OS;go_wp2_with fail
   refine(ct _ zh).mono ?_;rintro e w4 ⟨rfl,st⟩;have sk:=bA wr st;replace B:=bS B sk;replace ou:=ou.ae sk;replace or:=or.ae sk;replace cx:=cx.ae sk;replace I:=I.ae sk;replace M:=M.ae sk;replace Fb:=E7 (Fb.out.ae sk);replace H:=E7 (H.out.ae sk);replace J:=E7 (J.out.ae sk);replace Fy:=E7 (Fy.out.ae sk);replace kk:=kk.aI sk;clear st sk lu gZ ig i7 gY fr lr Z X Y T cy;obtain⟨gk,gA,gj,gB,gt,gp,gC,gr,gz,gn,ft,fe,fd,eM⟩:=ou.dA;have lu:=ou.lt;have lr:=or.lt;obtain⟨gD,gF,gE,gG⟩:=I.r3;have gR:=I.lt;obtain⟨Z,X,Y,T⟩:=M.r3;have cy:=M.lt
   cases m with
   | true=>
    have e0:=oo rfl;clear oo ow ol c0;go_wp2_with fail
    go_roundw
    case rel=>exact⟨i+1,_,_,_,_,_,_,_,_,by omega,by go_num,zC,(by rw[e0]; exact Fy.out.af zw),zC,zC,zC,zC,zh,kk.trans zw⟩
    case measure=>simp[intOf]; omega
   | false=>
    by_cases h0:0<=y
    .
     have e0:=ow rfl D6;clear oo ow ol;go_wp2_with fail
     refine(JW _ (KC _ zh) (Fy.out.af zw) (J.out.af zw) iq sw D6).mono ?_;rintro e w5 ⟨lW,rfl,gd,iF⟩;have st:zf _ w5:=iF;have sk:=bA w4 st;replace B:=bS B sk;replace ou:=ou.ae sk;replace or:=or.ae sk;replace cx:=cx.ae sk;replace I:=I.ae sk;replace M:=M.ae sk;replace Fb:=E7 (Fb.out.ae sk);replace H:=E7 (H.out.ae sk);replace J:=E7 (J.out.ae sk);replace Fy:=E7 (Fy.out.ae sk);replace kk:=kk.aI sk;clear st sk gk gA gj gB gt gp gC gr gz gn ft fe fd eM lu lr gD gF gE gG gR Z X Y T cy;obtain⟨Z,X,Y,T,iH,cy⟩:=M.s3;obtain⟨lX,l8,lK,lC,lH,ln,lE,iP,rfl⟩:=gd.ak;have iC:=E7 gd;clear gd;go_wp2_with fail
     go_roundw
     case rel=>exact⟨i+1,_,_,_,_,_,_,_,_,by omega,by go_num,zC,(by rw[e0]; exact iC.out.af zw),zC,zC,zC,zC,zh,kk.trans zw⟩
     case measure=>simp[intOf]; omega
    .
     have e0:=ol rfl D6;clear oo ow ol;go_wp2_with fail
     refine(JW _ (KC _ zh) (Fy.out.af zw) (Fb.out.af zw) iq ss D6).mono ?_;rintro e w5 ⟨mf,rfl,g9,st⟩;have sk:=bA w4 st;replace B:=bS B sk;replace ou:=ou.ae sk;replace or:=or.ae sk;replace cx:=cx.ae sk;replace I:=I.ae sk;replace M:=M.ae sk;replace Fb:=E7 (Fb.out.ae sk);replace H:=E7 (H.out.ae sk);replace J:=E7 (J.out.ae sk);replace Fy:=E7 (Fy.out.ae sk);replace kk:=kk.aI sk;clear st sk gk gA gj gB gt gp gC gr gz gn ft fe fd eM lu lr gD gF gE gG gR Z X Y T cy;obtain⟨Z,X,Y,T,iH,cy⟩:=M.s3;obtain⟨m8,jd,mb,l6,lw,lJ,ks,k7,rfl⟩:=g9.ak;have iD:=E7 g9;clear g9;go_wp2_with fail
     go_roundw
     case rel=>exact⟨i+1,_,_,_,_,_,_,_,_,by omega,by go_num,zC,(by rw[e0]; exact iD.out.af zw),zC,zC,zC,zC,zh,kk.trans zw⟩
     case measure=>simp[intOf]; omega
  .
   obtain rfl:i=N:=D6
   go_wp2_with fail
   refine Eo (by simp[results,Tryz.results51,go_sem,lu,gZ,ig,i7,gY,fr,lr,Z,X,Y,T,cy]; rfl) rfl ?_;exact⟨_,rfl,Fy.out.af zw,zh⟩
def qh (K:Bool) (N:Nat) (ok:Bool) (n:Int) (E:Bool):Int:=if K=false then 8 else if 200<N then 4 else if(n<1\/200<n)\/ok=false then 2 else if E=false then 2 else 0
def Cy (e:Int) (r:Rat):Option Rat:=if e=0 then some r else none
theorem G4 {n:Int} (w:Ef) (b0:FB w (Ej #[Ez ua1,Ex ua2 ua3 ua4,Ez ua5,Ex ua6 ua7 ua8]) (O 0)) (b1:FB w (Ej #[Ez ub1,Ex ub2 ub3 ub4,Ez ub5,Ex ub6 ub7 ub8]) (O 1)) (b2:FB w (Ej #[Ez uc1,Ex uc2 uc3 uc4,Ez uc5,Ex uc6 uc7 uc8]) (O 2)) (fw:kM O (yh ua3 ub3 uc3 uc3) (yh ua7 ub7 uc7 uc7) 3) (hl:aF w vp l) :
  Ee Ed 19 #[Ej #[Ez ua1,Ex ua2 ua3 ua4,Ez ua5,Ex ua6 ua7 ua8,Ey Ew R,Ey Ew A,Ez ub1,Ex ub2 ub3 ub4,Ez ub5,Ex ub6 ub7 ub8,Ez uc1,Ex uc2 uc3 uc4,Ez uc5,Ex uc6 uc7 uc8],vp,Ey Ew n] w fun e w'=>∃v,e = Eh (Ev #[v,Ey Ew (qh (yu O (yh ua3 ub3 uc3 uc3) (yh ua7 ub7 uc7 uc7) R A ua1) l.length (YM l n l.length) n (decide (zF R A n<1)))])/\FO w' v (Cy (qh (yu O (yh ua3 ub3 uc3 uc3) (yh ua7 ub7 uc7 uc7) R A ua1) l.length (YM l n l.length) n (decide (zF R A n<1))) (xu (yU ((O 1).getD 0) (zF R A n)) ((O 1).getD 0) l YF l.length))/\zf w w':=by
 have CK:∀w',av w w'->Ee Ed 26 #[Ej #[Ez ua1,Ex ua2 ua3 ua4,Ez ua5,Ex ua6 ua7 ua8,Ey Ew R,Ey Ew A,Ez ub1,Ex ub2 ub3 ub4,Ez ub5,Ex ub6 ub7 ub8,Ez uc1,Ex uc2 uc3 uc4,Ez uc5,Ex uc6 uc7 uc8]] w' fun e w2=>e = Eh (Ey Ew (Zf (yu O (yh ua3 ub3 uc3 uc3) (yh ua7 ub7 uc7 uc7) R A ua1)))/\zf w' w2:=fun w' k=>Kc w' (b0.af k) (b1.af k) (b2.af k) fw
 have RK:yu O (yh ua3 ub3 uc3 uc3) (yh ua7 ub7 uc7 uc7) R A ua1=true->(1<=R/\R<=65536/\1<=A/\A<=17592186044416)/\∃r,O 1=some r/\(O 1).getD 0=r/\sz r 2:=fun h=>by
  obtain⟨hL,hR,_⟩:=zT.1 h;obtain⟨r1,e1,z1⟩:=yZ hL fw 1 D6;exact⟨hR,r1,e1,by rw[e1]; rfl,z1⟩
 have CH:(1<=R/\R<=65536/\1<=A/\A<=17592186044416)->1<=n->n<=200->∀w' g,ai w' g 89 #[Ey Ew 0]->Ee Ed 50 #[Ek (some ⟨g,0,none⟩),Ej #[Ez ua1,Ex ua2 ua3 ua4,Ez ua5,Ex ua6 ua7 ua8,Ey Ew R,Ey Ew A,Ez ub1,Ex ub2 ub3 ub4,Ez ub5,Ex ub6 ub7 ub8,Ez uc1,Ex uc2 uc3 uc4,Ez uc5,Ex uc6 uc7 uc8],Ey Ew n] w' fun e w2=>∃v,e = Eh (Ev #[v,Ez (decide (zF R A n<1))])/\FR w2 v (zF R A n)/\zf w' w2:=fun hr n0 n1 w' g hb=>ZZ (ua1:=ua1) (ua2:=ua2) (ua3:=ua3) (ua4:=ua4) (ua5:=ua5) (ua6:=ua6) (ua7:=ua7) (ua8:=ua8) (ub1:=ub1) (ub2:=ub2) (ub3:=ub3) (ub4:=ub4) (ub5:=ub5) (ub6:=ub6) (ub7:=ub7) (ub8:=ub8) (uc1:=uc1) (uc2:=uc2) (uc3:=uc3) (uc4:=uc4) (uc5:=uc5) (uc6:=uc6) (uc7:=uc7) (uc8:=uc8) R A n w' hb hr.1 hr.2.1 hr.2.2.1 hr.2.2.2 D6 n1;have OC:=fun(w':Ef) (g:Nat) (s:zf w w') (hN:l.length<=200) (hb:ai w' g 3 #[Ey Ew n])=>Ub n w' (hl.ae s) hb D6
 have OD:(1<=R/\R<=65536/\1<=A/\A<=17592186044416)->1<=n->n<=200->l.length<=200->∀r,O 1=some r->(O 1).getD 0=r->sz r 2->∀w' g,av w w'->zf w w'->ai w' g 89 #[Ey Ew 0]->Ee Ed 51 #[Ek (some ⟨g,0,none⟩),Ej #[Ez ua1,Ex ua2 ua3 ua4,Ez ua5,Ex ua6 ua7 ua8,Ey Ew R,Ey Ew A,Ez ub1,Ex ub2 ub3 ub4,Ez ub5,Ex ub6 ub7 ub8,Ez uc1,Ex uc2 uc3 uc4,Ez uc5,Ex uc6 uc7 uc8],vp,Ey Ew n,Ex none 0 0] w' fun e w2=>∃v,e = Eh v/\FR w2 v (xu (yU ((O 1).getD 0) (zF R A n)) ((O 1).getD 0) l YF l.length)/\zf w' w2:=fun hr n0 n1 hN r e1 e2 z w' g k s hb=>by
  rw[e2];exact G2 w' hb (by have:=b1.af k; rw[e1]at this; exact this) z hr.1 hr.2.1 hr.2.2.1 hr.2.2.2 n0 n1 (hl.ae s) (aF.nil w') hN D9
 obtain⟨ao,cap,rfl⟩:=hl.ak;generalize hK:yu O (yh ua3 ub3 uc3 uc3) (yh ua7 ub7 uc7 uc7) R A ua1=K at *;generalize YM l n l.length=okb at *;generalize decide (zF R A n<1)=less at *;generalize xu (yU ((O 1).getD 0) (zF R A n)) ((O 1).getD 0) l YF l.length=Q at *;generalize zF R A n=cq at *;obtain⟨N,hN⟩:∃m,l.length=m:=⟨_,rfl⟩;rw[hN]at OC OD|-;clear hl b0 b1 b2 fw hK hN
 cases K with
 | false=>
  have eE:qh false N okb n less=8:=by simp[qh]
  rw[eE];clear RK CH OC OD;have eA:Zf false=8:=rfl;rw[eA]at CK
  show Ee _ _ _ _ fun e w'=>∃v,e=_/\FO w' v none/\_
  go_enter Tryz.func19,Tryz.ntmps19
  have H:=av.refl w;go_wp2_with fail
  refine(CK _ (H.trans zw)).mono ?_;rintro e J ⟨rfl,cy⟩;have st:zf _ J:=cy;have B:=bA w st;have kp:=kB w st;replace H:=H.trans kp;have I:ai J w.heap.size 45 #[Ez ua1,Ex ua2 ua3 ua4,Ez ua5,Ex ua6 ua7 ua8,Ey Ew R,Ey Ew A,Ez ub1,Ex ub2 ub3 ub4,Ez ub5,Ex ub6 ub7 ub8,Ez uc1,Ex uc2 uc3 uc4,Ez uc5,Ex uc6 uc7 uc8]:=ai.au st;have E:ai J (w.heap.size+1) 3 #[Ey Ew n]:=ai.au st;have or:ai J (w.heap.size+1+1) 28 jN:=ai.au st;clear kp;clear st;have lu:=I.lt;have Y:=E.lt;obtain⟨X,bl,Z,T,fr,lr⟩:=or.s3;dsimp only; repeat' (first | go_values | go_skip | go_guarded | go_step | go_upon)
  refine Eo (by simp[results,Tryz.results19,go_sem,lu,Y,X,bl,Z,T,fr,lr]; rfl) rfl ?_;exact⟨_,rfl,rfl,zh⟩
 | true=>
  have eA:Zf true=0:=rfl;rw[eA]at CK;obtain⟨hR,r1,e1,e2,z1⟩:=RK rfl;clear RK
  rcases(show 200<N\/(¬200<N/\n<1)\/(¬200<N/\¬n<1/\200<n)\/(¬200<N/\¬n<1/\¬200<n) by omega)with g1 | ⟨g1,g2⟩ | ⟨g1,g2,g3⟩ | ⟨g1,g2,g3⟩
  .
   have eE:qh true N okb n less=4:=by simp[qh,g1]
   have gJ:decide ((200:Int)<(N:Int))=true:=E' D6;rw[eE];clear CH OC OD
   show Ee _ _ _ _ fun e w'=>∃v,e=_/\FO w' v none/\_
   go_enter Tryz.func19,Tryz.ntmps19
   have H:=av.refl w;go_wp2_with fail
   refine(CK _ (H.trans zw)).mono ?_;rintro e J ⟨rfl,cy⟩;have st:zf _ J:=cy;have B:=bA w st;have kp:=kB w st;replace H:=H.trans kp;have I:ai J w.heap.size 45 #[Ez ua1,Ex ua2 ua3 ua4,Ez ua5,Ex ua6 ua7 ua8,Ey Ew R,Ey Ew A,Ez ub1,Ex ub2 ub3 ub4,Ez ub5,Ex ub6 ub7 ub8,Ez uc1,Ex uc2 uc3 uc4,Ez uc5,Ex uc6 uc7 uc8]:=ai.au st;have E:ai J (w.heap.size+1) 3 #[Ey Ew n]:=ai.au st;have or:ai J (w.heap.size+1+1) 28 jN:=ai.au st;clear kp;clear st;have lu:=I.lt;have Y:=E.lt;obtain⟨X,bl,Z,T,fr,lr⟩:=or.s3;dsimp only; repeat' (first | go_values | go_skip | go_guarded | go_step | go_upon)
   refine Eo (by simp[results,Tryz.results19,go_sem,lu,Y,X,bl,Z,T,fr,lr]; rfl) rfl ?_;exact⟨_,rfl,rfl,zh⟩
  focus
   have eE:qh true N okb n less=2:=by simp[qh,g1,g2]
  rotate_left
  focus
   have eE:qh true N okb n less=2:=by simp[qh,g1,g2,g3]
  rotate_left
  .
   have gJ:decide ((200:Int)<(N:Int))=false:=Ea D6;replace CH:=CH hR D6 D6;replace OD:=OD hR D6 D6 D6 r1 e1 e2 z1;clear hR e1 e2 z1
   cases okb with
   | false=>
    have gT:∀ (w':Ef) (g:Nat) (s:zf w w') (hN:N<=200) (hb:ai w' g 3 #[Ey Ew n]),_:=OC;have eE:qh true N false n less=2:=by simp[qh,g1]
    rw[eE];clear CH OD gT
    show Ee _ _ _ _ fun e w'=>∃v,e=_/\FO w' v none/\_
    have eN:(!false)=true:=rfl;rw[eN]at OC
    go_enter Tryz.func19,Tryz.ntmps19
    have H:=av.refl w;go_wp2_with fail
    refine(CK _ (H.trans zw)).mono ?_;rintro e J ⟨rfl,cy⟩;have st:zf _ J:=cy;have B:=bA w st;have kp:=kB w st;replace H:=H.trans kp;have I:ai J w.heap.size 45 #[Ez ua1,Ex ua2 ua3 ua4,Ez ua5,Ex ua6 ua7 ua8,Ey Ew R,Ey Ew A,Ez ub1,Ex ub2 ub3 ub4,Ez ub5,Ex ub6 ub7 ub8,Ez uc1,Ex uc2 uc3 uc4,Ez uc5,Ex uc6 uc7 uc8]:=ai.au st;have E:ai J (w.heap.size+1) 3 #[Ey Ew n]:=ai.au st;have or:ai J (w.heap.size+1+1) 28 jN:=ai.au st;clear kp;clear st;have lu:=I.lt;have M:=E.q0;have Y:=E.lt;have lr:=or.lt;go_wp2_with fail
    refine(OC _ _ zh D6 zC).mono ?_;rintro e w2 ⟨rfl,gz⟩;have st:zf _ w2:=gz;have sk:=bA J st;replace B:=bS B sk;replace I:=I.ae sk;replace E:=E.ae sk;replace or:=or.ae sk;replace H:=H.aI sk;clear st sk lu M Y lr;have lu:=I.lt;have Y:=E.lt;obtain⟨X,bl,Z,T,fr,lr⟩:=or.s3;dsimp only; repeat' (first | go_values | go_skip | go_guarded | go_step | go_upon)
    refine Eo (by simp[results,Tryz.results19,go_sem,lu,Y,X,bl,Z,T,fr,lr]; rfl) rfl ?_;exact⟨_,rfl,rfl,zh⟩
   | true=>
    have eN:(!true)=false:=rfl;rw[eN]at OC
    cases less with
    | false=>
     have eE:qh true N true n false=2:=by simp[qh,g1,g2,g3]
     rw[eE];clear OD
     show Ee _ _ _ _ fun e w'=>∃v,e=_/\FO w' v none/\_
     go_enter Tryz.func19,Tryz.ntmps19
     have H:=av.refl w;go_wp2_with fail
     refine(CK _ (H.trans zw)).mono ?_;rintro e J ⟨rfl,cy⟩;have st:zf _ J:=cy;have B:=bA w st;have kp:=kB w st;replace H:=H.trans kp;have I:ai J w.heap.size 45 #[Ez ua1,Ex ua2 ua3 ua4,Ez ua5,Ex ua6 ua7 ua8,Ey Ew R,Ey Ew A,Ez ub1,Ex ub2 ub3 ub4,Ez ub5,Ex ub6 ub7 ub8,Ez uc1,Ex uc2 uc3 uc4,Ez uc5,Ex uc6 uc7 uc8]:=ai.au st;have E:ai J (w.heap.size+1) 3 #[Ey Ew n]:=ai.au st;have or:ai J (w.heap.size+1+1) 28 jN:=ai.au st;clear kp;clear st;have lu:=I.lt;have M:=E.q0;have Y:=E.lt;have lr:=or.lt;go_wp2_with fail
     refine(OC _ _ zh D6 zC).mono ?_;rintro e w2 ⟨rfl,gz⟩;have st:zf _ w2:=gz;have sk:=bA J st;replace B:=bS B sk;replace I:=I.ae sk;replace E:=E.ae sk;replace or:=or.ae sk;replace H:=H.aI sk;clear st sk lu M Y lr;obtain⟨g9,gp,ft,gr,gk,gi,gt,gj,gn,gd,fe,fd,eW,eM⟩:=I.dA;have lu:=I.lt;have M:=E.q0;have Y:=E.lt;have lr:=or.lt;have gM:w.heap.size+1+1<w2.heap.size:=or.lt;have gR:=B.size;go_wp2_with fail
     refine(CH _ w2.heap.size zC).mono ?_;rintro e w3 ⟨gQ,rfl,cx,gN⟩;have st:zf _ w3:=gN;have sk:=bA w2 st;replace B:=bS B sk;have fl:ai w3 w2.heap.size 89 #[Ey Ew 0]:=ai.au st;replace I:=I.ae sk;replace E:=E.ae sk;replace or:=or.ae sk;replace H:=H.aI sk;clear st sk g9 gp ft gr gk gi gt gj gn gd fe fd eW eM lu M Y lr;have lu:=I.lt;have Y:=E.lt;obtain⟨X,bl,Z,T,fr,lr⟩:=or.s3;obtain⟨gE,gH,gL,gG,gD,gC,gK,gF,rfl⟩:=cx.ak;have gB:=E7 cx;clear cx;have gA:w2.heap.size<w3.heap.size:=fl.lt;have gV:=B.size;dsimp only; repeat' (first | go_values | go_skip | go_guarded | go_step | go_upon)
     refine Eo (by simp[results,Tryz.results19,go_sem,lu,Y,X,bl,Z,T,fr,lr]; rfl) rfl ?_;exact⟨_,rfl,rfl,zh⟩
    | true=>
     have eE:qh true N true n true=0:=by simp[qh,g1,g2,g3]
     rw[eE]
     show Ee _ _ _ _ fun e w'=>∃v,e=_/\FO w' v (some Q)/\_
     go_enter Tryz.func19,Tryz.ntmps19
     have H:=av.refl w;go_wp2_with fail
     refine(CK _ (H.trans zw)).mono ?_;rintro e J ⟨rfl,cy⟩;have st:zf _ J:=cy;have B:=bA w st;have kp:=kB w st;replace H:=H.trans kp;have I:ai J w.heap.size 45 #[Ez ua1,Ex ua2 ua3 ua4,Ez ua5,Ex ua6 ua7 ua8,Ey Ew R,Ey Ew A,Ez ub1,Ex ub2 ub3 ub4,Ez ub5,Ex ub6 ub7 ub8,Ez uc1,Ex uc2 uc3 uc4,Ez uc5,Ex uc6 uc7 uc8]:=ai.au st;have E:ai J (w.heap.size+1) 3 #[Ey Ew n]:=ai.au st;have or:ai J (w.heap.size+1+1) 28 jN:=ai.au st;clear kp;clear st;have lu:=I.lt;have M:=E.q0;have Y:=E.lt;have lr:=or.lt;go_wp2_with fail
     refine(OC _ _ zh D6 zC).mono ?_;rintro e w2 ⟨rfl,st⟩;have sk:=bA J st;replace B:=bS B sk;replace I:=I.ae sk;replace E:=E.ae sk;replace or:=or.ae sk;replace H:=H.aI sk;clear st sk lu M Y lr;obtain⟨g9,gp,ft,gr,gk,gi,gt,gj,gn,gd,fe,fd,eW,eM⟩:=I.dA;have lu:=I.lt;have M:=E.q0;have Y:=E.lt;have lr:=or.lt;have gM:w.heap.size+1+1<w2.heap.size:=or.lt;have gR:=B.size;go_wp2_with fail
     refine(CH _ w2.heap.size zC).mono ?_;rintro e w3 ⟨gQ,rfl,cx,st⟩;have sk:=bA w2 st;replace B:=bS B sk;have fl:ai w3 w2.heap.size 89 #[Ey Ew 0]:=ai.au st;replace I:=I.ae sk;replace E:=E.ae sk;replace or:=or.ae sk;replace H:=H.aI sk;clear st sk g9 gp ft gr gk gi gt gj gn gd fe fd eW eM lu M Y lr;obtain⟨g9,gp,ft,gr,gk,gi,gt,gj,gn,gd,fe,fd,eW,eM⟩:=I.dA;have lu:=I.lt;have M:=E.q0;have Y:=E.lt;have lr:=or.lt;obtain⟨gE,gH,gL,gG,gD,gC,gK,gF,rfl⟩:=cx.ak;have gB:=E7 cx;clear cx;have gA:w2.heap.size<w3.heap.size:=fl.lt;have gV:=B.size;go_wp2_with fail
     refine(OD _ w2.heap.size (H.trans zw) zh zC).mono ?_;rintro e w4 ⟨i8,rfl,g8,st⟩;have sk:=bA w3 st;replace B:=bS B sk;have gW:ai w4 w3.heap.size 28 #[Ez gE,Ex gH gL gG,Ez gD,Ex gC gK gF]:=ai.au st;replace I:=I.ae sk;replace E:=E.ae sk;replace or:=or.ae sk;replace fl:=fl.ae sk;replace gB:=E7 (gB.out.ae sk);replace H:=H.aI sk;clear st sk g9 gp ft gr gk gi gt gj gn gd fe fd eW eM lu M Y lr;have lu:=I.lt;have Y:=E.lt;obtain⟨X,bl,Z,T,fr,lr⟩:=or.s3;have gI:=fl.q0;have gP:=fl.lt;obtain⟨i7,i6,h9,i4,ig,ij,gZ,i5,rfl⟩:=g8.ak;have gX:=E7 g8;clear g8;have gO:w3.heap.size<w4.heap.size:=gW.lt;have gY:=B.size;go_wp2_with fail
     refine Eo (by simp[results,Tryz.results19,go_sem,lu,Y,X,bl,Z,T,fr,lr,gI,gP]; rfl) rfl ?_;exact⟨_,rfl,gX.out.af zw,zh⟩
  all_goals
   have gJ:decide ((200:Int)<(N:Int))=false:=Ea D6;rw[eE];clear CH OC OD
   show Ee _ _ _ _ fun e w'=>∃v,e=_/\FO w' v none/\_
   go_enter Tryz.func19,Tryz.ntmps19
   have H:=av.refl w;go_wp2_with fail
   refine(CK _ (H.trans zw)).mono ?_;rintro e J ⟨rfl,st⟩;have B:=bA w st;have kp:=kB w st;replace H:=H.trans kp;have I:ai J w.heap.size 45 #[Ez ua1,Ex ua2 ua3 ua4,Ez ua5,Ex ua6 ua7 ua8,Ey Ew R,Ey Ew A,Ez ub1,Ex ub2 ub3 ub4,Ez ub5,Ex ub6 ub7 ub8,Ez uc1,Ex uc2 uc3 uc4,Ez uc5,Ex uc6 uc7 uc8]:=ai.au st;have E:ai J (w.heap.size+1) 3 #[Ey Ew n]:=ai.au st;have or:ai J (w.heap.size+1+1) 28 jN:=ai.au st;clear kp;clear st;have lu:=I.lt;have M:=E.q0;have Y:=E.lt;obtain⟨X,bl,Z,T,fr,lr⟩:=or.s3;dsimp only; repeat' (first | go_values | go_skip | go_guarded | go_step | go_upon)
   refine Eo (by simp[results,Tryz.results19,go_sem,lu,M,Y,X,bl,Z,T,fr,lr]; rfl) rfl ?_;exact⟨_,rfl,rfl,zh⟩
theorem cF.af {o:Option (Nat->Rat)} (h:cF w v o) (k:av w w'):cF w' v o:=by
 cases o with
 | none=>exact h
 | some t=>exact bY.af h k
theorem cF.ak {o:Option (Nat->Rat)} (h:cF w v o):∃cn d9 bf ci cZ ce ah dl dt cg be cN bt dk b9 dc em ey br dy ek ed bi er eS f7 bg dx f8 ec bh dP,v = Ej #[Ez cn,Ex d9 bf ci,Ez cZ,Ex ce ah dl,Ez dt,Ex cg be cN,Ez bt,Ex dk b9 dc,Ez em,Ex ey br dy,Ez ek,Ex ed bi er,Ez eS,Ex f7 bg dx,Ez f8,Ex ec bh dP]:=by
 cases o with
 | none=>exact⟨_,_,_,_,_,_,_,_,_,_,_,_,_,_,_,_,_,_,_,_,_,_,_,_,_,_,_,_,_,_,_,_,h⟩
 | some t=>obtain⟨cn,d9,bf,ci,cZ,ce,ah,dl,dt,cg,be,cN,bt,dk,b9,dc,em,ey,br,dy,ek,ed,bi,er,eS,f7,bg,dx,f8,ec,bh,dP,rfl,_⟩:=h; exact⟨cn,d9,bf,ci,cZ,ce,ah,dl,dt,cg,be,cN,bt,dk,b9,dc,em,ey,br,dy,ek,ed,bi,er,eS,f7,bg,dx,f8,ec,bh,dP,rfl⟩
theorem FO.ak (h:FO w v o):∃a s n c b t m d,v = Ej #[Ez a,Ex s n c,Ez b,Ex t m d]:=by
 cases o with
 | none=>exact⟨_,_,_,_,_,_,_,_,h⟩
 | some r=>exact FR.ak h
theorem FR.eZ {a b c d:Ei} (h:FR w (Ej #[a,b,c,d]) r):eO w r.num r.den a b c d/\fits r.num/\fits (r.den:Int):=by
 have f:=FR.fit h;obtain⟨a2,I,a4,a6,J,a8,e,H,E,_⟩:=FR.bU h;simp only[Value.agg.injEq,Array.mk.injEq,List.cons.injEq,and_true]at e;obtain⟨rfl,rfl,rfl,rfl⟩:=e;exact⟨⟨H,E⟩,f.1,f.2⟩
theorem Zg (w:Ef):eO w 0 0 (Ez false) (Ex none 0 0) (Ez false) (Ex none 0 0):=⟨az.zero w,az.zero w⟩
theorem X1:fits 0:=qc D8 D8
theorem Zh (w:Ef) (h:FO w va o) (E:FO w vb o):Ee Ed 16 #[va,vb] w fun e w'=>e = Eh (Ez true)/\zf w w':=by
 cases o with
 | none=>
  obtain rfl:va=_:=h;obtain rfl:vb=_:=E;exact J8 w (Zg w) (Zg w) X1 X1
 | some r=>
  obtain⟨a1,a2,M,a4,a5,a6,N,a8,rfl⟩:=FR.ak h;obtain⟨b1,b2,b3,b4,b5,b6,b7,b8,rfl⟩:=FR.ak E;obtain⟨H,I,J⟩:=FR.eZ h;exact J8 w H (FR.eZ E).1 I J
theorem Vk {gQ ig i8 gR gG gM gE gF:Bool} {ij gO gW gN gH gL gI ik:Option Addr} {gX gT gK i5 gP gV i6 i7 gY gC gZ h9 gD ip gJ i4:Nat} (w:Ef) (S0:∀w',av w w'->Ee Ed 16 #[Ej #[Ez cn,Ex d9 bf ci,Ez cZ,Ex ce ah dl],Ej #[Ez gQ,Ex ij gX gT,Ez ig,Ex gO gK i5]] w' fun e w2=>e = Eh (Ez true)/\zf w' w2) (S1:∀w',av w w'->Ee Ed 16 #[Ej #[Ez dt,Ex cg be cN,Ez bt,Ex dk b9 dc],Ej #[Ez i8,Ex gW gP gV,Ez gR,Ex gN i6 i7]] w' fun e w2=>e = Eh (Ez true)/\zf w' w2) (S2:∀w',av w w'->Ee Ed 16 #[Ej #[Ez em,Ex ey br dy,Ez ek,Ex ed bi er],Ej #[Ez gG,Ex gH gY gC,Ez gM,Ex gL gZ h9]] w' fun e w2=>e = Eh (Ez true)/\zf w' w2) (S3:∀w',av w w'->Ee Ed 16 #[Ej #[Ez eS,Ex f7 bg dx,Ez f8,Ex ec bh dP],Ej #[Ez gE,Ex gI gD ip,Ez gF,Ex ik gJ i4]] w' fun e w2=>e = Eh (Ez true)/\zf w' w2) :
  Ee Ed 15 #[Ej #[Ez cn,Ex d9 bf ci,Ez cZ,Ex ce ah dl,Ez dt,Ex cg be cN,Ez bt,Ex dk b9 dc,Ez em,Ex ey br dy,Ez ek,Ex ed bi er,Ez eS,Ex f7 bg dx,Ez f8,Ex ec bh dP],Ej #[Ez gQ,Ex ij gX gT,Ez ig,Ex gO gK i5,Ez i8,Ex gW gP gV,Ez gR,Ex gN i6 i7,Ez gG,Ex gH gY gC,Ez gM,Ex gL gZ h9,Ez gE,Ex gI gD ip,Ez gF,Ex ik gJ i4]] w fun e w'=>e = Eh (Ez true)/\zf w w':=by
 go_enter Tryz.func15,Tryz.ntmps15
 have kk:=av.refl w;go_wp2_with fail
 refine(S0 _ (kk.trans zw)).mono ?_;rintro e w1 ⟨rfl,st⟩;have B:=bA w st;have kp:=kB w st;replace kk:=kk.trans kp;have ot:ai w1 w.heap.size 30 #[Ez cn,Ex d9 bf ci,Ez cZ,Ex ce ah dl,Ez dt,Ex cg be cN,Ez bt,Ex dk b9 dc,Ez em,Ex ey br dy,Ez ek,Ex ed bi er,Ez eS,Ex f7 bg dx,Ez f8,Ex ec bh dP]:=ai.au st;have ou:ai w1 (w.heap.size+1) 30 #[Ez gQ,Ex ij gX gT,Ez ig,Ex gO gK i5,Ez i8,Ex gW gP gV,Ez gR,Ex gN i6 i7,Ez gG,Ex gH gY gC,Ez gM,Ex gL gZ h9,Ez gE,Ex gI gD ip,Ez gF,Ex ik gJ i4]:=ai.au st;clear kp;clear st;obtain⟨fl,gz,gB,eW,g9,gd,gk,gi,gp,gn,X,Y,bl,E,H,J⟩:=ot.dT;have lt:=ot.lt;obtain⟨eM,gr,cy,gt,g8,fe,gA,ft,gj,fd,Z,T,N,M,cx,I⟩:=ou.dT;have lu:=ou.lt;go_wp2_with fail
 refine(S1 _ (kk.trans zw)).mono ?_;rintro e w2 ⟨rfl,st⟩;have sk:=bA w1 st;replace B:=bS B sk;replace ot:=ot.ae sk;replace ou:=ou.ae sk;replace kk:=kk.aI sk;clear st sk fl gz gB eW g9 gd gk gi gp gn X Y bl E H J lt eM gr cy gt g8 fe gA ft gj fd Z T N M cx I lu;obtain⟨fl,gz,gB,eW,g9,gd,gk,gi,gp,gn,X,Y,bl,E,H,J⟩:=ot.dT;have lt:=ot.lt;obtain⟨eM,gr,cy,gt,g8,fe,gA,ft,gj,fd,Z,T,N,M,cx,I⟩:=ou.dT;have lu:=ou.lt;go_wp2_with fail
 refine(S2 _ (kk.trans zw)).mono ?_;rintro e w3 ⟨rfl,st⟩;have sk:=bA w2 st;replace B:=bS B sk;replace ot:=ot.ae sk;replace ou:=ou.ae sk;replace kk:=kk.aI sk;clear st sk fl gz gB eW g9 gd gk gi gp gn X Y bl E H J lt eM gr cy gt g8 fe gA ft gj fd Z T N M cx I lu;obtain⟨fl,gz,gB,eW,g9,gd,gk,gi,gp,gn,X,Y,bl,E,H,J⟩:=ot.dT;have lt:=ot.lt;obtain⟨eM,gr,cy,gt,g8,fe,gA,ft,gj,fd,Z,T,N,M,cx,I⟩:=ou.dT;have lu:=ou.lt;go_wp2_with fail
 refine(S3 _ (kk.trans zw)).mono ?_;rintro e w4 ⟨rfl,st⟩;have sk:=bA w3 st;replace B:=bS B sk;replace ot:=ot.ae sk;replace ou:=ou.ae sk;replace kk:=kk.aI sk;clear st sk fl gz gB eW g9 gd gk gi gp gn X Y bl E H J lt eM gr cy gt g8 fe gA ft gj fd Z T N M cx I lu;go_wp2_with fail
 refine Eo (by simp[results,Tryz.results15,go_sem,]; rfl) rfl ?_;exact⟨rfl,zh⟩
theorem Wv {o:Option (Nat->Rat)} (w:Ef) (h:cF w va o) (E:cF w vb o):Ee Ed 15 #[va,vb] w fun e w'=>e = Eh (Ez true)/\zf w w':=by
 cases o with
 | none=>
  obtain rfl:va=_:=h;obtain rfl:vb=_:=E;have z:=fun(w':Ef) (k:av w w')=>J8 w' (Zg w') (Zg w') X1 X1;exact Vk w z z z z
 | some t=>
  obtain⟨cn,d9,bf,ci,cZ,ce,ah,dl,dt,cg,be,cN,bt,dk,b9,dc,em,ey,br,dy,ek,ed,bi,er,eS,f7,bg,dx,f8,ec,bh,dP,rfl,h0,h1,h2,h3⟩:=h;obtain⟨ft,gd,Y,gB,g8,eM,gt,gp,bl,N,eW,gD,gz,cx,H,I,fl,gi,Z,M,J,gC,fd,g9,cy,gj,T,gA,fe,gk,gr,gn,rfl,X,g1,g2,g3⟩:=E;exact Vk w (fun w' k=>Zh (o:=some (t 0)) w' (h0.af k) (X.af k)) (fun w' k=>Zh (o:=some (t 1)) w' (h1.af k) (g1.af k)) (fun w' k=>Zh (o:=some (t 2)) w' (h2.af k) (g2.af k)) (fun w' k=>Zh (o:=some (t 3)) w' (h3.af k) (g3.af k))
def DL (LA LB:Nat->Nat):Nat->Bool
 | 0=>false
 | t+1=>DL LA LB t||decide ((20:Int)<max (LA t:Int) (LB t:Int))
theorem GD (w:Ef) (b0:FB w (Ej #[Ez ua1,Ex ua2 ua3 ua4,Ez ua5,Ex ua6 ua7 ua8]) (O 0)) (b1:FB w (Ej #[Ez ub1,Ex ub2 ub3 ub4,Ez ub5,Ex ub6 ub7 ub8]) (O 1)) (b2:FB w (Ej #[Ez uc1,Ex uc2 uc3 uc4,Ez uc5,Ex uc6 uc7 uc8]) (O 2)) (fw:kM O (yh ua3 ub3 uc3 uc3) (yh ua7 ub7 uc7 uc7) 3) :
  Ee Ed 18 #[Ej #[Ez ua1,Ex ua2 ua3 ua4,Ez ua5,Ex ua6 ua7 ua8,Ey Ew R,Ey Ew A,Ez ub1,Ex ub2 ub3 ub4,Ez ub5,Ex ub6 ub7 ub8,Ez uc1,Ex uc2 uc3 uc4,Ez uc5,Ex uc6 uc7 uc8]] w fun e w'=>e = Eh (Ey Ew (Zf (yu O (yh ua3 ub3 uc3 uc3) (yh ua7 ub7 uc7 uc7) R A ua1)))/\zf w w':=by
 obtain⟨K,hK⟩:∃k,yu O (yh ua3 ub3 uc3 uc3) (yh ua7 ub7 uc7 uc7) R A ua1=k:=⟨_,rfl⟩
 have KF:∀ (P:Prop),(yu O (yh ua3 ub3 uc3 uc3) (yh ua7 ub7 uc7 uc7) R A ua1=true->P)->¬P->K=false:=fun P h1 h2=>by
  cases hk:K with
  | false=>rfl
  | true=>exact absurd (h1 (hK.trans hk)) h2
 have KL:=fun(h:xq 2 O (yh ua3 ub3 uc3 uc3) (yh ua7 ub7 uc7 uc7) 3=false)=>KF (xq 2 O (yh ua3 ub3 uc3 uc3) (yh ua7 ub7 uc7 uc7) 3=true) (fun g=>(zT.1 g).1) (by rw[h]; decide);have KR:=KF _ (fun g=>(zT.1 g).2.1);have KN:=fun(h:ua1=true)=>KF (ua1=false) (fun g=>(zT.1 g).2.2.1) (by rw[h]; decide);have K1:=fun(h:z9 ((O 1).getD 0) 0<=0)=>KF _ (fun g=>(zT.1 g).2.2.2.1) (fun g=>absurd (qW.2 g) D6);have K2:=fun(h:¬z9 ((O 1).getD 0) 1<0)=>KF _ (fun g=>(zT.1 g).2.2.2.2.1) (fun g=>h (bj.2 g));have K3:=fun(h:z9 ((O 2).getD 0) 0<=0)=>KF _ (fun g=>(zT.1 g).2.2.2.2.2) (fun g=>absurd (qW.2 g) D6);have KT:xq 2 O (yh ua3 ub3 uc3 uc3) (yh ua7 ub7 uc7 uc7) 3=true->(1<=R/\R<=65536/\1<=A/\A<=17592186044416)->ua1=false->¬z9 ((O 1).getD 0) 0<=0->z9 ((O 1).getD 0) 1<0->¬z9 ((O 2).getD 0) 0<=0->K=true:=fun h1 h2 h3 h4 h5 h6=>hK.symm.trans (zT.2 ⟨h1,h2,h3,qW.1 D6,bj.1 h5,qW.1 D6⟩)
 have FQ:xq 2 O (yh ua3 ub3 uc3 uc3) (yh ua7 ub7 uc7 uc7) 3=true->(∃r,O 1=some r/\(O 1).getD 0=r/\sz r 2)/\∃r,O 2=some r/\(O 2).getD 0=r/\sz r 2:=fun h=>by
  obtain⟨r1,e1,z1⟩:=yZ h fw 1 D6;obtain⟨r2,e2,z2⟩:=yZ h fw 2 D6;exact⟨⟨r1,e1,by rw[e1]; rfl,z1⟩,⟨r2,e2,by rw[e2]; rfl,z2⟩⟩
 have S0:∀w',av w w'->Ee Ed 45 #[Ej #[Ez ua1,Ex ua2 ua3 ua4,Ez ua5,Ex ua6 ua7 ua8]] w' fun e w2=>e = Eh (Ez (aZ 2 (O 0) ua3 ua7))/\zf w' w2:=fun w' k=>J_ w' (b0.af k);have S1:∀w',av w w'->Ee Ed 45 #[Ej #[Ez ub1,Ex ub2 ub3 ub4,Ez ub5,Ex ub6 ub7 ub8]] w' fun e w2=>e = Eh (Ez (aZ 2 (O 1) ub3 ub7))/\zf w' w2:=fun w' k=>J_ w' (b1.af k);have S2:∀w',av w w'->Ee Ed 45 #[Ej #[Ez uc1,Ex uc2 uc3 uc4,Ez uc5,Ex uc6 uc7 uc8]] w' fun e w2=>e = Eh (Ez (aZ 2 (O 2) uc3 uc7))/\zf w' w2:=fun w' k=>J_ w' (b2.af k);have WH:∀x:Int,-9223372036854775808<=x->x<=9223372036854775807->∀w',Ee Ed 47 #[Ey Ew x] w' fun e w2=>∃v,e = Eh v/\FR w2 v (x:Rat)/\zf w' w2:=fun x h0 h1 w'=>H7 x w' h0 h1;have O0:=fun w'=>by have:=WH 0 D8 D8 w'; rw[Zv]at this; exact this
 have O1:=fun w'=>by have:=WH 1 D8 D8 w'; rw[Zd]at this; exact this
 clear WH;have LE:xq 2 O (yh ua3 ub3 uc3 uc3) (yh ua7 ub7 uc7 uc7) 3=((aZ 2 (O 0) ua3 ua7)&&(aZ 2 (O 1) ub3 ub7)&&(aZ 2 (O 2) uc3 uc7)):=G1;rw[LE]at KL KT FQ;rw[hK];generalize aZ 2 (O 0) ua3 ua7=l0 at *;generalize aZ 2 (O 1) ub3 ub7=l1 at *;generalize aZ 2 (O 2) uc3 uc7=l2 at *;clear LE KF hK
 go_enter Tryz.func18,Tryz.ntmps18
 have kk:=av.refl w;go_wp2_with fail
 refine(S0 _ (kk.trans zw)).mono ?_;rintro e w1 ⟨rfl,st⟩;have B:=bA w st;have kp:=kB w st;replace kk:=kk.trans kp;have ou:ai w1 w.heap.size 45 #[Ez ua1,Ex ua2 ua3 ua4,Ez ua5,Ex ua6 ua7 ua8,Ey Ew R,Ey Ew A,Ez ub1,Ex ub2 ub3 ub4,Ez ub5,Ex ub6 ub7 ub8,Ez uc1,Ex uc2 uc3 uc4,Ez uc5,Ex uc6 uc7 uc8]:=ai.au st;clear kp;clear st;obtain⟨cy,ft,cx,g8,fe,eW,g9,fd,fl,eM,T,N,M,J⟩:=ou.dA;have lu:=ou.lt
 cases l0 with
 | false=>
  have X:=KL D9;subst X;clear KL KR KN K1 K2 K3 KT FQ O0 O1 b0 b1 b2 fw S0 S1 S2
  go_wp2
  go_returns
  exact⟨rfl,zh⟩
 | true=>
  go_wp2_with fail
  refine(S1 _ (kk.trans zw)).mono ?_;rintro e w2 ⟨rfl,st⟩;have sk:=bA w1 st;replace B:=bS B sk;replace ou:=ou.ae sk;replace kk:=kk.aI sk;clear st sk cy ft cx g8 fe eW g9 fd fl eM T N M J lu;obtain⟨cy,ft,cx,g8,fe,eW,g9,fd,fl,eM,T,N,M,J⟩:=ou.dA;have lu:=ou.lt
  cases l1 with
  | false=>
   have X:=KL D9;subst X;clear KL KR KN K1 K2 K3 KT FQ O0 O1 b0 b1 b2 fw S0 S1 S2
   go_wp2
   go_returns
   exact⟨rfl,zh⟩
  | true=>
   go_wp2_with fail
   refine(S2 _ (kk.trans zw)).mono ?_;rintro e w3 ⟨rfl,st⟩;have sk:=bA w2 st;replace B:=bS B sk;replace ou:=ou.ae sk;replace kk:=kk.aI sk;clear st sk cy ft cx g8 fe eW g9 fd fl eM T N M J lu;obtain⟨cy,ft,cx,g8,fe,eW,g9,fd,fl,eM,T,N,M,J⟩:=ou.dA;have lu:=ou.lt
   cases l2 with
   | false=>
    have X:=KL D9;subst X;clear KL KR KN K1 K2 K3 KT FQ O0 O1 b0 b1 b2 fw S0 S1 S2
    go_wp2
    go_returns
    exact⟨rfl,zh⟩
   | true=>
    have H:=KT rfl;obtain⟨⟨r1,e1,q1,z1⟩,r2,e2,q2,z2⟩:=FQ rfl;clear KT KL FQ;rw[e1]at b1;rw[e2]at b2;rw[q1]at K1 K2 H;rw[q2]at K3 H;have Y:Hid (FR w (Ej #[Ez ub1,Ex ub2 ub3 ub4,Ez ub5,Ex ub6 ub7 ub8]) r1):=E7 b1;have F2:Hid (FR w (Ej #[Ez uc1,Ex uc2 uc3 uc4,Ez uc5,Ex uc6 uc7 uc8]) r2):=E7 b2;replace Y:=E7 (Y.out.af (kk.trans zw));replace F2:=E7 (F2.out.af (kk.trans zw));clear e1 e2 q1 q2 fw b0 b1 b2 S0 S1 S2;obtain⟨c1,gp⟩:∃c,z9 r1 0=c:=⟨_,rfl⟩;obtain⟨c2,gr⟩:∃c,z9 r1 1=c:=⟨_,rfl⟩;obtain⟨c3,gt⟩:∃c,z9 r2 0=c:=⟨_,rfl⟩;rw[gp]at K1 H;rw[gr]at K2 H;rw[gt]at K3 H;have bl:∀ (w':Ef) (u v:Ei),FR w' u r1->FR w' v 0->Ee Ed 46 #[u,v] w' fun e w2=>e = Eh (Ey Ew c1)/\zf w' w2:=fun w' u v h1 h2=>by have:=Wg w' h1 h2 z1 Zw D6; rw[gp]at this; exact this
    have gd:∀ (w':Ef) (u v:Ei),FR w' u r1->FR w' v 1->Ee Ed 46 #[u,v] w' fun e w2=>e = Eh (Ey Ew c2)/\zf w' w2:=fun w' u v h1 h2=>by have:=Wg w' h1 h2 z1 Ba D6; rw[gr]at this; exact this
    have gi:∀ (w':Ef) (u v:Ei),FR w' u r2->FR w' v 0->Ee Ed 46 #[u,v] w' fun e w2=>e = Eh (Ey Ew c3)/\zf w' w2:=fun w' u v h1 h2=>by have:=Wg w' h1 h2 z2 Zw D6; rw[gt]at this; exact this
    clear gp gr gt z1 z2
    cases ua1 with
    | true=>
     have X:=KN D9;subst X;clear KR KN K1 K2 K3 H O0 O1 bl gd gi Y F2
     go_wp2
     go_returns
     exact⟨rfl,zh⟩
    | false=>
     clear KN
     rcases(show R<1\/(¬R<1/\65536<R)\/(¬R<1/\¬65536<R/\A<1)\/(¬R<1/\¬65536<R/\¬A<1/\17592186044416<A)\/(¬R<1/\¬65536<R/\¬A<1/\¬17592186044416<A) by omega)with g1 | ⟨g1,g2⟩ | ⟨g1,g2,g3⟩ | ⟨g1,g2,g3,g4⟩ | ⟨g1,g2,g3,g4⟩
     .
      have X:=KR D6;subst X;clear KR K1 K2 K3 H O0 O1 bl gd gi Y F2
      go_wp2
      go_returns
      exact⟨rfl,zh⟩
     .
      have X:=KR D6;subst X;clear KR K1 K2 K3 H O0 O1 bl gd gi Y F2
      go_wp2
      go_returns
      exact⟨rfl,zh⟩
     .
      have X:=KR D6;subst X;clear KR K1 K2 K3 H O0 O1 bl gd gi Y F2
      go_wp2
      go_returns
      exact⟨rfl,zh⟩
     .
      have X:=KR D6;subst X;clear KR K1 K2 K3 H O0 O1 bl gd gi Y F2
      go_wp2
      go_returns
      exact⟨rfl,zh⟩
     .
      have gk:=H ⟨by omega,by omega,by omega,by omega⟩ rfl;clear H KR;go_wp2_with fail
      by_cases h1:c1<=0
      .
       have X:=K1 D6;subst X;clear K1 K2 K3 gk;have gn:w.heap.size<w3.heap.size:=ou.lt;have gG:=B.size
       go_upto_region 3 with fail
       refine aj.c_ w w3 [.o w.heap.size 45 #[Ez false,Ex ua2 ua3 ua4,Ez ua5,Ex ua6 ua7 ua8,Ey Ew R,Ey Ew A,Ez ub1,Ex ub2 ub3 ub4,Ez ub5,Ex ub6 ub7 ub8,Ez uc1,Ex uc2 uc3 uc4,Ez uc5,Ex uc6 uc7 uc8]] [2,3] [(2,xh),(3,fun z_=>z_ = Ey Ew c1)] [(2,bV (0))] [(3,[(2,some 47)]),(19,[(2,some 47),(3,some 48)])] [] (by simp only[aV]; exact⟨zh,zw,zC,trivial⟩) (fun N0 gj Z Q' E hQ=> ?_);clear cy ft cx g8 fe eW g9 fd fl eM T N M J lu;clear gj;refine aj.aG 45 ?_;refine aj.aS 46 (fun _ _ _ h=>E8 h.e.1.q6 (E8 h.e.1.q7 (E8 h.e.1.q8 h.e.1.q9))) ?_;refine aj.sC E (fun D v' I _ _=>O0 I) ?_;rintro _ ⟨gB,gH,gC,gA,gz,gE,gF,gD,rfl⟩;refine aj.cY rfl ?_;refine aj.sV E (fun D v' I h hf=>bl I _ _ (Y.out.af h.k) (hf (2,some 47) (.head _) rfl).2.2) ?_;refine aj.cY rfl ?_
       repeat (first | refine aj.bG E _ ?_ | (refine aj.sk E ?_; refine aj.cY rfl ?_))
       refine aj.sE (fun _ v' w4 B jk hl _ _ hf=> ?_);simp only[xZ,qk]at hl;obtain⟨ou,-⟩:=hl;replace Y:=E7 (Y.out.af jk);replace F2:=E7 (F2.out.af jk);replace kk:=kk.trans jk;clear hf jk;refine hQ _ _ ?_;clear hQ E Q' Z;go_wp2_with fail
       refine Eo (by simp[results,Tryz.results18,go_sem,]; rfl) rfl ?_;exact⟨rfl,zh⟩
      .
       by_cases h2:¬c2<0
       .
        have X:=K2 D6;subst X;clear K1 K2 K3 gk;have gP:0<=c2:=D6
        have gn:w.heap.size<w3.heap.size:=ou.lt;have gG:=B.size
        go_upto_region 3 with fail
        refine aj.c_ w w3 [.o w.heap.size 45 #[Ez false,Ex ua2 ua3 ua4,Ez ua5,Ex ua6 ua7 ua8,Ey Ew R,Ey Ew A,Ez ub1,Ex ub2 ub3 ub4,Ez ub5,Ex ub6 ub7 ub8,Ez uc1,Ex uc2 uc3 uc4,Ez uc5,Ex uc6 uc7 uc8]] [2,3,8,9] [(2,xh),(3,fun z_=>z_ = Ey Ew c1),(8,xh),(9,fun z_=>z_ = Ey Ew c2)] [(2,bV (0)),(8,bV (1))] [(3,[(2,some 47)]),(9,[(8,some 53)]),(19,[(2,some 47),(3,some 48),(8,some 53),(9,some 54)])] [] (by simp only[aV]; exact⟨zh,zw,zC,trivial⟩) (fun N0 gj Z Q' E hQ=> ?_);clear cy ft cx g8 fe eW g9 fd fl eM T N M J lu;clear gj;refine aj.aG 45 ?_;refine aj.aS 46 (fun _ _ _ h=>E8 h.e.1.q6 (E8 h.e.1.q7 (E8 h.e.1.q8 h.e.1.q9))) ?_;refine aj.sC E (fun D v' I _ _=>O0 I) ?_;rintro _ ⟨gB,gH,gC,gA,gz,gE,gF,gD,rfl⟩;refine aj.cY rfl ?_;refine aj.sV E (fun D v' I h hf=>bl I _ _ (Y.out.af h.k) (hf (2,some 47) (.head _) rfl).2.2) ?_;refine aj.cY rfl ?_
        repeat refine aj.aG _ ?_
        refine aj.bG E 51 ?_;refine aj.e_ E 52 (fun _ _ _ h=>E8 h.e.1.q6 (E8 h.e.1.q7 (E8 h.e.1.q8 h.e.1.q9))) ?_;refine aj.sC E (fun D v' I _ _=>O1 I) ?_;rintro _ ⟨gO,gM,gI,gQ,gL,gK,gN,gJ,rfl⟩;refine aj.cY rfl ?_;refine aj.sV E (fun D v' I h hf=>gd I _ _ (Y.out.af h.k) (hf (8,some 53) (.head _) rfl).2.2) ?_;refine aj.cY rfl ?_
        repeat (first | refine aj.bG E _ ?_ | (refine aj.sk E ?_; refine aj.cY rfl ?_))
        refine aj.sE (fun _ v' w4 B jk hl _ _ hf=> ?_);simp only[xZ,qk]at hl;obtain⟨ou,-⟩:=hl;replace Y:=E7 (Y.out.af jk);replace F2:=E7 (F2.out.af jk);replace kk:=kk.trans jk;clear hf jk;refine hQ _ _ ?_;clear hQ E Q' Z;go_wp2_with fail
        refine Eo (by simp[results,Tryz.results18,go_sem,]; rfl) rfl ?_;exact⟨rfl,zh⟩
       .
        have gP:¬0<=c2:=D6
        by_cases h3:c3<=0
        focus
         have X:=K3 D6
        rotate_left
        focus
         have X:=gk D6 D6 D6
        rotate_left
        all_goals
         subst X;clear K1 K2 K3 gk;have gn:w.heap.size<w3.heap.size:=ou.lt;have gG:=B.size
         go_upto_region 3 with fail
         refine aj.c_ w w3 [.o w.heap.size 45 #[Ez false,Ex ua2 ua3 ua4,Ez ua5,Ex ua6 ua7 ua8,Ey Ew R,Ey Ew A,Ez ub1,Ex ub2 ub3 ub4,Ez ub5,Ex ub6 ub7 ub8,Ez uc1,Ex uc2 uc3 uc4,Ez uc5,Ex uc6 uc7 uc8]] [2,3,8,9,15,16] [(2,xh),(3,fun z_=>z_ = Ey Ew c1),(8,xh),(9,fun z_=>z_ = Ey Ew c2),(15,xh),(16,fun z_=>z_ = Ey Ew c3)] [(2,bV (0)),(8,bV (1)),(15,bV (0))] [(3,[(2,some 47)]),(9,[(8,some 53)]),(16,[(15,some 60)]),(19,[(2,some 47),(3,some 48),(8,some 53),(9,some 54),(15,some 60),(16,some 61)])] [] (by simp only[aV]; exact⟨zh,zw,zC,trivial⟩) (fun N0 gj Z Q' E hQ=> ?_);clear cy ft cx g8 fe eW g9 fd fl eM T N M J lu;clear gj;refine aj.aG 45 ?_;refine aj.aS 46 (fun _ _ _ h=>E8 h.e.1.q6 (E8 h.e.1.q7 (E8 h.e.1.q8 h.e.1.q9))) ?_;refine aj.sC E (fun D v' I _ _=>O0 I) ?_;rintro _ ⟨gB,gH,gC,gA,gz,gE,gF,gD,rfl⟩;refine aj.cY rfl ?_;refine aj.sV E (fun D v' I h hf=>bl I _ _ (Y.out.af h.k) (hf (2,some 47) (.head _) rfl).2.2) ?_;refine aj.cY rfl ?_
         repeat refine aj.aG _ ?_
         refine aj.bG E 51 ?_;refine aj.e_ E 52 (fun _ _ _ h=>E8 h.e.1.q6 (E8 h.e.1.q7 (E8 h.e.1.q8 h.e.1.q9))) ?_;refine aj.sC E (fun D v' I _ _=>O1 I) ?_;rintro _ ⟨gO,gM,gI,gQ,gL,gK,gN,gJ,rfl⟩;refine aj.cY rfl ?_;refine aj.sV E (fun D v' I h hf=>gd I _ _ (Y.out.af h.k) (hf (8,some 53) (.head _) rfl).2.2) ?_;refine aj.cY rfl ?_;refine aj.bG E 55 ?_
         repeat refine aj.aG _ ?_
         refine aj.bG E 58 ?_;refine aj.e_ E 59 (fun _ _ _ h=>E8 h.e.1.fJ (E8 h.e.1.fL (E8 h.e.1.fR h.e.1.fD))) ?_;refine aj.sC E (fun D v' I _ _=>O0 I) ?_;rintro _ ⟨gV,gR,gY,gW,gZ,gT,h9,gX,rfl⟩;refine aj.cY rfl ?_;refine aj.sV E (fun D v' I h hf=>gi I _ _ (F2.out.af h.k) (hf (15,some 60) (.head _) rfl).2.2) ?_;refine aj.cY rfl ?_;refine aj.bG E 62 ?_;refine aj.aG 63 ?_;refine aj.sE (fun _ v' w4 B jk hl _ _ hf=> ?_);simp only[xZ,qk]at hl;obtain⟨ou,-⟩:=hl;replace Y:=E7 (Y.out.af jk);replace F2:=E7 (F2.out.af jk);replace kk:=kk.trans jk;clear hf jk;refine hQ _ _ ?_;clear hQ E Q' Z;go_wp2_with fail
         refine Eo (by simp[results,Tryz.results18,go_sem,]; rfl) rfl ?_;exact⟨rfl,zh⟩
def G5 (c:Array Ei):Ei->Ei->Array Ei
 | Ej a,Ej b=>#[a.getD 0 (Ez false),a.getD 1 (Ez false),a.getD 2 (Ez false),a.getD 3 (Ez false),Ey Ew 1,Ey Ew 400,b.getD 0 (Ez false),b.getD 1 (Ez false),b.getD 2 (Ez false),b.getD 3 (Ez false),c.getD 0 (Ez false),c.getD 1 (Ez false),c.getD 2 (Ez false),c.getD 3 (Ez false)]
 | _,_=>#[]
theorem Vl (x y:Int) (w:Ef) (Y : -9223372036854775808<=x) (X:x<=9223372036854775807) (T : -9223372036854775808<=y) (y1:y<=9223372036854775807) (hy:y≠0) :
  Ee Ed 29 #[Ey Ew x,Ey Ew y] w fun e w'=>∃v,e = Eh v/\FR w' v ((x:Rat) / (y:Rat))/\zf w w':=by
 have OF:=fun w'=>H3 x y w' Y X T y1 hy;generalize (x:Rat) / (y:Rat)=q at *;clear Y X T y1 hy
 go_enter Tryz.func29,Tryz.ntmps29
 go_wp2_with fail
 refine(OF _).mono ?_;rintro e w1 ⟨fe,rfl,E,st⟩;have B:=bA w st;have or:ai w1 w.heap.size 28 jN:=ai.au st;clear st;obtain⟨I,N,J,H,fr,lr⟩:=or.s3;obtain⟨bl,fd,eW,ft,g8,fl,cx,cy,rfl⟩:=E.ak;have M:=E7 E;clear E;have Z:w.heap.size<w1.heap.size:=or.lt;have eM:=B.size;go_wp2_with fail
 refine Eo (by simp[results,Tryz.results29,go_sem,I,N,J,H,fr,lr]; rfl) rfl ?_;exact⟨_,rfl,M.out.af zw,zh⟩
theorem Cz {uc1 uc5:Bool} {uc2 uc6:Option Addr} {uc3 uc4 uc7 uc8:Nat} (w:Ef) :
  Ee Ed 35 #[Ej #[Ez uc1,Ex uc2 uc3 uc4,Ez uc5,Ex uc6 uc7 uc8]] w fun e w'=>∃ua1 ua2 ua3 ua4 ua5 ua6 ua7 ua8 ub1 ub2 ub3 ub4 ub5 ub6 ub7 ub8,e = Eh (Ej #[Ez ua1,Ex ua2 ua3 ua4,Ez ua5,Ex ua6 ua7 ua8,Ey Ew 1,Ey Ew 400,Ez ub1,Ex ub2 ub3 ub4,Ez ub5,Ex ub6 ub7 ub8,Ez uc1,Ex uc2 uc3 uc4,Ez uc5,Ex uc6 uc7 uc8])/\FR w' (Ej #[Ez ua1,Ex ua2 ua3 ua4,Ez ua5,Ex ua6 ua7 ua8]) 0/\FR w' (Ej #[Ez ub1,Ex ub2 ub3 ub4,Ez ub5,Ex ub6 ub7 ub8]) (((1:Int):Rat) / ((10:Int):Rat))/\zf w w':=by
 have OA:∀w',Ee Ed 29 #[Ey Ew 0,Ey Ew 1] w' fun e w2=>∃v,e = Eh v/\FR w2 v 0/\zf w' w2:=fun w'=>by have:=Vl 0 1 w' D8 D8 D8 D8 D8; rw[YE,Zv]at this; exact this
 have OB:=fun w'=>Vl 1 10 w' D8 D8 D8 D8 D8;generalize ((1:Int):Rat) / ((10:Int):Rat)=q at *
 go_enter Tryz.func35,Tryz.ntmps35
 go_upto_region 1 with fail
 refine aj.eP (fun N0 D v W=>Below w.heap.size w W/\av w W/\N0<=W.heap.size/\ai W w.heap.size 28 #[Ez uc1,Ex uc2 uc3 uc4,Ez uc5,Ex uc6 uc7 uc8]/\((D 4=false->ai W (w.heap.size+1) 45 Dx)/\(D 4=true->D 0=true/\D 1=true/\ai W (w.heap.size+1) 45 (G5 #[Ez uc1,Ex uc2 uc3 uc4,Ez uc5,Ex uc6 uc7 uc8] (v 0) (v 1))))) [0,1,4] [(0,xh),(1,xh)] [(0,bV (0)),(1,bV (q))] [(4,[(0,some 3),(1,some 4)]),(5,[(0,some 3),(1,some 4)])] [(0,[4]),(1,[4])] (fun N0 gi=>⟨fun v=> ?_,fun D v v' W hv hj=> ?_,fun gp Q' gz hQ=> ?_⟩)
 . exact⟨zh,zw,Do gi,zC,⟨fun _=>zC,(fun h=>Bool.noConfusion h)⟩⟩
 .
  obtain⟨j0,jk,jn,fl,eW⟩:=hj;exact⟨j0,jk,jn,fl,⟨eW.1,fun h=>by obtain⟨gd,g9,hb⟩:=eW.2 h; refine⟨gd,g9,?_⟩; first | (rw[hv 0 gd,hv 1 g9]; exact hb) | (rw[<- hv 0 gd,<- hv 1 g9]; exact hb)⟩⟩
 have eN:=gi.out
 try simp only[World.size_alloc,World.size_setCell,World.size_drew,World.heap_drewN]at eN
 have ig:w.heap.size<N0:=by first | omega | (have h:=ox.lt; omega)
 have ij:w.heap.size+1<N0:=by first | omega | (have h:=or.lt; omega)
 have iw:w.heap.size<=N0:=by first | omega | (have h:=B.size; omega)
 clear gi eN;refine aj.aC rfl (ve rfl) rfl (fun D v' W' hc hj hf K hK=> ?_) ?_
 .
  obtain⟨j0,jk,jn,fl,eW⟩:=hj;clear hf;go_step;refine(OA W').mono ?_;rintro e W2 ⟨u,rfl,hu,hs⟩;obtain⟨E,J,H,I,M,N,T,X,rfl⟩:=hu.ak;exact hK.out _ W2 (av.ae hs) ⟨YX j0 hs,jk.aI hs,Jn jn hs,fl.ae hs,⟨fun h=>(eW.1 h).ae hs,fun h=>Bool.noConfusion ((hc.2 4 D8).symm.trans h)⟩⟩ hu ⟨_,_,_,_,_,_,_,_,rfl⟩
 rintro _ ⟨E,J,H,I,M,N,T,X,rfl⟩;refine aj.aB (b:=⟨#[_,_,_,_,_,_,_],_⟩) rfl ?_;refine aj.aC rfl (ve rfl) rfl (fun D v' W' hc hj hf K hK=> ?_) ?_
 .
  obtain⟨j0,jk,jn,fl,eW⟩:=hj;clear hf;go_step;refine(OB W').mono ?_;rintro e W2 ⟨u,rfl,hu,hs⟩;obtain⟨Y,cx,Z,bl,cy,fd,fe,eM,rfl⟩:=hu.ak;exact hK.out _ W2 (av.ae hs) ⟨YX j0 hs,jk.aI hs,Jn jn hs,fl.ae hs,⟨fun h=>(eW.1 h).ae hs,fun h=>Bool.noConfusion ((hc.2 4 D8).symm.trans h)⟩⟩ hu ⟨_,_,_,_,_,_,_,_,rfl⟩
 rintro _ ⟨Y,cx,Z,bl,cy,fd,fe,eM,rfl⟩;refine aj.aB (b:=⟨#[_,_,_,_,_,_,_],_⟩) rfl ?_;refine aj.aS 5 (fun _ _ _ h=>h.2.2.2.1.r3) ?_;refine aj.aG 6 ?_;refine aj.dF (fun D v' W' hc hj hf K hK=> ?_) (fun _ _=>aj.aB (b:=⟨_,_⟩) rfl ?_)
 .
  obtain⟨j0,jk,jn,fl,eW⟩:=hj;have hb:=eW.1 hc.1;have e2:w.heap.size<=w.heap.size+1:=D6
  have ff:=hb.fr;have g8:=hf (0,some 3) (.head _) rfl;have gk:v' 0 = Ej #[Ez E,Ex J H I,Ez M,Ex N T X]:=g8.2.1;have ft:=hf (1,some 4) (.tail _ (.head _)) rfl;have gj:v' 1 = Ej #[Ez Y,Ex cx Z bl,Ez cy,Ex fd fe eM]:=ft.2.1;obtain⟨gW,i4,i5,i6,gX,i7,i8,gZ,h9,gY,gT,gQ,gR,gV⟩:=hb.dA;go_step;have gN:ai ((((((((((((((W'.setCell ⟨w.heap.size+1,0,none⟩ (Ez E)).setCell ⟨w.heap.size+1,1,none⟩ (Ex J H I)).setCell ⟨w.heap.size+1,2,none⟩ (Ez M)).setCell ⟨w.heap.size+1,3,none⟩ (Ex N T X)).setCell ⟨w.heap.size+1,4,none⟩ (Ey Ew 1)).setCell ⟨w.heap.size+1,5,none⟩ (Ey Ew 400)).setCell ⟨w.heap.size+1,6,none⟩ (Ez Y)).setCell ⟨w.heap.size+1,7,none⟩ (Ex cx Z bl)).setCell ⟨w.heap.size+1,8,none⟩ (Ez cy)).setCell ⟨w.heap.size+1,9,none⟩ (Ex fd fe eM)).setCell ⟨w.heap.size+1,10,none⟩ (Ez uc1)).setCell ⟨w.heap.size+1,11,none⟩ (Ex uc2 uc3 uc4)).setCell ⟨w.heap.size+1,12,none⟩ (Ez uc5)).setCell ⟨w.heap.size+1,13,none⟩ (Ex uc6 uc7 uc8)) (w.heap.size+1) 45 (G5 #[Ez uc1,Ex uc2 uc3 uc4,Ez uc5,Ex uc6 uc7 uc8] (v' 0) (v' 1)):=by rw[gk,gj]; exact(ai.aW (cs':=#[Ez E,Ex J H I,Ez M,Ex N T X,Ey Ew 1,Ey Ew 400,Ez Y,Ex cx Z bl,Ez cy,Ex fd fe eM,Ez uc1,Ex uc2 uc3 uc4,Ez uc5,Ex uc6 uc7 uc8]) (ai.aW (cs':=#[Ez E,Ex J H I,Ez M,Ex N T X,Ey Ew 1,Ey Ew 400,Ez Y,Ex cx Z bl,Ez cy,Ex fd fe eM,Ez uc1,Ex uc2 uc3 uc4,Ez uc5,Ex none 0 0]) (ai.aW (cs':=#[Ez E,Ex J H I,Ez M,Ex N T X,Ey Ew 1,Ey Ew 400,Ez Y,Ex cx Z bl,Ez cy,Ex fd fe eM,Ez uc1,Ex uc2 uc3 uc4,Ez false,Ex none 0 0]) (ai.aW (cs':=#[Ez E,Ex J H I,Ez M,Ex N T X,Ey Ew 1,Ey Ew 400,Ez Y,Ex cx Z bl,Ez cy,Ex fd fe eM,Ez uc1,Ex none 0 0,Ez false,Ex none 0 0]) (ai.aW (cs':=#[Ez E,Ex J H I,Ez M,Ex N T X,Ey Ew 1,Ey Ew 400,Ez Y,Ex cx Z bl,Ez cy,Ex fd fe eM,Ez false,Ex none 0 0,Ez false,Ex none 0 0]) (ai.aW (cs':=#[Ez E,Ex J H I,Ez M,Ex N T X,Ey Ew 1,Ey Ew 400,Ez Y,Ex cx Z bl,Ez cy,Ex none 0 0,Ez false,Ex none 0 0,Ez false,Ex none 0 0]) (ai.aW (cs':=#[Ez E,Ex J H I,Ez M,Ex N T X,Ey Ew 1,Ey Ew 400,Ez Y,Ex cx Z bl,Ez false,Ex none 0 0,Ez false,Ex none 0 0,Ez false,Ex none 0 0]) (ai.aW (cs':=#[Ez E,Ex J H I,Ez M,Ex N T X,Ey Ew 1,Ey Ew 400,Ez Y,Ex none 0 0,Ez false,Ex none 0 0,Ez false,Ex none 0 0,Ez false,Ex none 0 0]) (ai.aW (cs':=#[Ez E,Ex J H I,Ez M,Ex N T X,Ey Ew 1,Ey Ew 400,Ez false,Ex none 0 0,Ez false,Ex none 0 0,Ez false,Ex none 0 0,Ez false,Ex none 0 0]) (ai.aW (cs':=#[Ez E,Ex J H I,Ez M,Ex N T X,Ey Ew 1,Ey Ew 0,Ez false,Ex none 0 0,Ez false,Ex none 0 0,Ez false,Ex none 0 0,Ez false,Ex none 0 0]) (ai.aW (cs':=#[Ez E,Ex J H I,Ez M,Ex N T X,Ey Ew 0,Ey Ew 0,Ez false,Ex none 0 0,Ez false,Ex none 0 0,Ez false,Ex none 0 0,Ez false,Ex none 0 0]) (ai.aW (cs':=#[Ez E,Ex J H I,Ez M,Ex none 0 0,Ey Ew 0,Ey Ew 0,Ez false,Ex none 0 0,Ez false,Ex none 0 0,Ez false,Ex none 0 0,Ez false,Ex none 0 0]) (ai.aW (cs':=#[Ez E,Ex J H I,Ez false,Ex none 0 0,Ey Ew 0,Ey Ew 0,Ez false,Ex none 0 0,Ez false,Ex none 0 0,Ez false,Ex none 0 0,Ez false,Ex none 0 0]) (ai.aW (cs':=#[Ez E,Ex none 0 0,Ez false,Ex none 0 0,Ey Ew 0,Ey Ew 0,Ez false,Ex none 0 0,Ez false,Ex none 0 0,Ez false,Ex none 0 0,Ez false,Ex none 0 0]) hb (i:=0) rfl) (i:=1) rfl) (i:=2) rfl) (i:=3) rfl) (i:=4) rfl) (i:=5) rfl) (i:=6) rfl) (i:=7) rfl) (i:=8) rfl) (i:=9) rfl) (i:=10) rfl) (i:=11) rfl) (i:=12) rfl) (i:=13) rfl)
  exact hK.out undef _ (wr14.k hb) ⟨(wr14.b j0),jk.trans (wr14.k hb),wr14.n jn,(wr14.f fl),⟨fun h=>Bool.noConfusion h,fun _=>⟨g8.1,ft.1,gN⟩⟩⟩ trivial trivial
 refine aj.aE (fun Dn v' w1 hd hj hf=> ?_);obtain⟨B,jk,jn,ox,eW⟩:=hj;obtain⟨-,-,or⟩:=eW.2 (hd 4 (Ec rfl));have gn:v' 0 = Ej #[Ez E,Ex J H I,Ez M,Ex N T X]:=(hf (0,some 3) (.head _) rfl).2.1;have gB:v' 1 = Ej #[Ez Y,Ex cx Z bl,Ez cy,Ex fd fe eM]:=(hf (1,some 4) (.tail _ (.head _)) rfl).2.1;rw[gn,gB]at or;replace or:ai _ _ _ #[Ez E,Ex J H I,Ez M,Ex N T X,Ey Ew 1,Ey Ew 400,Ez Y,Ex cx Z bl,Ez cy,Ex fd fe eM,Ez uc1,Ex uc2 uc3 uc4,Ez uc5,Ex uc6 uc7 uc8]:=or;clear eW gn gB;have gP:Hid (FR w1 (Ej #[Ez E,Ex J H I,Ez M,Ex N T X]) (0)):=(hf (0,some 3) (.head _) rfl).2.2;have gH:Hid (FR w1 (Ej #[Ez Y,Ex cx Z bl,Ez cy,Ex fd fe eM]) (q)):=(hf (1,some 4) (.tail _ (.head _)) rfl).2.2;clear hd hf jk;refine hQ _ _ ?_;clear hQ gz Q' gp;have lx:=ox.lt;obtain⟨gG,gL,gI,gF,gM,gK,gD,gE,gJ,gO,gC,gr,gt,gA⟩:=or.dA;have lr:=or.lt;go_wp2_with fail
 refine Eo (by simp[results,Tryz.results35,go_sem,lx,gG,gL,gI,gF,gM,gK,gD,gE,gJ,gO,gC,gr,gt,gA,lr]; rfl) rfl ?_;exact⟨_,_,_,_,_,_,_,_,_,_,_,_,_,_,_,_,rfl,gP.out.af zw,gH.out.af zw,zh⟩
theorem cF.ae {o:Option (Nat->Rat)} (h:cF w v o) (s:zf w w'):cF w' v o:=h.af (av.ae s)
theorem FO.ae (h:FO w v o) (s:zf w w'):FO w' v o:=h.af (av.ae s)
theorem FR.lens (h:FR w (Ej #[Ez a1,Ex a2 p a4,Ez a5,Ex a6 q a8]) r):p=(zp (zi r.num)).length/\q=(zp (zi (r.den:Int))).length:=by
 obtain⟨x2,x3,X,Y,M,N,e,J,I,-⟩:=h.bU;simp only[Value.agg.injEq,Array.mk.injEq,List.cons.injEq,and_true,Value.slice.injEq,Value.bool.injEq]at e;obtain⟨Z,⟨rfl,rfl,rfl⟩,T,rfl,rfl,rfl⟩:=e;obtain⟨_,_,E,_⟩:=J.parts;obtain⟨_,_,H,_⟩:=I.parts;simp only[Value.agg.injEq,Array.mk.injEq,List.cons.injEq,and_true,Value.slice.injEq,Value.bool.injEq]at E H;exact⟨E.2.2.1,H.2.2.1⟩
theorem Z7 (x:Int):0<=zi x:=by unfold zi; omega
theorem FR.aZ (h:FR w (Ej #[Ez a1,Ex a2 p a4,Ez a5,Ex a6 q a8]) r) (most:Nat) (H:zi r.num<bp most) (E:zi (r.den:Int)<bp most):aZ most (some r) p q=true:=by
 obtain⟨rfl,rfl⟩:=h.lens;unfold Go.Proofs.YtffmbepfbienaaaGreat.aZ;rw[E' ((xl (Z7 _) most).2 H),E' ((xl (Z7 _) most).2 E)];rfl
theorem FR.aD (h:FR w (Ej #[Ez a1,Ex a2 p a4,Ez a5,Ex a6 q a8]) r):∀s,some r=some s->zi s.num<=bp p/\(s.den:Int)<=bp q:=by
 intro s e
 injection e with e
 subst e;obtain⟨rfl,rfl⟩:=h.lens;have H:=(xl (Z7 r.num) _).1 (Ep _);have E:=(xl (Z7 (r.den:Int)) _).1 (Ep _);have I:zi (r.den:Int)=(r.den:Int):=by unfold zi; omega
 rw[I]at E|-;exact⟨Int.le_of_lt H,Int.le_of_lt E⟩
theorem DN {T:Nat->Rat} (h0:FR w (Ej #[Ez cn,Ex d9 bf ci,Ez cZ,Ex ce ah dl]) (T 0)) (I:FR w (Ej #[Ez dt,Ex cg be cN,Ez bt,Ex dk b9 dc]) (T 1)) (H:FR w (Ej #[Ez em,Ex ey br dy,Ez ek,Ex ed bi er]) (T 2)) (E:FR w (Ej #[Ez eS,Ex f7 bg dx,Ez f8,Ex ec bh dP]) (T 3)):cF w (Ej #[Ez cn,Ex d9 bf ci,Ez cZ,Ex ce ah dl,Ez dt,Ex cg be cN,Ez bt,Ex dk b9 dc,Ez em,Ex ey br dy,Ez ek,Ex ed bi er,Ez eS,Ex f7 bg dx,Ez f8,Ex ec bh dP]) (some T):=
 ⟨_,_,_,_,_,_,_,_,_,_,_,_,_,_,_,_,_,_,_,_,_,_,_,_,_,_,_,_,_,_,_,_,rfl,h0,I,H,E⟩
theorem CD {y z:Int} (h:ai w g t #[Ey Ew x,Ey Ew y,Ey Ew z]):aF w (Ex (some ⟨g,0,none⟩) 3 3) [x,y,z]:=by
 refine⟨_,_,rfl,Ep _,fun _=>⟨g,0,rfl,h.lt,fun k E=> ?_⟩⟩;have H:k<3:=E
 rcases(show k=0\/k=1\/k=2 by omega)with rfl | rfl | rfl
 . exact h.c 0 rfl
 . exact h.c 1 rfl
 . exact h.c 2 rfl
def YO:Nat->Rat:=v_ (0,0) (1,0) (1,1) (1,3)
theorem Z8:YO 0=0/\YO 1=2/\YO 2=1/\YO 3=1:=by decide +kernel
theorem CE:Cx (0,0) (1,0) (1,1) (1,3)=(0,some YO):=by
 unfold Cx;rw[E9 D8,E_ D8];rfl
def YP (i:Nat):Option Rat:=match i with | 0=>some 0 | 1=>some (1 / 10) | _=>some 1
theorem Ww:zF 1 400 10=1 / 10:=by decide +kernel
theorem Bf:xu (yU (1 / 10) (1 / 10)) (1 / 10) [3,-1,9] YF 3=((8281:Int):Rat) / ((1000:Int):Rat):=by decide +kernel
theorem CG:((1:Int):Rat) / ((10:Int):Rat)=1 / 10:=by decide +kernel
theorem Kd {ua1 ua5 ub1 ub5 uc1 uc5:Bool} {ua2 ua6 ub2 ub6 uc2 uc6:Option Addr} {ua3 ua4 ua7 ua8 ub3 ub4 ub7 ub8 uc3 uc4 uc7 uc8:Nat} {g:Nat} {t:Em} (w:Ef) (h0:FR w (Ej #[Ez ua1,Ex ua2 ua3 ua4,Ez ua5,Ex ua6 ua7 ua8]) 0) (E:FR w (Ej #[Ez ub1,Ex ub2 ub3 ub4,Ez ub5,Ex ub6 ub7 ub8]) (((1:Int):Rat) / ((10:Int):Rat))) (H:FR w (Ej #[Ez uc1,Ex uc2 uc3 uc4,Ez uc5,Ex uc6 uc7 uc8]) 1) (J:ai w g t #[Ey Ew 3,Ey Ew (-1),Ey Ew 9]) :
  Ee Ed 19 #[Ej #[Ez ua1,Ex ua2 ua3 ua4,Ez ua5,Ex ua6 ua7 ua8,Ey Ew 1,Ey Ew 400,Ez ub1,Ex ub2 ub3 ub4,Ez ub5,Ex ub6 ub7 ub8,Ez uc1,Ex uc2 uc3 uc4,Ez uc5,Ex uc6 uc7 uc8],Ex (some ⟨g,0,none⟩) 3 3,Ey Ew 10] w fun e w'=>∃v,e = Eh (Ev #[v,Ey Ew 0])/\FR w' v (((8281:Int):Rat) / ((1000:Int):Rat))/\zf w w':=by
 rw[CG]at E
 have a1:ua1=false:=by
  obtain⟨x2,x3,N,T,Z,M,e,-,-,-⟩:=h0.bU;simp only[Value.agg.injEq,Array.mk.injEq,List.cons.injEq,and_true,Value.slice.injEq,Value.bool.injEq]at e;rw[e.1]; decide
 subst a1
 have fw:kM YP (yh ua3 ub3 uc3 uc3) (yh ua7 ub7 uc7 uc7) 3:=fun i Y=>by
  rcases(show i=0\/i=1\/i=2 by omega)with rfl | rfl | rfl
  . exact h0.aD
  . exact E.aD
  . exact H.aD
 have rk:yu YP (yh ua3 ub3 uc3 uc3) (yh ua7 ub7 uc7 uc7) 1 400 false=true:=by
  rw[zT];refine⟨?_,by decide,rfl,by decide +kernel,by decide +kernel,by decide +kernel⟩;rw[G1,show aZ 2 (YP 0) (yh ua3 ub3 uc3 uc3 0) (yh ua7 ub7 uc7 uc7 0)=true from h0.aZ 2 (by decide +kernel) (by decide +kernel),show aZ 2 (YP 1) (yh ua3 ub3 uc3 uc3 1) (yh ua7 ub7 uc7 uc7 1)=true from E.aZ 2 (by decide +kernel) (by decide +kernel),show aZ 2 (YP 2) (yh ua3 ub3 uc3 uc3 2) (yh ua7 ub7 uc7 uc7 2)=true from H.aZ 2 (by decide +kernel) (by decide +kernel)];rfl
 have:=G4 (R:=1) (A:=400) (n:=10) (O:=YP) w h0 E H fw (CD J);rw[rk,show YM [3,-1,9] 10 [(3:Int),-1,9].length=true by decide,Ww,E' (show (1 / 10:Rat)<1 by decide +kernel)]at this;rw[show qh true [(3:Int),-1,9].length true 10 true=0 by decide,show (YP 1).getD 0=1 / 10 from rfl]at this;refine this.mono ?_;rintro e X ⟨v,rfl,hv,I⟩;refine⟨v,rfl,?_,I⟩;rw[<- Bf];exact hv
theorem Wx (w:Ef):Ee Ed 17 #[] w fun e w'=>e = Eh (Ez true)/\zf w w':=by
 have PO:∀w',Ee Ed 11 #[Ej #[Ey Ew 0,Ey Ew 0],Ej #[Ey Ew 1,Ey Ew 0],Ej #[Ey Ew 1,Ey Ew 1],Ej #[Ey Ew 1,Ey Ew 3]] w' fun e w2=>∃v,e = Eh (Ev #[v,Ey Ew 0])/\cF w2 v (some YO)/\zf w' w2:=fun w'=>by
  have:=DJ 0 0 1 0 1 1 1 3 w' D8 D8 D8 D8;rw[CE]at this;exact this
 have L1:∀ (x:Int) (r:Rat),-9223372036854775808<=x->x<=9223372036854775807->(x:Rat)=r->∀w',Ee Ed 29 #[Ey Ew x,Ey Ew 1] w' fun e w2=>∃v,e = Eh v/\FR w2 v r/\zf w' w2:=fun x r h0 h1 e w'=>by have:=Vl x 1 w' h0 h1 D8 D8 D8; rw[YE,e]at this; exact this
 have Z0:=L1 0 (YO 0) D8 D8 (by rw[Z8.1]; rfl);have Z1:=L1 2 (YO 1) D8 D8 (by rw[Z8.2.1]; rfl);have Z2:=L1 1 (YO 2) D8 D8 (by rw[Z8.2.2.1]; rfl);have Z3:=L1 1 (YO 3) D8 D8 (by rw[Z8.2.2.2]; rfl);have Z5:=L1 1 1 D8 D8 rfl;have Z4:=fun w'=>Vl 8281 1000 w' D8 D8 D8 D8 D8;have OQ:= @Kd;generalize ((8281:Int):Rat) / ((1000:Int):Rat)=q at *;clear L1;have RU:= @Cz;generalize ((1:Int):Rat) / ((10:Int):Rat)=tn at *;generalize YO=T at *
 go_enter Tryz.func17,Tryz.ntmps17
 go_wp2_with fail
 refine(PO _).mono ?_;rintro e w1 ⟨m7,rfl,bl,st⟩;have B:=bA w st;clear st;obtain⟨X,cx,g8,gj,fl,gr,gL,cy,gF,Z,fe,eW,gC,gG,eM,gM,gp,Y,gn,ft,fd,gE,gB,gA,gH,gI,gN,gt,g9,gK,gD,gd,rfl⟩:=cF.ak bl;have H:=E7 bl;clear bl;have lJ:=B.size;go_wp2_with fail
 refine(Z5 _).mono ?_;rintro e w2 ⟨lF,rfl,gz,st⟩;have sk:=bA w1 st;replace B:=bS B sk;have I:ai w2 w1.heap.size 30 #[Ez X,Ex cx g8 gj,Ez fl,Ex gr gL cy,Ez gF,Ex Z fe eW,Ez gC,Ex gG eM gM,Ez gp,Ex Y gn ft,Ez fd,Ex gE gB gA,Ez gH,Ex gI gN gt,Ez g9,Ex gK gD gd]:=ai.au st;replace H:=E7 (H.out.ae sk);clear st sk;obtain⟨lN,mh,m9,mj,mr,mt,lQ,lP,rfl⟩:=gz.ak;have J:=E7 gz;clear gz;go_wp2_with fail
 refine(RU _).mono ?_;rintro e w3 ⟨lY,ma,mf,lX,ms,mg,lK,ml,m8,lM,lO,lZ,lW,lE,mn,lI,rfl,gO,gP,st⟩;have sk:=bA w2 st;replace B:=bS B sk;replace I:=I.ae sk;replace H:=E7 (H.out.ae sk);replace J:=E7 (J.out.ae sk);clear st sk;have gi:=E7 gO;clear gO;have gk:=E7 gP;clear gP;have lh:w1.heap.size<w3.heap.size:=I.lt;have mb:=B.size;go_wp2_with fail
 refine(OQ _ (gi.out.af zw) (gk.out.af zw) (J.out.af zw) zC).mono ?_;rintro e w4 ⟨lH,rfl,gJ,st⟩;have sk:=bA w3 st;replace B:=bS B sk;replace I:=I.ae sk;replace H:=E7 (H.out.ae sk);replace J:=E7 (J.out.ae sk);replace gi:=E7 (gi.out.ae sk);replace gk:=E7 (gk.out.ae sk);clear st sk;obtain⟨i6,iH,iO,ip,iQ,iP,i8,iv,k6,iz,gW,gV,gQ,gR,gT,gY⟩:=I.dT;have kw:=I.lt;obtain⟨ky,l6,ko,kx,l8,l3,l9,ks,rfl⟩:=gJ.ak;have gX:=E7 gJ;clear gJ;have lf:w1.heap.size<w4.heap.size:=I.lt;have lG:=B.size;go_wp2_with fail
 go_upto_region 3 with fail
 refine aj.c_ w w4 [.o w1.heap.size 30 #[Ez X,Ex cx g8 gj,Ez fl,Ex gr gL cy,Ez gF,Ex Z fe eW,Ez gC,Ex gG eM gM,Ez gp,Ex Y gn ft,Ez fd,Ex gE gB gA,Ez gH,Ex gI gN gt,Ez g9,Ex gK gD gd],.o w4.heap.size 28 #[Ez ky,Ex l6 ko kx,Ez l8,Ex l3 l9 ks]] [4,5,6,7,9,17,18] [(4,xh),(5,xh),(6,xh),(7,xh),(9,fun z_=>z_ = Ez true),(17,xh),(18,fun z_=>z_ = Ez true)] [(4,bV ((T 0))),(5,bV ((T 1))),(6,bV ((T 2))),(7,bV ((T 3))),(17,bV (q))] [(9,[(4,some 24),(5,some 25),(6,some 26),(7,some 27)]),(18,[(17,some 37)]),(21,[(4,some 24),(5,some 25),(6,some 26),(7,some 27),(9,some 29),(17,some 37),(18,some 38)])] [] (by simp only[aV]; exact⟨zh,zw,zC,zC,trivial⟩) (fun N0 lg iF Q' E hQ=> ?_);clear i6 iH iO ip iQ iP i8 iv k6 iz gW gV gQ gR gT gY kw;clear lg
 repeat refine aj.aG _ ?_
 refine aj.e_ E 23 (fun _ _ _ h=>h.e.1.dT) ?_;refine aj.sC E (fun D v' M _ _=>Z0 M) ?_;rintro _ ⟨iX,i4,iV,i7,iB,ig,iA,gZ,rfl⟩;refine aj.dQ rfl ?_;refine aj.sC E (fun D v' M _ _=>Z1 M) ?_;rintro _ ⟨iD,iN,iM,ji,iI,jb,iK,iZ,rfl⟩;refine aj.dQ rfl ?_;refine aj.sC E (fun D v' M _ _=>Z2 M) ?_;rintro _ ⟨ki,k7,iJ,it,iL,ik,iu,iU,rfl⟩;refine aj.dQ rfl ?_;refine aj.sC E (fun D v' M _ _=>Z3 M) ?_;rintro _ ⟨iC,h9,iY,iR,k8,iq,iW,ir,rfl⟩;refine aj.dQ rfl ?_;refine aj.bG E 28 ?_;refine aj.sV E (fun D v' M h N=>Wv M (H.out.af h.k) (DN (N (4,some 24) (.head _) rfl).2.2 (N (5,some 25) (.tail _ (.head _)) rfl).2.2 (N (6,some 26) (.tail _ (.tail _ (.head _))) rfl).2.2 (N (7,some 27) (.tail _ (.tail _ (.tail _ (.head _)))) rfl).2.2)) ?_;refine aj.dQ rfl ?_
 repeat refine aj.aG _ ?_
 refine aj.bG E 32 ?_;refine aj.bG E 33 ?_
 repeat refine aj.aG _ ?_
 refine aj.e_ E 36 (fun _ _ _ h=>h.e.2.1.r3) ?_;refine aj.sC E (fun D v' M _ _=>Z4 M) ?_;rintro _ ⟨iy,iE,ij,iT,jd,iG,iS,i5,rfl⟩;refine aj.dQ rfl ?_;refine aj.sV E (fun D v' M h N=>Zh (o:=some q) M (gX.out.af h.k) (N (17,some 37) (.head _) rfl).2.2) ?_;refine aj.dQ rfl ?_
 repeat refine aj.aG _ ?_
 refine aj.sE (fun _ v' w5 B jk hl _ _ N=> ?_);simp only[xZ,qk]at hl;obtain⟨I,me,-⟩:=hl;have lj:Hid (FR w5 (Ej #[Ez iX,Ex i4 iV i7,Ez iB,Ex ig iA gZ]) ((T 0))):=(N (4,some 24) (.head _) rfl).2.2;have lw:Hid (FR w5 (Ej #[Ez iD,Ex iN iM ji,Ez iI,Ex jb iK iZ]) ((T 1))):=(N (5,some 25) (.tail _ (.head _)) rfl).2.2;have ln:Hid (FR w5 (Ej #[Ez ki,Ex k7 iJ it,Ez iL,Ex ik iu iU]) ((T 2))):=(N (6,some 26) (.tail _ (.tail _ (.head _))) rfl).2.2;have lk:Hid (FR w5 (Ej #[Ez iC,Ex h9 iY iR,Ez k8,Ex iq iW ir]) ((T 3))):=(N (7,some 27) (.tail _ (.tail _ (.tail _ (.head _)))) rfl).2.2;have lC:Hid (FR w5 (Ej #[Ez iy,Ex iE ij iT,Ez jd,Ex iG iS i5]) (q)):=(N (17,some 37) (.tail _ (.tail _ (.tail _ (.tail _ (.tail _ (.head _)))))) rfl).2.2;replace H:=E7 (H.out.af jk);replace J:=E7 (J.out.af jk);replace gi:=E7 (gi.out.af jk);replace gk:=E7 (gk.out.af jk);replace gX:=E7 (gX.out.af jk);clear N jk;refine hQ _ _ ?_;clear hQ E Q' iF;go_wp2_with fail
 refine Eo (by simp[results,Tryz.results17,go_sem,]; rfl) rfl ?_;exact⟨rfl,zh⟩
theorem GF (I:l.length=n) (ht:f9.toList.take n=ints l) {k:Nat} (H:k<n):f9[k]? = some (Ey Ew (l.getD k 0)):=by
 subst I;have E:(f9.toList.take l.length)[k]? = (ints l)[k]? :=by rw[ht]
 rw[List.getElem?_take,E9 H]at E;rw[<- Array.getElem?_toList,E];unfold ints;rw[List.getElem?_map,List.getD_eq_getElem?_getD,List.getElem?_eq_getElem H];rfl
theorem Ji {b:Nat} (E:ai w b t f9) (H:l.length=n) (hc:n<=cap) (ht:f9.toList.take n=ints l):aF w (Ex (some ⟨b,0,none⟩) n cap) l:=by
 subst H;refine⟨_,cap,rfl,hc,fun _=>⟨b,0,rfl,E.lt,fun k I=> ?_⟩⟩;rw[Nat.zero_add,E.cell k,GF rfl ht I]
theorem Z9 {n:Int} : ∀m,YM l n m=true↔∀t,t<m->-1<=l.getD t 0/\l.getD t 0<n
 | 0=>⟨fun _ t ht=>absurd ht (Nat.not_lt_zero t),fun _=>rfl⟩
 | m+1=>by
  unfold YM;rw[Bool.and_eq_true,Z9 m,decide_eq_true_iff]
  constructor
  .
   rintro ⟨H,E⟩ t ht
   rcases Er t m with g | g
   . exact H t g
   .
    obtain rfl:t=m:=D6
    exact E
  . exact fun h=>⟨fun t ht=>h t D6,h m D6⟩
def ZQ (o0 o1 o2 E:Int) (i:Nat):Bool:=((i:Int)==o0)||((i:Int)==o1)||((i:Int)==o2)||((i:Int)==E)
def wo (l:List Int) (out:Nat->Bool):Nat->List Int
 | 0=> []
 | t+1=>if out t then wo l out t else wo l out t ++ [l.getD t 0]
theorem Ke (l:List Int) (out:Nat->Bool):∀t,(wo l out t).length<=t
 | 0=>Ep _
 | t+1=>by
  have:=Ke l out t;unfold wo
  split
  . omega
  . rw[List.length_append,List.length_singleton]; omega
theorem Kf (l:List Int) (out:Nat->Bool):∀t x,x∈wo l out t->∃i,i<t/\x=l.getD i 0
 | t+1,x,h=>by
  unfold wo at h
  split at h
  . obtain⟨i,E,e⟩:=Kf l out t x h; exact⟨i,by omega,e⟩
  .
   rcases List.mem_append.1 h with h | h
   . obtain⟨i,E,e⟩:=Kf l out t x h; exact⟨i,by omega,e⟩
   . exact⟨t,by omega,List.mem_singleton.1 h⟩
theorem Vm (w s:Rat) (l:List Int) (out:Nat->Bool):∀t,jy w s (wo l out t)=xu w s l out t
 | 0=>rfl
 | t+1=>by
  unfold wo xu;rw[<- Vm w s l out t]
  split
  . rfl
  .
   rw[Xx];simp only[jy,Rat.mul_one]
theorem CI {n:Int} (h:YM l n l.length=true):YM (wo l out l.length) n (wo l out l.length).length=true:=by
 refine(Z9 _).2 fun t ht=> ?_
 have E:(wo l out l.length).getD t 0∈wo l out l.length:=by
  rw[List.getD,List.getElem?_eq_getElem ht]; exact List.getElem_mem ht
 obtain⟨i,H,e⟩:=Kf l out _ _ E;rw[e];exact(Z9 _).1 h i H
theorem Jj (t:Nat->Rat) (a9:Rat) (l m:PL):YM (yy t a9 l m l.length) (m.length:Int) (yy t a9 l m l.length).length=true:=by
 refine(Z9 _).2 fun i E=> ?_;rw[qg]at E;rw[Za t a9 l m _ i E];obtain⟨I,H,-⟩:=Xw (XS t (pt l i)) (XT t (pt l i)) a9 m m.length;exact⟨I,H⟩
theorem Bg (w:Ef) (h:FR w va r) (Y:FR w vb s) :
  Ee Ed 16 #[va,vb] w fun e w'=>e = Eh (Ez (decide (r=s)))/\zf w w':=by
 obtain⟨f1,f2⟩:=h.fit;obtain⟨f3,f4⟩:=Y.fit;obtain⟨t1,n1,q1,t2,n2,q2,rfl,p1,p2,-⟩:=h.bU;obtain⟨t3,n3,q3,t4,n4,q4,rfl,p3,p4,-⟩:=Y.bU;have s1:∀w',zf w w'->Ee Ed 44 #[Ej #[Ez (decide (r<0)),Ex t1 n1 q1],Ej #[Ez (decide (s<0)),Ex t3 n3 q3]] w' fun e M=>e = Eh (Ez (decide (r.num=s.num)))/\zf w' M:=fun w' J=>Qr w' (p1.ae J) (p3.ae J) f1 f3;have s2:∀w',zf w w'->Ee Ed 44 #[Ej #[Ez false,Ex t2 n2 q2],Ej #[Ez false,Ex t4 n4 q4]] w' fun e M=>e = Eh (Ez (decide ((r.den:Int)=(s.den:Int))))/\zf w' M:=fun w' J=>Qr w' (p2.ae J) (p4.ae J) f2 f4
 have E:decide (r=s)=(decide (r.num=s.num)&&decide ((r.den:Int)=(s.den:Int))):=by
  rw[<- Bool.decide_and];refine decide_eq_decide.2 ⟨fun e=>by subst e; exact⟨rfl,rfl⟩,fun⟨e1,e2⟩=>Rat.ext e1 D6⟩
 rw[E];generalize decide (r.num=s.num)=b1 at *;generalize decide ((r.den:Int)=(s.den:Int))=b2 at *;generalize decide (r<0)=g1 at *;generalize decide (s<0)=g3 at *;clear h Y f1 f2 f3 f4 p1 p2 p3 p4 E
 go_enter Tryz.func16,Tryz.ntmps16
 go_wp2_with fail
 refine(s1 _ zh).mono ?_;rintro e w1 ⟨rfl,H⟩;have B:Below w.heap.size w w1:=yI H;have X:ai w1 w.heap.size 28 #[Ez g1,Ex t1 n1 q1,Ez false,Ex t2 n2 q2]:=ai.au H;have Z:ai w1 (w.heap.size+1) 28 #[Ez g3,Ex t3 n3 q3,Ez false,Ex t4 n4 q4]:=ai.au H;clear H s1;have bl:=X.c 2 rfl;have T:=X.c 3 rfl;have N:=Z.c 2 rfl;have cx:=Z.c 3 rfl
 cases b1 with
 | false=>
  go_wp2
  go_returns
  exact⟨rfl,B⟩
 | true=>
  go_wp2_with fail
  refine(s2 _ B).mono ?_;rintro e M ⟨rfl,I⟩;have B2:=zA B (Ep _) I;clear X Z bl T N cx I B s2
  go_wp2
  go_returns
  exact⟨by simp,B2⟩
theorem Wy (k0 k1 k2 k3:Int) (w:Ef) (h:aF w v l) (hl:l.length<=1000) :
  Ee Ed 34 #[v,Ej #[Ey Ew k0,Ey Ew k1,Ey Ew k2,Ey Ew k3]] w fun e w'=>∃u,e = Eh u/\aF w' u (wo l (ZQ k0 k1 k2 k3) l.length)/\zf w w':=by
 obtain⟨ao,cap,rfl⟩:=h.ak;have HC:=E7 h;obtain⟨n,hn⟩:∃n,l.length=n:=⟨_,rfl⟩;have HL:=E7 hn;obtain⟨E,H⟩:∃f,wo l (ZQ k0 k1 k2 k3)=f:=⟨_,rfl⟩;have W0:E 0 = []:=by rw[<- H]; rfl
 have WS:∀t,E (t+1)=if ZQ k0 k1 k2 k3 t then E t else E t ++ [l.getD t 0]:=fun t=>by rw[<- H]; rfl
 have WL:∀t,(E t).length<=t:=fun t=>by rw[<- H]; exact Ke l _ t
 rw[hn]at HC hl|-;rw[H];have HW:=E7 (E8 WS WL);clear h hn H WS WL
 go_enter Tryz.func34,Tryz.ntmps34
 go_wp2_with fail
 go_loopw [5,6] (fun oo kk wr=>∃ (t:Nat) (ow:Ei),ow=oo/\t<=n/\kk = Ey Ew t/\aX wr (w.heap.size+1) 3 1 ow (E t).length (ints (E t))/\ai wr w.heap.size 80 #[Ey Ew k0,Ey Ew k1,Ey Ew k2,Ey Ew k3]/\Below w.heap.size w wr) (fun _ kk _=>n-(intOf kk).toNat)
 case atStart=>exact⟨0,_,rfl,Nat.zero_le _,rfl,by rw[W0]; exact aX.nil _ _ _ _,zC,zh⟩
 case round=>
  obtain⟨t,ow,rfl,ht,rfl,hr,I,B⟩:=hrel;obtain⟨oa,T,rfl⟩:=hr.len;have HR:=E7 hr;clear hr
  rcases Er t n with tn | tn
  .
   have fe:decide ((t:Int)<(n:Int))=true:=E' D6;obtain⟨b,of,rfl,eM,h0⟩:=HC.out.eX (t:=t) (by have:=HL.out; omega);have c0:wr.cell? ⟨b,of+t,none⟩=some (Ey Ew (l.getD t 0)):=(B.cell (p:=⟨b,_,none⟩) eM).trans h0;have HS:=E7 (HW.out.1 t);have cy:(E t).length<=100000:=by have:=HW.out.2 t; omega
   obtain⟨y,Y⟩:∃y,l.getD t 0=y:=⟨_,rfl⟩;have zz:=B.size;have q0:=I.c 0 rfl;have q1:=I.c 1 rfl;have q2:=I.c 2 rfl;have q3:=I.c 3 rfl;have ql:=I.lt
   cases ho:ZQ k0 k1 k2 k3 t with
   | true=>
    have M:E (t+1)=E t:=by rw[HS.out,ho,E9 rfl]
    have H1:=E7 M;have J:=ho;unfold ZQ at J;simp only[Bool.or_eq_true,beq_iff_eq]at J
    rcases(show (t:Int)=k0\/((t:Int)≠k0/\(t:Int)=k1)\/((t:Int)≠k0/\(t:Int)≠k1/\(t:Int)=k2)\/((t:Int)≠k0/\(t:Int)≠k1/\(t:Int)≠k2/\(t:Int)=k3) by omega)with rfl | ⟨Z,rfl⟩ | ⟨Z,m1,rfl⟩ | ⟨Z,m1,m2,rfl⟩
    all_goals clear ho J M Y
    all_goals go_wp2_with fail
    all_goals go_roundw
    all_goals first | exact⟨t+1,_,rfl,by omega,by go_num,by rw[H1.out]; exact HR.out,I,B⟩ | (simp[intOf]; omega)
   | false=>
    have M:E (t+1)=E t ++ [y]:=by rw[HS.out,ho,Y]; rfl
    have e2:(E (t+1)).length=(E t).length+1:=by rw[M,List.length_append]; rfl
    have H1:=E7 (E8 M e2);unfold ZQ at ho;simp only[Bool.or_eq_false_iff,beq_eq_false_iff_ne]at ho;obtain⟨⟨⟨Z,m1⟩,m2⟩,m3⟩:=ho;rw[Y]at c0;clear M e2 Y h0;have b0:((t:Int) != k0)=true:=bne_iff_ne.2 Z;have b1:((t:Int) != k1)=true:=bne_iff_ne.2 m1;have b2:((t:Int) != k2)=true:=bne_iff_ne.2 m2;have b3:((t:Int) != k3)=true:=bne_iff_ne.2 m3
    repeat' (first | ((with_reducible show wpList _ _ _ (⟨some 41,_,_,_,_,_⟩::_) _ _); refine Ve rfl (.tmp 35) (.tmp 40) rfl (w.heap.size+1) (E t).length (Ex oa (E t).length T) (E t) rfl (HR.out.alloc _) wr.heap.size y rfl (ai.new _ _ _) cy E6 (fun v' w7 N X=> ?_)) | go_values | go_skip | go_guarded | go_step | go_upon)
    .
     obtain⟨fd,bl,rfl⟩:=N.len;have r6:=HR.out.alloc (.cells #[Ey Ew y] 3);have eW:=r6.bI X (I.alloc _) D6;have B7:=r6.below X (B.alloc B.size _) D6;have cx:=E7 N
     go_roundw
     case rel=>exact⟨t+1,_,rfl,by omega,by go_num,by rw[H1.out.1,List.length_append,List.length_singleton]; exact cx.out,eW,B7⟩
     case measure=>simp[intOf]; omega
  .
   obtain rfl:t=n:=D6
   go_wp2_with fail
   go_returns
   exact⟨_,rfl,HR.out.ints,B⟩
theorem y9 {l:PL} (h:zP l=0) (k:Nat) (E:k<l.length):qq (pt l k):=by
 have:=Zc h k E;exact this
theorem qE {l:PL} (h:zP l=0):l.length<=200:=by
 unfold zP at h
 rcases Er 200 l.length with g | g
 . rw[E9 g]at h; cases h
 . exact g
theorem Bh {t:Nat->Rat} {p:Int×Int} (ht:∀i,i<4->sz (t i) 16) (h:qq p):sz (XS t p) 60/\sz (XT t p) 60:=by
 have H:sz (p.1:Rat) 2:=yq ⟨h.1,h.2.1⟩;have E:sz (p.2:Rat) 2:=yq ⟨h.2.2.1,h.2.2.2⟩;refine⟨?_,?_⟩
 .
  unfold XS;exact(((((ht 0 D6).mul H).sub ((ht 1 D6).mul E)).add (ht 2 D6)).mono D6)
 .
  unfold XT;exact(((((ht 1 D6).mul H).add ((ht 0 D6).mul E)).add (ht 3 D6)).mono D6)
theorem Vn {x:Rat} {k:Nat} (J:sz x k) (I:sz y k) (E:sz a9 2) (H:zP m=0):∀n,n<=m.length->sz (xp x y a9 m n).2 (k+3)
 | 0,_=>E.mono D6
 | n+1,h=>by
  unfold xp
  split
  . exact Q9 J I (y9 H n D6)
  . exact Vn J I E H n D6
theorem Uf {x:Rat} {c:Int} (hc:z9 (yP x y (pt m n)) (xp x y a9 m n).2=c) :
  (c<0->xp x y a9 m (n+1)=((n:Int),yP x y (pt m n)))/\(c=0->(xp x y a9 m n).1<0->xp x y a9 m (n+1)=((n:Int),yP x y (pt m n)))/\(¬c<0->¬(c=0/\(xp x y a9 m n).1<0)->xp x y a9 m (n+1)=xp x y a9 m n):=by
 subst hc;refine⟨fun h=>E9 (.inl (bj.1 h)),fun h g=>E9 (.inr ⟨ZV.1 h,g⟩),fun h g=>E_ ?_⟩;rintro (e | ⟨e,e2⟩)
 . exact h (bj.2 e)
 . exact g ⟨ZV.2 e,e2⟩
theorem Wz {xs:List Int} (H:i<f9.size) (E:xs.length=i) (ht:f9.toList.take i=ints xs) (x:Int):(f9.setIfInBounds i (Ey Ew x)).toList.take (i+1)=ints (xs ++ [x]):=by
 rw[Array.toList_setIfInBounds,List.take_set,List.take_succ_eq_append_getElem (by simpa using H),ht,Xy,List.set_append];have e:(ints xs).length=i:=by unfold ints; rw[List.length_map,E]
 rw[E_ D6,e,Nat.sub_self];rfl
theorem GG:(Tryz.prog.info? 3).map (fun i=>(i.zero,i.size,i.bytes))=some (some (Ey Ew 0),1,8):=by kernel_rfl
theorem Ug (n:Nat) (h:n<=1000000000) (w:Ef):(Instr.makeSlice 46 (Ey Ew (n:Int)) (Ey Ew (n:Int))).run Ed w = .ok (Ex (some ⟨w.heap.size,0,none⟩) n n) (w.alloc (.cells (madeCells #[Ey Ew 0] n) 3)):=
 run_make_row' (P:=Ed) 46 3 (Ey Ew 0) 8 Tryz.underlying46 GG rfl Ew Ew n D6 D6 w
theorem X2 {cs:Array Ei} (h:zV cs=true) (i:Nat) (x:Int):zV (cs.setIfInBounds i (Ey Ew x))=true:=by
 unfold zV at h|-;rw[Array.toList_setIfInBounds];rw[List.all_eq_true]at h|-;intro v hv
 rcases List.mem_or_eq_of_mem_set hv with g | g
 . exact h v g
 . rw[g]
theorem WA (n:Nat):zV (madeCells #[Ey Ew 0] n)=true:=by
 unfold zV;rw[List.all_eq_true];intro v hv;unfold madeCells at hv;rw[Array.toList_map,List.mem_map]at hv;obtain⟨a,-,rfl⟩:=hv;rw[show (#[Value.int Ew 0]:Array Ei).size=1 from rfl,Nat.mod_one];rfl
theorem GH {P:Program} {ops:Array Oper} {Q:Exit->Act->Ef->Prop} {rest:List Oper} {a:Act} {W:Ef} (J:Ef->Prop) (H:J W) (h:∀E,J E->wpList P ops Q rest a E):wpList P ops Q rest a W:=h W H
theorem WB {t:Nat->Rat} {l:PL} (a9:Int) (w:Ef) (hc:ai w gc tc #[Ey Ew 0]) (h0:FR w (Ej #[Ez cn,Ex d9 bf ci,Ez cZ,Ex ce ah dl]) (t 0)) (h1:FR w (Ej #[Ez dt,Ex cg be cN,Ez bt,Ex dk b9 dc]) (t 1)) (h2:FR w (Ej #[Ez em,Ex ey br dy,Ez ek,Ex ed bi er]) (t 2)) (h3:FR w (Ej #[Ez eS,Ex f7 bg dx,Ez f8,Ex ec bh dP]) (t 3)) (ht:∀i,i<4->sz (t i) 16) (hl:bT w vl l) (hm:bT w vm m) (cl:zP l=0) (cm:zP m=0) (r0:1<=a9) (r1:a9<=65536) :
  Ee Ed 61 #[Ek (some ⟨gc,0,none⟩),Ej #[Ez cn,Ex d9 bf ci,Ez cZ,Ex ce ah dl,Ez dt,Ex cg be cN,Ez bt,Ex dk b9 dc,Ez em,Ex ey br dy,Ez ek,Ex ed bi er,Ez eS,Ex f7 bg dx,Ez f8,Ex ec bh dP],vl,vm,Ey Ew a9] w fun e w'=>∃u,e = Eh u/\aF w' u (yy t (a9:Rat) l m l.length)/\zf w w':=by
 have KC:∀w',zf w w'->ai w' gc tc #[Ey Ew 0]:=fun w' s=>hc.ae s
 have AP:∀i,i<l.length->∀w',zf w w'->Ee Ed 42 #[Ek (some ⟨gc,0,none⟩),Ej #[Ez cn,Ex d9 bf ci,Ez cZ,Ex ce ah dl,Ez dt,Ex cg be cN,Ez bt,Ex dk b9 dc,Ez em,Ex ey br dy,Ez ek,Ex ed bi er,Ez eS,Ex f7 bg dx,Ez f8,Ex ec bh dP],Ej #[Ey Ew (pt l i).1,Ey Ew (pt l i).2]] w' fun e w2=>∃u v,e = Eh (Ev #[u,v])/\FR w2 u (XS t (pt l i))/\FR w2 v (XT t (pt l i))/\zf w' w2:=fun i hi w' s=>by
  have ok:=y9 cl i hi;have k:=av.ae s;exact Wh (pt l i).1 (pt l i).2 w' (KC w' s) (h0.af k) (h1.af k) (h2.af k) (h3.af k) ((ht 0 D6).mono D6) ((ht 1 D6).mono D6) ((ht 2 D6).mono D6) ((ht 3 D6).mono D6) ⟨ok.1,ok.2.1⟩ ⟨ok.2.2.1,ok.2.2.2⟩
 have RA:∀w',zf w w'->Ee Ed 66 #[Ek (some ⟨gc,0,none⟩),Ey Ew a9] w' fun e w2=>∃v,e = Eh v/\FR w2 v (a9:Rat)/\zf w' w2:=fun w' s=>U1 a9 w' (KC w' s) D6 D6;have SA:=fun i (hi:i<l.length)=>Bh ht (y9 cl i hi);have zr:sz (a9:Rat) 2:=yq ⟨by omega,by omega⟩;have DI:∀i,i<l.length->∀k,k<m.length->∀ (w':Ef) (u v:Ei),zf w w'->FR w' u (XS t (pt l i))->FR w' v (XT t (pt l i))->Ee Ed 101 #[Ek (some ⟨gc,0,none⟩),u,v,Ej #[Ey Ew (pt m k).1,Ey Ew (pt m k).2]] w' fun e w2=>∃d,e = Eh d/\FR w2 d (yP (XS t (pt l i)) (XT t (pt l i)) (pt m k))/\zf w' w2:=fun i hi k hk w' u v s hu hv=>H8 (pt m k).1 (pt m k).2 w' (KC w' s) hu hv ((SA i hi).1.mono D6) ((SA i hi).2.mono D6) (y9 cm k hk);have CM:∀i,i<l.length->∀k,k<m.length->∀ (w':Ef) (u v:Ei),zf w w'->FR w' u (yP (XS t (pt l i)) (XT t (pt l i)) (pt m k))->FR w' v (xp (XS t (pt l i)) (XT t (pt l i)) (a9:Rat) m k).2->Ee Ed 67 #[Ek (some ⟨gc,0,none⟩),u,v] w' fun e w2=>e = Eh (Ey Ew (z9 (yP (XS t (pt l i)) (XT t (pt l i)) (pt m k)) (xp (XS t (pt l i)) (XT t (pt l i)) (a9:Rat) m k).2))/\zf w' w2:=fun i hi k hk w' u v s hu hv=>xD w' (KC w' s) hu hv (Q9 (SA i hi).1 (SA i hi).2 (y9 cm k hk)) (Vn (SA i hi).1 (SA i hi).2 zr cm k D6) D6;have SP:=fun i k c (h:z9 (yP (XS t (pt l i)) (XT t (pt l i)) (pt m k)) (xp (XS t (pt l i)) (XT t (pt l i)) (a9:Rat) m k).2=c)=>Uf h;have P0:∀i,xp (XS t (pt l i)) (XT t (pt l i)) (a9:Rat) m 0=(-1,(a9:Rat)):=fun i=>rfl;have PS:∀i,yy t (a9:Rat) l m (i+1)=yy t (a9:Rat) l m i ++ [(xp (XS t (pt l i)) (XT t (pt l i)) (a9:Rat) m m.length).1]:=fun i=>rfl;have gJ:=qg t (a9:Rat) l m;have PZ:yy t (a9:Rat) l m 0 = []:=rfl;have l9:=qE cl;have lg:=qE cm;obtain⟨PA,gW⟩:∃f,yy t (a9:Rat) l m=f:=⟨_,rfl⟩;obtain⟨XX,iI⟩:∃f:Nat->Rat,∀i,XS t (pt l i)=f i:=⟨_,fun _=>rfl⟩;obtain⟨YY,iO⟩:∃f:Nat->Rat,∀i,XT t (pt l i)=f i:=⟨_,fun _=>rfl⟩;simp only[iI,iO,gW]at AP DI CM SP P0 PS gJ PZ|-;obtain⟨DD,iJ⟩:∃f:Nat->Nat->Rat,∀i k,yP (XX i) (YY i) (pt m k)=f i k:=⟨_,fun _ _=>rfl⟩;obtain⟨PP,ip⟩:∃f:Nat->Nat->Int×Rat,∀i k,xp (XX i) (YY i) (a9:Rat) m k=f i k:=⟨_,fun _ _=>rfl⟩;simp only[iJ,ip]at DI CM SP P0 PS;obtain⟨la,lc,rfl⟩:=hl.ak;obtain⟨ma,mc,rfl⟩:=hm.ak;have ij:=E7 hl;have iG:=E7 hm;obtain⟨N,hN⟩:∃n,l.length=n:=⟨_,rfl⟩;obtain⟨M,hM⟩:∃n,m.length=n:=⟨_,rfl⟩;have HN:=E7 hN;have HM:=E7 hM;rw[hN]at AP DI CM ij l9|-;rw[hM]at DI CM PS iG lg|-;have m7:=Ug N D6;clear hc h0 h1 h2 h3 ht hl hm cl cm r0 r1 SA zr gW iI iO iJ ip hN hM
 go_enter Tryz.func61,Tryz.ntmps61
 have Y:=av.refl w;go_wp2_with fail
 go_loopw [29] (fun sl0 wr=>∃ (i:Nat) (CO:Array Ei),i<=N/\sl0 = Ey Ew i/\CO.size=N/\CO.toList.take i=ints (PA i)/\zV CO=true/\ai wr (w.heap.size+1) 3 CO/\ai wr w.heap.size 30 #[Ez cn,Ex d9 bf ci,Ez cZ,Ex ce ah dl,Ez dt,Ex cg be cN,Ez bt,Ex dk b9 dc,Ez em,Ex ey br dy,Ez ek,Ex ed bi er,Ez eS,Ex f7 bg dx,Ez f8,Ex ec bh dP]/\Below w.heap.size w wr/\av w wr) (fun sl0 _=>N-(intOf sl0).toNat)
 case atStart=>exact⟨0,_,by omega,rfl,size_madeCells _ _,(by rw[PZ]; rfl),WA _,zC,zC,zh,zw⟩
 case round=>
  rename Ef=>wo
  try clear B
  try clear Y
  obtain⟨i,CO,hi,rfl,hs,gG,gt,H,os,B,Y⟩:=hrel;obtain⟨iL,iN,gX,iC,iT,ik,iH,iq,gO,gZ,gz,gC,gE,gB,gA,gD⟩:=os.dT;have ls:=os.lt
  rcases Er i N with i4 | i4
  .
   have m9:decide ((i:Int)<(N:Int))=true:=E' D6;obtain⟨b,of,rfl,gF,gi,gd⟩:=ij.out.at (a:=i) (by have:=HN.out; omega);have cx:wo.cell? ⟨b,of+i*2,none⟩=some (Ey Ew (pt l i).1):=(B.cell (p:=⟨b,_,none⟩) gF).trans gi;have cy:wo.cell? ⟨b,of+i*2+1,none⟩=some (Ey Ew (pt l i).2):=(B.cell (p:=⟨b,_,none⟩) gF).trans gd;have ap:=AP i i4;have di:=DI i i4;have iY:=CM i i4;have sp:=SP i;have p0:=P0 i;have ps:=PS i;clear gi gd gF;have lH:w.heap.size+1<wo.heap.size:=H.lt;have mj:=B.size;go_wp2_with fail
   refine(ap _ zh).mono ?_;rintro e w1 ⟨me,mb,rfl,gk,fl,st⟩;have sk:=bA wo st;replace B:=bS B sk;have I:ai w1 wo.heap.size 23 #[Ey Ew (pt l i).1,Ey Ew (pt l i).2]:=ai.au st;replace os:=os.ae sk;replace H:=H.ae sk;replace Y:=Y.aI sk;clear st sk iL iN gX iC iT ik iH iq gO gZ gz gC gE gB gA gD ls;obtain⟨gL,iy,iU,i6,iQ,iP,iR,iz,rfl⟩:=FR.ak gk;have X:=E7 gk;clear gk;obtain⟨h9,i5,iD,iK,gY,gV,gP,iM,rfl⟩:=FR.ak fl;have T:=E7 fl;clear fl;have lG:wo.heap.size<w1.heap.size:=I.lt;have lO:=B.size;dsimp only;have lq:=H.lt;have fq:=H.fr;have l6:=B.size;have jb:w.heap.size+1≠w1.heap.size:=D6
   have k6:w.heap.size+1≠w1.heap.size+1:=D6
   have lw:w.heap.size+1<w1.heap.size+1:=D6
   have jd:w1.cell? ⟨w.heap.size+1,i,none⟩=some (CO[i]'D6):=(H.cell i).trans (Array.getElem?_eq_getElem D6)
   repeat' (first | (with_reducible show wpList _ _ _ (⟨some 44,_,_,_,_,_⟩::_) _ _; generalize hZ : @wpList=Z) | go_values | go_skip | go_guarded | go_step | go_upon)
   subst hZ;clear lq fq jd l6 jb k6 lw;refine GH (fun wz=>ai wz w.heap.size 30 #[Ez cn,Ex d9 bf ci,Ez cZ,Ex ce ah dl,Ez dt,Ex cg be cN,Ez bt,Ex dk b9 dc,Ez em,Ex ey br dy,Ez ek,Ex ed bi er,Ez eS,Ex f7 bg dx,Ez f8,Ex ec bh dP]/\ai wz (w.heap.size+1) 3 (CO.setIfInBounds i (Ey Ew (-1)))/\ai wz wo.heap.size 23 #[Ey Ew (pt l i).1,Ey Ew (pt l i).2]/\ai wz w1.heap.size 28 #[Ez gL,Ex iy iU i6,Ez iQ,Ex iP iR iz]/\ai wz (w1.heap.size+1) 28 #[Ez h9,Ex i5 iD iK,Ez gY,Ex gV gP iM]/\Below w.heap.size w wz/\av w1 wz) ⟨zC,((H.bH i _).alloc _).alloc _,zC,zC,zC,zh,((av.set (av.refl _) ⟨3,CO,H,gt⟩).alloc _).alloc _⟩ ?_;rintro wx ⟨ps,pq,iv,ir,gN,B2,k2⟩;clear os H I;clear B;have B:=B2;clear B2;have os:=ps;have H:=pq;have I:=iv;have bl:=ir;have J:=gN;clear ps pq iv ir gN;replace X:=E7 (X.out.af k2);replace T:=E7 (T.out.af k2);replace Y:=Y.trans k2;clear k2;go_wp2_with fail
   refine(RA _ zh).mono ?_;rintro e w2 ⟨lZ,rfl,fe,st⟩;have sk:=bA wx st;replace B:=bS B sk;replace os:=os.ae sk;replace H:=H.ae sk;replace I:=I.ae sk;replace bl:=bl.ae sk;replace J:=J.ae sk;replace X:=E7 (X.out.ae sk);replace T:=E7 (T.out.ae sk);replace Y:=Y.aI sk;clear st sk;obtain⟨lX,lN,lP,lM,mh,mg,lY,lQ,rfl⟩:=fe.ak;have gM:=E7 fe;clear fe;have kx:w1.heap.size+1<w2.heap.size:=J.lt;have ko:=B.size;go_wp2_with fail
   go_loopw [49] (fun sl0 wr=>∃ (k:Nat) (y1:Bool) (y2:Option Addr) (y3 y4:Nat) (y5:Bool) (y6:Option Addr) (y7 y8:Nat),k<=M/\sl0 = Ey Ew k/\ai wr (w.heap.size+1) 3 (CO.setIfInBounds i (Ey Ew (PP i k).1))/\ai wr w2.heap.size 28 #[Ez y1,Ex y2 y3 y4,Ez y5,Ex y6 y7 y8]/\FR wr (Ej #[Ez y1,Ex y2 y3 y4,Ez y5,Ex y6 y7 y8]) (PP i k).2/\ai wr w.heap.size 30 #[Ez cn,Ex d9 bf ci,Ez cZ,Ex ce ah dl,Ez dt,Ex cg be cN,Ez bt,Ex dk b9 dc,Ez em,Ex ey br dy,Ez ek,Ex ed bi er,Ez eS,Ex f7 bg dx,Ez f8,Ex ec bh dP]/\ai wr wo.heap.size 23 #[Ey Ew (pt l i).1,Ey Ew (pt l i).2]/\ai wr w1.heap.size 28 #[Ez gL,Ex iy iU i6,Ez iQ,Ex iP iR iz]/\ai wr (w1.heap.size+1) 28 #[Ez h9,Ex i5 iD iK,Ez gY,Ex gV gP iM]/\Below w.heap.size w wr/\av w2 wr) (fun sl0 _=>M-(intOf sl0).toNat)
   case atStart=>exact⟨0,_,_,_,_,_,_,_,_,by omega,rfl,(by rw[p0]; exact zC),zC,(by rw[p0]; exact gM.out.af zw),zC,zC,zC,zC,zh,zw⟩
   case round=>
    clear os H I bl J
    try clear B
    have lf:=Y.trans zw
    try clear Y
    clear gM;obtain⟨k,y1,y2,y3,y4,y5,y6,y7,y8,hk,rfl,H,E,fy,os,I,bl,J,B,Y⟩:=hrel;replace X:=E7 (X.out.af Y);replace T:=E7 (T.out.af Y);have Fy:=E7 fy;clear fy;obtain⟨pk,eW⟩:∃z,(PP i k).1=z:=⟨_,rfl⟩;rw[eW]at H;obtain⟨iS,iF,gT,i8⟩:=bl.r3;have kw:=bl.lt;obtain⟨iB,ig,iA,iV⟩:=J.r3;have ks:=J.lt
    rcases Er k M with k4 | k4
    .
     have lK:decide ((k:Int)<(M:Int))=true:=E' D6;obtain⟨b',gR,rfl,gp,gi,gd⟩:=iG.out.at (a:=k) (by have:=HM.out; omega);have cx:wr.cell? ⟨b',gR+k*2,none⟩=some (Ey Ew (pt m k).1):=(B.cell (p:=⟨b',_,none⟩) gp).trans gi;have cy:wr.cell? ⟨b',gR+k*2+1,none⟩=some (Ey Ew (pt m k).2):=(B.cell (p:=⟨b',_,none⟩) gp).trans gd;have lh:=di k k4;have iE:=iY k k4;obtain⟨c,gH⟩:∃c,z9 (DD i k) (PP i k).2=c:=⟨_,rfl⟩;rw[gH]at iE;have sq:=sp k c gH;rw[eW]at sq;clear gi gd gp gH;have lC:w2.heap.size<wr.heap.size:=E.lt;have ko:=B.size;go_wp2_with fail
     refine(lh _ _ _ zh (X.out.af zw) (T.out.af zw)).mono ?_;rintro e w3 ⟨lW,rfl,g9,st⟩;have sk:=bA wr st;replace B:=bS B sk;have gK:ai w3 wr.heap.size 23 #[Ey Ew (pt m k).1,Ey Ew (pt m k).2]:=ai.au st;replace os:=os.ae sk;replace I:=I.ae sk;replace bl:=bl.ae sk;replace J:=J.ae sk;replace H:=H.ae sk;replace E:=E.ae sk;replace X:=E7 (X.out.ae sk);replace T:=E7 (T.out.ae sk);replace Fy:=E7 (Fy.out.ae sk);replace Y:=Y.aI sk;clear st sk iS iF gT i8 kw iB ig iA iV ks;obtain⟨ft,g8,fd,gn⟩:=E.r3;have gI:=E.lt;obtain⟨lj,iX,lE,l8,ji,k7,k8,lF,rfl⟩:=g9.ak;have gj:=E7 g9;clear g9;have ky:wr.heap.size<w3.heap.size:=gK.lt;have mf:=B.size;go_wp2_with fail
     refine(iE _ _ _ zh (gj.out.af zw) (Fy.out.af zw)).mono ?_;rintro e w4 ⟨rfl,st⟩;have sk:=bA w3 st;replace B:=bS B sk;have gr:ai w4 w3.heap.size 28 #[Ez lj,Ex iX lE l8,Ez ji,Ex k7 k8 lF]:=ai.au st;replace os:=os.ae sk;replace I:=I.ae sk;replace bl:=bl.ae sk;replace J:=J.ae sk;replace H:=H.ae sk;replace E:=E.ae sk;replace gK:=gK.ae sk;replace X:=E7 (X.out.ae sk);replace T:=E7 (T.out.ae sk);replace Fy:=E7 (Fy.out.ae sk);replace gj:=E7 (gj.out.ae sk);replace Y:=Y.aI sk;clear st sk ft g8 fd gn gI;dsimp only;have lq:=H.lt;have fq:=H.fr;have m8:w4.cell? ⟨w.heap.size+1,i,none⟩=some (Ey Ew pk):=(H.cell i).trans (Array.getElem?_setIfInBounds_self_of_lt D6)
     by_cases c1:c<0
     .
      have e0:=sq.1 D6;have ki:=gr.lt;have gI:=E.lt;have ln:=E.fr;obtain⟨iu,it,i7,gQ⟩:=gr.r3;obtain⟨ft,g8,fd,gn⟩:=E.r3;have lk:w.heap.size+1≠w2.heap.size:=D6
      have l3:w.heap.size+1≠w3.heap.size:=D6
      have iW:w2.heap.size≠w3.heap.size:=D6
      go_upto_region 15 with fail
      go_region
      have kq:av w4 (w4.setCell ⟨w.heap.size+1,i,none⟩ (Ey Ew (k:Int))):=av.set (av.refl _) ⟨_,_,H,X2 gt i pk⟩;have iZ:ai (w4.setCell ⟨w.heap.size+1,i,none⟩ (Ey Ew (k:Int))) (w.heap.size+1) 3 (CO.setIfInBounds i (Ey Ew (k:Int))):=by have:=H.bH i (Ey Ew (k:Int)); rw[Array.setIfInBounds_setIfInBounds]at this; exact this
      go_wp2_with fail
      go_roundw
      case rel=>exact⟨k+1,_,_,_,_,_,_,_,_,by omega,by go_num,(by rw[e0]; exact zC),zC,(by rw[e0]; exact gj.out.af (kq.trans zw)),zC,zC,zC,zC,zh,Y.trans (kq.trans zw)⟩
      case measure=>simp[intOf]; omega
     .
      by_cases c2:c=0
      .
       by_cases c3:pk<0
       .
        have e0:=sq.2.1 D6 D6;subst c2;have ki:=gr.lt;have gI:=E.lt;have ln:=E.fr;obtain⟨iu,it,i7,gQ⟩:=gr.r3;obtain⟨ft,g8,fd,gn⟩:=E.r3;have lk:w.heap.size+1≠w2.heap.size:=D6
        have l3:w.heap.size+1≠w3.heap.size:=D6
        have iW:w2.heap.size≠w3.heap.size:=D6
        go_upto_region 15 with fail
        go_region
        have kq:av w4 (w4.setCell ⟨w.heap.size+1,i,none⟩ (Ey Ew (k:Int))):=av.set (av.refl _) ⟨_,_,H,X2 gt i pk⟩;have iZ:ai (w4.setCell ⟨w.heap.size+1,i,none⟩ (Ey Ew (k:Int))) (w.heap.size+1) 3 (CO.setIfInBounds i (Ey Ew (k:Int))):=by have:=H.bH i (Ey Ew (k:Int)); rw[Array.setIfInBounds_setIfInBounds]at this; exact this
        go_wp2_with fail
        go_roundw
        case rel=>exact⟨k+1,_,_,_,_,_,_,_,_,by omega,by go_num,(by rw[e0]; exact zC),zC,(by rw[e0]; exact gj.out.af (kq.trans zw)),zC,zC,zC,zC,zh,Y.trans (kq.trans zw)⟩
        case measure=>simp[intOf]; omega
       .
        have e0:=sq.2.2 D6 (by first | omega | (intro h; omega) | (rintro ⟨h,g⟩; omega));subst c2;go_wp2_with fail
        go_roundw
        case rel=>exact⟨k+1,_,_,_,_,_,_,_,_,by omega,by go_num,(by rw[e0,eW]; exact zC),zC,(by rw[e0]; exact Fy.out.af zw),zC,zC,zC,zC,zh,Y.trans zw⟩
        case measure=>simp[intOf]; omega
      .
       have e0:=sq.2.2 D6 (by first | omega | (intro h; omega) | (rintro ⟨h,g⟩; omega));go_wp2_with fail
       go_roundw
       case rel=>exact⟨k+1,_,_,_,_,_,_,_,_,by omega,by go_num,(by rw[e0,eW]; exact zC),zC,(by rw[e0]; exact Fy.out.af zw),zC,zC,zC,zC,zh,Y.trans zw⟩
       case measure=>simp[intOf]; omega
    .
     have lJ:decide ((k:Int)<(M:Int))=false:=Ea D6;have eM:k=M:=D6
     rw[eM]at eW;go_wp2_with fail
     go_roundw
     case rel=>exact⟨i+1,CO.setIfInBounds i (Ey Ew pk),by omega,by go_num,by rw[Array.size_setIfInBounds]; exact hs,by rw[ps,eW]; exact Wz D6 (gJ i) gG pk,X2 gt i pk,zC,zC,zh,lf.trans (Y.trans zw)⟩
     case measure=>simp[intOf]; omega
  .
   have eN:i=N:=D6
   have lI:decide ((i:Int)<(N:Int))=false:=Ea D6;rw[eN]at gG;go_wp2_with fail
   refine Eo (by simp[results,Tryz.results61,go_sem,iL,iN,gX,iC,iT,ik,iH,iq,gO,gZ,gz,gC,gE,gB,gA,gD,ls]; rfl) rfl ?_;exact⟨_,rfl,Ji zC (gJ N) (Ep _) gG,zh⟩
def qi (H I:Int) (E:Bool) (a9:Int):Int:=if H≠0 then H else if I≠0 then I else if E=false then 8 else if a9<1\/65536<a9 then 2 else 0
def Kg (e:Int) (l:List Int):List Int:=if e=0 then l else []
theorem Bi {l:PL} (a9:Int) (w:Ef) (b0:FB w (Ej #[Ez cn,Ex d9 bf ci,Ez cZ,Ex ce ah dl]) (O 0)) (b1:FB w (Ej #[Ez dt,Ex cg be cN,Ez bt,Ex dk b9 dc]) (O 1)) (b2:FB w (Ej #[Ez em,Ex ey br dy,Ez ek,Ex ed bi er]) (O 2)) (b3:FB w (Ej #[Ez eS,Ex f7 bg dx,Ez f8,Ex ec bh dP]) (O 3)) (fw:kM O (yh bf be br bg) (yh ah b9 bi bh) 4) (hl:bT w vl l) (hm:bT w vm m) (ll:l.length<=1000) (lm:m.length<=1000) :
  Ee Ed 23 #[Ej #[Ez cn,Ex d9 bf ci,Ez cZ,Ex ce ah dl,Ez dt,Ex cg be cN,Ez bt,Ex dk b9 dc,Ez em,Ex ey br dy,Ez ek,Ex ed bi er,Ez eS,Ex f7 bg dx,Ez f8,Ex ec bh dP],vl,vm,Ey Ew a9] w fun e w'=>∃u,e = Eh (Ev #[u,Ey Ew (qi (zP l) (zP m) (xq 16 O (yh bf be br bg) (yh ah b9 bi bh) 4) a9)])/\aF w' u (Kg (qi (zP l) (zP m) (xq 16 O (yh bf be br bg) (yh ah b9 bi bh) 4) a9) (yy (fun i=>(O i).getD 0) (a9:Rat) l m l.length))/\zf w w':=by
 have CL:∀w',zf w w'->Ee Ed 37 #[vl] w' fun e H=>e = Eh (Ey Ew (zP l))/\zf w' H:=fun w' s=>qX w' (hl.ae s) ll;have CN:∀w',zf w w'->Ee Ed 37 #[vm] w' fun e H=>e = Eh (Ey Ew (zP m))/\zf w' H:=fun w' s=>qX w' (hm.ae s) lm;have LM:∀w' g t,av w w'->ai w' g t #[Ez cn,Ex d9 bf ci,Ez cZ,Ex ce ah dl,Ez dt,Ex cg be cN,Ez bt,Ex dk b9 dc,Ez em,Ex ey br dy,Ez ek,Ex ed bi er,Ez eS,Ex f7 bg dx,Ez f8,Ex ec bh dP]->Ee Ed 41 #[Ey Ew 16,Ex (some ⟨g,0,none⟩) 4 4] w' fun e H=>e = Eh (Ez (xq 16 O (yh bf be br bg) (yh ah b9 bi bh) 4))/\zf w' H:=fun w' g t k hb=>QU 16 w' (Dh hb (b0.af k) (b1.af k) (b2.af k) (b3.af k)) D6
 have PR:zP l=0->zP m=0->xq 16 O (yh bf be br bg) (yh ah b9 bi bh) 4=true->1<=a9->a9<=65536->∀w' g,av w w'->zf w w'->ai w' g 89 #[Ey Ew 0]->Ee Ed 61 #[Ek (some ⟨g,0,none⟩),Ej #[Ez cn,Ex d9 bf ci,Ez cZ,Ex ce ah dl,Ez dt,Ex cg be cN,Ez bt,Ex dk b9 dc,Ez em,Ex ey br dy,Ez ek,Ex ed bi er,Ez eS,Ex f7 bg dx,Ez f8,Ex ec bh dP],vl,vm,Ey Ew a9] w' fun e H=>∃u,e = Eh u/\aF H u (yy (fun i=>(O i).getD 0) (a9:Rat) l m l.length)/\zf w' H:=fun c1 c2 hL r0 r1 w' g k s hb=>by
  obtain⟨q0,e0,z0⟩:=yZ hL fw 0 D6;obtain⟨q1,e1,z1⟩:=yZ hL fw 1 D6;obtain⟨q2,e2,z2⟩:=yZ hL fw 2 D6;obtain⟨q3,e3,z3⟩:=yZ hL fw 3 D6;have g0:(O 0).getD 0=q0:=by rw[e0]; rfl
  have g1:(O 1).getD 0=q1:=by rw[e1]; rfl
  have g2:(O 2).getD 0=q2:=by rw[e2]; rfl
  have g3:(O 3).getD 0=q3:=by rw[e3]; rfl
  rw[e0]at b0;rw[e1]at b1;rw[e2]at b2;rw[e3]at b3
  exact WB (t:=fun i=>(O i).getD 0) a9 w' hb (by show FR _ _ ((O 0).getD 0); rw[g0]; exact FR.af b0 k) (by show FR _ _ ((O 1).getD 0); rw[g1]; exact FR.af b1 k) (by show FR _ _ ((O 2).getD 0); rw[g2]; exact FR.af b2 k) (by show FR _ _ ((O 3).getD 0); rw[g3]; exact FR.af b3 k) (fun i hi=>by
   rcases(show i=0\/i=1\/i=2\/i=3 by omega)with rfl | rfl | rfl | rfl
   . show sz ((O 0).getD 0) 16; rw[g0]; exact z0
   . show sz ((O 1).getD 0) 16; rw[g1]; exact z1
   . show sz ((O 2).getD 0) 16; rw[g2]; exact z2
   . show sz ((O 3).getD 0) 16; rw[g3]; exact z3) (hl.ae s) (hm.ae s) c1 c2 r0 r1
 obtain⟨la,lc,rfl⟩:=hl.ak;obtain⟨ma,mc,rfl⟩:=hm.ak;generalize yy (fun i=>(O i).getD 0) (a9:Rat) l m l.length=P at *;generalize xq 16 O (yh bf be br bg) (yh ah b9 bi bh) 4=L at *;generalize zP l=cl at *;generalize zP m=cm at *;obtain⟨N,hN⟩:∃n,l.length=n:=⟨_,rfl⟩;obtain⟨M,hM⟩:∃n,m.length=n:=⟨_,rfl⟩;rw[hN,hM]at PR;rw[hN]at CL;rw[hM]at CN;rw[hN,hM];clear hl hm ll lm b0 b1 b2 b3 fw hN hM
 by_cases c1:cl=0
 .
  subst c1
  by_cases c2:cm=0
  .
   subst c2
   cases L with
   | false=>
    have eE:qi 0 0 false a9=8:=by simp[qi]
    rw[eE];clear PR
    show Ee _ _ _ _ fun e w'=>∃u,e=_/\aF w' u []/\_
    go_enter Tryz.func23,Tryz.ntmps23
    have E:=av.refl w;go_wp2_with fail
    refine(CL _ zh).mono ?_;rintro e w1 ⟨rfl,bl⟩;have st:zf _ w1:=bl;have B:=bA w st;have kp:=kB w st;replace E:=E.trans kp;have os:ai w1 w.heap.size 30 #[Ez cn,Ex d9 bf ci,Ez cZ,Ex ce ah dl,Ez dt,Ex cg be cN,Ez bt,Ex dk b9 dc,Ez em,Ex ey br dy,Ez ek,Ex ed bi er,Ez eS,Ex f7 bg dx,Ez f8,Ex ec bh dP]:=ai.au st;clear kp;clear st;go_wp2_with fail
    refine(CN _ zh).mono ?_;rintro e H ⟨rfl,gd⟩;have st:zf _ H:=gd;have sk:=bA w1 st;replace B:=bS B sk;replace os:=os.ae sk;replace E:=E.aI sk;clear st sk;obtain⟨eW,fd,fl,cx,g9,eM,ft,fe,cy,g8,Z,Y,J,X,T,I⟩:=os.dT;have ls:=os.lt;have gi:w.heap.size<H.heap.size:=os.lt;have gr:=B.size;go_wp2_with fail
    refine(LM _ H.heap.size 28 (E.trans zw) zC).mono ?_;rintro e w3 ⟨rfl,gj⟩;have st:zf _ w3:=gj;have sk:=bA H st;replace B:=bS B sk;replace os:=os.ae sk;replace E:=E.aI sk;clear st sk eW fd fl cx g9 eM ft fe cy g8 Z Y J X T I ls;go_wp2_with fail
    refine Eo (by simp[results,Tryz.results23,go_sem,]; rfl) rfl ?_;exact⟨_,rfl,aF.nil _,zh⟩
   | true=>
    rcases(show a9<1\/(¬a9<1/\65536<a9)\/(¬a9<1/\¬65536<a9) by omega)with r0 | ⟨r0,r1⟩ | ⟨r0,r1⟩
    rotate_left
    rotate_left
    .
     have eE:qi 0 0 true a9=0:=by simp[qi]; omega
     rw[eE];replace PR:=PR rfl rfl rfl D6 D6
     show Ee _ _ _ _ fun e w'=>∃u,e=_/\aF w' u P/\_
     go_enter Tryz.func23,Tryz.ntmps23
     have E:=av.refl w;go_wp2_with fail
     refine(CL _ zh).mono ?_;rintro e w1 ⟨rfl,bl⟩;have st:zf _ w1:=bl;have B:=bA w st;have kp:=kB w st;replace E:=E.trans kp;have os:ai w1 w.heap.size 30 #[Ez cn,Ex d9 bf ci,Ez cZ,Ex ce ah dl,Ez dt,Ex cg be cN,Ez bt,Ex dk b9 dc,Ez em,Ex ey br dy,Ez ek,Ex ed bi er,Ez eS,Ex f7 bg dx,Ez f8,Ex ec bh dP]:=ai.au st;clear kp;clear st;go_wp2_with fail
     refine(CN _ zh).mono ?_;rintro e H ⟨rfl,gd⟩;have st:zf _ H:=gd;have sk:=bA w1 st;replace B:=bS B sk;replace os:=os.ae sk;replace E:=E.aI sk;clear st sk;obtain⟨eW,fd,fl,cx,g9,eM,ft,fe,cy,g8,Z,Y,J,X,T,I⟩:=os.dT;have ls:=os.lt;have gi:w.heap.size<H.heap.size:=os.lt;have gr:=B.size;go_wp2_with fail
     refine(LM _ H.heap.size 28 (E.trans zw) zC).mono ?_;rintro e w3 ⟨rfl,gj⟩;have st:zf _ w3:=gj;have sk:=bA H st;replace B:=bS B sk;replace os:=os.ae sk;replace E:=E.aI sk;clear st sk eW fd fl cx g9 eM ft fe cy g8 Z Y J X T I ls;obtain⟨eW,fd,fl,cx,g9,eM,ft,fe,cy,g8,Z,Y,J,X,T,I⟩:=os.dT;have ls:=os.lt;have gz:w.heap.size<w3.heap.size:=os.lt;have gA:=B.size;go_wp2_with fail
     refine(PR _ w3.heap.size (E.trans zw) zh zC).mono ?_;rintro e w4 ⟨vu,rfl,gn,st⟩;have sk:=bA w3 st;replace B:=bS B sk;have gp:ai w4 w3.heap.size 89 #[Ey Ew 0]:=ai.au st;replace os:=os.ae sk;replace E:=E.aI sk;clear st sk eW fd fl cx g9 eM ft fe cy g8 Z Y J X T I ls;have gk:=gp.q0;have gt:=gp.lt;obtain⟨ua,uc,rfl⟩:=gn.ak;go_wp2_with fail
     refine Eo (by simp[results,Tryz.results23,go_sem,gk,gt]; rfl) rfl ?_;exact⟨_,rfl,gn,zh⟩
    all_goals
     have eE:qi 0 0 true a9=2:=by simp[qi]; omega
     rw[eE];clear PR
     show Ee _ _ _ _ fun e w'=>∃u,e=_/\aF w' u []/\_
     go_enter Tryz.func23,Tryz.ntmps23
     have E:=av.refl w;go_wp2_with fail
     refine(CL _ zh).mono ?_;rintro e w1 ⟨rfl,bl⟩;have st:zf _ w1:=bl;have B:=bA w st;have kp:=kB w st;replace E:=E.trans kp;have os:ai w1 w.heap.size 30 #[Ez cn,Ex d9 bf ci,Ez cZ,Ex ce ah dl,Ez dt,Ex cg be cN,Ez bt,Ex dk b9 dc,Ez em,Ex ey br dy,Ez ek,Ex ed bi er,Ez eS,Ex f7 bg dx,Ez f8,Ex ec bh dP]:=ai.au st;clear kp;clear st;go_wp2_with fail
     refine(CN _ zh).mono ?_;rintro e H ⟨rfl,gd⟩;have st:zf _ H:=gd;have sk:=bA w1 st;replace B:=bS B sk;replace os:=os.ae sk;replace E:=E.aI sk;clear st sk;obtain⟨eW,fd,fl,cx,g9,eM,ft,fe,cy,g8,Z,Y,J,X,T,I⟩:=os.dT;have ls:=os.lt;have gi:w.heap.size<H.heap.size:=os.lt;have gr:=B.size;go_wp2_with fail
     refine(LM _ H.heap.size 28 (E.trans zw) zC).mono ?_;rintro e w3 ⟨rfl,st⟩;have sk:=bA H st;replace B:=bS B sk;replace os:=os.ae sk;replace E:=E.aI sk;clear st sk eW fd fl cx g9 eM ft fe cy g8 Z Y J X T I ls;go_wp2_with fail
     refine Eo (by simp[results,Tryz.results23,go_sem,]; rfl) rfl ?_;exact⟨_,rfl,aF.nil _,zh⟩
  .
   have eE:qi 0 cm L a9=cm:=by simp[qi,c2]
   have eR:Kg cm P = []:=E_ c2;rw[eE,eR];clear PR LM
   go_enter Tryz.func23,Tryz.ntmps23
   have E:=av.refl w;go_wp2_with fail
   refine(CL _ zh).mono ?_;rintro e w1 ⟨rfl,bl⟩;have st:zf _ w1:=bl;have B:=bA w st;have kp:=kB w st;replace E:=E.trans kp;have os:ai w1 w.heap.size 30 #[Ez cn,Ex d9 bf ci,Ez cZ,Ex ce ah dl,Ez dt,Ex cg be cN,Ez bt,Ex dk b9 dc,Ez em,Ex ey br dy,Ez ek,Ex ed bi er,Ez eS,Ex f7 bg dx,Ez f8,Ex ec bh dP]:=ai.au st;clear kp;clear st;go_wp2_with fail
   refine(CN _ zh).mono ?_;rintro e H ⟨rfl,st⟩;have sk:=bA w1 st;replace B:=bS B sk;replace os:=os.ae sk;replace E:=E.aI sk;clear st sk;go_wp2_with fail
   refine Eo (by simp[results,Tryz.results23,go_sem,]; rfl) rfl ?_;exact⟨_,rfl,aF.nil _,zh⟩
 .
  have eE:qi cl cm L a9=cl:=by simp[qi,c1]
  have eR:Kg cl P = []:=E_ c1;rw[eE,eR];clear PR LM CN
  go_enter Tryz.func23,Tryz.ntmps23
  have E:=av.refl w;go_wp2_with fail
  refine(CL _ zh).mono ?_;rintro e w1 ⟨rfl,st⟩;have B:=bA w st;have kp:=kB w st;replace E:=E.trans kp;have os:ai w1 w.heap.size 30 #[Ez cn,Ex d9 bf ci,Ez cZ,Ex ce ah dl,Ez dt,Ex cg be cN,Ez bt,Ex dk b9 dc,Ez em,Ex ey br dy,Ez ek,Ex ed bi er,Ez eS,Ex f7 bg dx,Ez f8,Ex ec bh dP]:=ai.au st;clear kp;clear st;go_wp2_with fail
  refine Eo (by simp[results,Tryz.results23,go_sem,]; rfl) rfl ?_;exact⟨_,rfl,aF.nil _,zh⟩
def Dw (k n:Int):Bool:=(decide (k<n)&&decide (n<=200))||decide (210<n)
end Go.Proofs.YtffmbepfbienaaaGreat
