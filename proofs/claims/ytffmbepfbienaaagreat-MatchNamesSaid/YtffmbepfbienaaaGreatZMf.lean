import Derived.Test.YtffmbepfbienaaaGreatZMd
set_option linter.unusedVariables false
set_option linter.unusedSimpArgs false
set_option maxHeartbeats 6400000
set_option maxRecDepth 1000000
open Go.Value renaming slice->Cq,bool->Cx,int->Cz,agg->Cy,pointer->Cj,tuple->Ck
open Go.IntKind renaming i64->Cv
open Go.Ending renaming returned->Cg
open Go.Proofs.Tryz renaming prog->Ch
open Go renaming Calls->Cb,World->Cc,Value->Cd,TypeId->Ce,bodyPost_ret->Ci
open Nat renaming le_refl->Cl,lt_or_ge->Cm
namespace Go.Proofs.YtffmbepfbienaaaGreat
open Go.RowKit
variable {fe:Array Cd} {a1 a5 ce ci dl bt ec ek em dx ua1 ua5 ub1 ub5 uc1 uc5:Bool} {A R x:Int} {l:List Int} {a4 a8 cap g gc i ah dk b9 dc be cg bf cN bg f8 bi dy bh eF bq dP most n p q ua3 ua4 ua7 ua8 ub3 ub4 ub7 ub8 uc3 uc4 uc7 uc8:Nat} {out:Nat->Bool} {LA LB:Nat->Nat} {O:Nat->Option Rat} {a2 a6 cY d9 br dd f7 f9 er fd ua2 ua6 ub2 ub6 uc2 uc6:Option Addr} {o:Option Rat} {m:PL} {r a9 s y:Rat} {t tc tg:Ce} {v va vb vl vm vp:Cd} {w w':Cc}
theorem WM (x y H I:Int) (w:Cc):(Op.equalIn 10000 23 (Cy #[Cz Cv x,Cz Cv y]) (Cy #[Cz Cv H,Cz Cv I])).run Ch w = .ok (x==H&&y==I) w:=by
 have one:∀k J:Int,(Op.equalIn 9999 2 (Cz Cv k) (Cz Cv J)).run Ch w = .ok (k==J) w:=fun k J=>by kernel_rfl
 have p0:∀x y,(part 2 #[Cz Cv x,Cz Cv y] 0).run Ch w = .ok (Cz Cv x) w:=fun x y=>by kernel_rfl
 have p1:∀x y,(part 2 #[Cz Cv x,Cz Cv y] 1).run Ch w = .ok (Cz Cv y) w:=fun x y=>by kernel_rfl
 have E:(Tryz.prog.fieldsOf 23).toList.map (fun f=>(decide (f.name = "_"),f.type,f.offset)) = [(false,2,0),(false,2,1)]:=by kernel_rfl
 rw[show (10000:Nat)=9999+1 from rfl,run_equalIn_struct w 9999 _ _ _ B' B'];generalize (Tryz.prog.fieldsOf 23).toList=fs at E
 rcases fs with _ | ⟨f0,_ | ⟨f1,_ | ⟨f2,r⟩⟩⟩
 . exact absurd (congrArg List.length E) C3
 . exact absurd (congrArg List.length E) C3
 .
  simp only[List.map_cons,List.map_nil,List.cons.injEq,Prod.mk.injEq,decide_eq_false_iff_not,and_true]at E;obtain⟨⟨T,X,o0⟩,N,M,o1⟩:=E
  cases h1:(x==H)<;>cases h2:(y==I)<;>simp only[Op.eqFields,X,M,o0,o1,ne_eq,T,N,not_false_eq_true,if_true,Sem.run_bind,p0,p1,one,h1,h2,Result.andThen_ok,Bool.not_true,Bool.not_false,Bool.false_eq_true,if_false,Sem.run_pure,Bool.and_true,Bool.and_false,Bool.true_and,Bool.false_and]
 . exact absurd (congrArg List.length E) C3
theorem VA {J I H E T N qx M:Int} (h:ai w g t #[Cz Cv J,Cz Cv I,Cz Cv H,Cz Cv E,Cz Cv T,Cz Cv N,Cz Cv qx,Cz Cv M])
  (Z:(-9223372036854775808<=J/\J<=9223372036854775807)/\(-9223372036854775808<=I/\I<=9223372036854775807)) (h2:(-9223372036854775808<=H/\H<=9223372036854775807)/\(-9223372036854775808<=E/\E<=9223372036854775807)) (X:(-9223372036854775808<=T/\T<=9223372036854775807)/\(-9223372036854775808<=N/\N<=9223372036854775807)) (Y:(-9223372036854775808<=qx/\qx<=9223372036854775807)/\(-9223372036854775808<=M/\M<=9223372036854775807)):bJ w (Cq (some ⟨g,0,none⟩) 4 4) [(J,I),(H,E),(T,N),(qx,M)]:=by
 refine⟨fun k=> ?_,some ⟨g,0,none⟩,4,rfl,Cl _,fun _=>⟨g,0,rfl,h.lt,fun t ht=> ?_⟩⟩
 .
  match k with
  | 0=>exact⟨Z.1.1,Z.1.2,Z.2.1,Z.2.2⟩
  | 1=>exact⟨h2.1.1,h2.1.2,h2.2.1,h2.2.2⟩
  | 2=>exact⟨X.1.1,X.1.2,X.2.1,X.2.2⟩
  | 3=>exact⟨Y.1.1,Y.1.2,Y.2.1,Y.2.2⟩
  | k+4=>rw[show ([(J,I),(H,E),(T,N),(qx,M)]:List (Int×Int)).getD (k+4) (0,0)=(0,0) by simp[List.getD]]; decide
 .
  have:t=0\/t=1\/t=2\/t=3:=by simp at ht; omega
  rcases this with rfl | rfl | rfl | rfl
  . exact⟨h.c 0 rfl,h.c 1 rfl⟩
  . exact⟨h.c 2 rfl,h.c 3 rfl⟩
  . exact⟨h.c 4 rfl,h.c 5 rfl⟩
  . exact⟨h.c 6 rfl,h.c 7 rfl⟩
theorem VB (a b p q:Int×Int):zQ [a,b,p,q]=if qh a/\qh b/\qh p/\qh q then 0 else 8:=by unfold zQ; simp
def U9 (a b p q:Int×Int):Int×Option (Nat->Rat):=if qh a/\qh b/\qh p/\qh q then(if a=b then(18,none)else(0,some (kZ a b p q)))else(8,none)
def cn (w:Cc) (v:Cd):Option (Nat->Rat)->Prop
 | some t=>cz w v t
 | none=>v = Cy V9
theorem WN {a b:Int×Int} (h:a≠b):jw (b.1-a.1) (b.2-a.2)≠0:=by
 have:=Uo (re:=b.1-a.1) (im:=b.2-a.2) (fun⟨H,E⟩=>h (by obtain⟨a1,a2⟩:=a; obtain⟨b1,b2⟩:=b; dsimp only at H E; congr 1<;>omega));omega
theorem H8 (M N X H px py qx qy:Int) (w:Cc) (ra:(-9223372036854775808<=M/\M<=9223372036854775807)/\(-9223372036854775808<=N/\N<=9223372036854775807)) (rb:(-9223372036854775808<=X/\X<=9223372036854775807)/\(-9223372036854775808<=H/\H<=9223372036854775807)) (ri:(-9223372036854775808<=px/\px<=9223372036854775807)/\(-9223372036854775808<=py/\py<=9223372036854775807)) (rj:(-9223372036854775808<=qx/\qx<=9223372036854775807)/\(-9223372036854775808<=qy/\qy<=9223372036854775807)) :
  Cb Ch 11 #[Cy #[Cz Cv M,Cz Cv N],Cy #[Cz Cv X,Cz Cv H],Cy #[Cz Cv px,Cz Cv py],Cy #[Cz Cv qx,Cz Cv qy]] w fun e w'=>∃v,e = Cg (Ck #[v,Cz Cv (U9 (M,N) (X,H) (px,py) (qx,qy)).1])/\cn w' v (U9 (M,N) (X,H) (px,py) (qx,qy)).2/\zf w w':=by
 have ck:∀w' g t,ai w' g t #[Cz Cv M,Cz Cv N,Cz Cv X,Cz Cv H,Cz Cv px,Cz Cv py,Cz Cv qx,Cz Cv qy]->Cb Ch 37 #[Cq (some ⟨g,0,none⟩) 4 4] w' fun e I=>e = Cg (Cz Cv (if qh (M,N)/\qh (X,H)/\qh (px,py)/\qh (qx,qy)then 0 else 8))/\zf w' I:=fun w' g t hb=>by
  have:=xX w' (VA hb ra rb ri rj) C3;rw[VB]at this;exact this
 have qe:∀W,(Op.equalIn 10000 23 (Cy #[Cz Cv M,Cz Cv N]) (Cy #[Cz Cv X,Cz Cv H])).run Ch W = .ok (M==X&&N==H) W:=fun W=>WM M N X H W;unfold U9;clear ra rb ri rj
 by_cases hok:qh (M,N)/\qh (X,H)/\qh (px,py)/\qh (qx,qy)
 .
  rw[C7 hok]at ck;rw[C7 hok]
  by_cases he:((M,N):Int×Int)=(X,H)
  .
   rw[C7 he];have hE:(M==X&&N==H)=true:=by simp only[Prod.mk.injEq]at he; simp[he]
   rw[hE]at qe;clear hok he hE
   go_enter Tryz.func11,Tryz.ntmps11
   go_wp2_with fail
   refine(ck _ (w.heap.size+1+1+1+1+1) 23 zw).mono ?_;rintro e J ⟨rfl,gK⟩;have st:zf _ J:=gK;have B:=bA w st;have oa:ai J w.heap.size 23 #[Cz Cv M,Cz Cv N]:=ai.ak st;have ob:ai J (w.heap.size+1) 23 #[Cz Cv X,Cz Cv H]:=ai.ak st;have oi:ai J (w.heap.size+1+1) 23 #[Cz Cv px,Cz Cv py]:=ai.ak st;have oj:ai J (w.heap.size+1+1+1) 23 #[Cz Cv qx,Cz Cv qy]:=ai.ak st;have or:ai J (w.heap.size+1+1+1+1) 30 V9:=ai.ak st;clear st;obtain⟨gJ,gO⟩:=oa.r1;have la:=oa.lt;obtain⟨gN,gL⟩:=ob.r1;have lb:=ob.lt;have li:=oi.lt;have lj:=oj.lt;have lr:=or.lt
   go_wp2_with (first
    | (
      (with_reducible show wpList _ _ _ (⟨some 26,_,_,_,_,_⟩::_) _ _)
      refine yi rfl 30 #[] rfl #[Cx false,Cq none 0 0,Cx false,Cq none 0 0,Cx false,Cq none 0 0,Cx false,Cq none 0 0,Cx false,Cq none 0 0,Cx false,Cq none 0 0,Cx false,Cq none 0 0,Cx false,Cq none 0 0] B' ?_
      skip)
    | (
      (with_reducible show wpList _ _ _ (⟨none,.store _ _ _,_,_,_,_⟩::_) _ _)
      refine zE rfl 30 (.tmp 8) (.tmp 26) rfl (w.heap.size+1+1+1+1) #[Cx false,Cq none 0 0,Cx false,Cq none 0 0,Cx false,Cq none 0 0,Cx false,Cq none 0 0,Cx false,Cq none 0 0,Cx false,Cq none 0 0,Cx false,Cq none 0 0,Cx false,Cq none 0 0] rfl rfl 30 #[Cx false,Cq none 0 0,Cx false,Cq none 0 0,Cx false,Cq none 0 0,Cx false,Cq none 0 0,Cx false,Cq none 0 0,Cx false,Cq none 0 0,Cx false,Cq none 0 0,Cx false,Cq none 0 0] zw B' rfl (by simp[Value.oneCell']) (fun I E=> ?_);have Bn:Below w.heap.size w I:=E.below zi B_;replace oa:ai I w.heap.size 23 #[Cz Cv M,Cz Cv N]:=E.a_ zw (show w.heap.size≠w.heap.size+1+1+1+1 by omega);replace ob:ai I (w.heap.size+1) 23 #[Cz Cv X,Cz Cv H]:=E.a_ zw (show w.heap.size+1≠w.heap.size+1+1+1+1 by omega);replace oi:ai I (w.heap.size+1+1) 23 #[Cz Cv px,Cz Cv py]:=E.a_ zw (show w.heap.size+1+1≠w.heap.size+1+1+1+1 by omega);replace oj:ai I (w.heap.size+1+1+1) 23 #[Cz Cv qx,Cz Cv qy]:=E.a_ zw (show w.heap.size+1+1+1≠w.heap.size+1+1+1+1 by omega);replace or:ai I (w.heap.size+1+1+1+1) 30 V9:=E.bP;clear gJ gO la gN gL lb li lj lr;replace B:=Bn;clear Bn E
      skip)
    )
   skip
   refine Ci (z8 rfl _ _ (w.heap.size+1+1+1+1) rfl (cs:=#[Cx false,Cq none 0 0,Cx false,Cq none 0 0,Cx false,Cq none 0 0,Cx false,Cq none 0 0,Cx false,Cq none 0 0,Cx false,Cq none 0 0,Cx false,Cq none 0 0,Cx false,Cq none 0 0]) zw Tryz.underlying30 rfl B') rfl ?_;exact⟨_,rfl,rfl,zi⟩
  .
   rw[C8 he];have hE:(M==X&&N==H)=false:=by cases h:(M==X&&N==H)with | false=>rfl | true=>exact absurd (by simp only[Bool.and_eq_true,beq_iff_eq]at h; rw[h.1,h.2]) he
   rw[hE]at qe;have hn:jw (X-M) (H-N)≠0:=WN he;have SM:=fun(w':Cc) (g:Nat) (t:Ce) (hc:ai w' g t #[Cz Cv 0])=>XP w' hc hok.1 hok.2.1 hok.2.2.1 hok.2.2.2 hn;clear hok he hE hn;generalize kZ (M,N) (X,H) (px,py) (qx,qy)=T at *
   go_enter Tryz.func11,Tryz.ntmps11
   go_wp2_with fail
   refine(ck _ (w.heap.size+1+1+1+1+1) 23 zw).mono ?_;rintro e J ⟨rfl,gK⟩;have st:zf _ J:=gK;have B:=bA w st;have oa:ai J w.heap.size 23 #[Cz Cv M,Cz Cv N]:=ai.ak st;have ob:ai J (w.heap.size+1) 23 #[Cz Cv X,Cz Cv H]:=ai.ak st;have oi:ai J (w.heap.size+1+1) 23 #[Cz Cv px,Cz Cv py]:=ai.ak st;have oj:ai J (w.heap.size+1+1+1) 23 #[Cz Cv qx,Cz Cv qy]:=ai.ak st;have or:ai J (w.heap.size+1+1+1+1) 30 V9:=ai.ak st;clear st;obtain⟨gJ,gO⟩:=oa.r1;have la:=oa.lt;obtain⟨gN,gL⟩:=ob.r1;have lb:=ob.lt;obtain⟨hZ,h9⟩:=oi.r1;have li:=oi.lt;obtain⟨ig,gZ⟩:=oj.r1;have lj:=oj.lt;have lr:=or.lt;have ij:w.heap.size+1+1+1+1<J.heap.size:=or.lt;have ip:=B.size;go_wp2_with fail
   refine(SM _ J.heap.size 89 zw).mono ?_;rintro e I ⟨vs,rfl,gY,st⟩;have sk:=bA J st;replace B:=bS B sk;have gE:ai I J.heap.size 89 #[Cz Cv 0]:=ai.ak st;replace oa:=oa.ae sk;replace ob:=ob.ae sk;replace oi:=oi.ae sk;replace oj:=oj.ae sk;replace or:=or.ae sk;clear st sk gJ gO la gN gL lb hZ h9 li ig gZ lj lr;obtain⟨gg,g8,gA,gi,gB,gC,eW,gD,g9,fZ,gt,gk,bl,fV,gj,fX,fl,gr,ft,cx,fm,Y,cy,gn,gd,gz,Z,eM,fW,gp,fY,gh,rfl,gW,gV,gQ,gP⟩:=gY;have gG:=C5 gW;have gF:=C5 gV;have gH:=C5 gQ;have gI:=C5 gP;clear gW gV gQ gP;have gX:J.heap.size<I.heap.size:=gE.lt;have ik:=B.size
   go_wp2_with (first
    | (
      (with_reducible show wpList _ _ _ (⟨none,.store _ _ _,_,_,_,_⟩::_) _ _)
      refine zE rfl 30 (.tmp 12) (.tmp 31) rfl I.heap.size #[Cx gg,Cq g8 gA gi,Cx gB,Cq gC eW gD,Cx g9,Cq fZ gt gk,Cx bl,Cq fV gj fX,Cx fl,Cq gr ft cx,Cx fm,Cq Y cy gn,Cx gd,Cq gz Z eM,Cx fW,Cq gp fY gh] rfl rfl 30 #[Cx false,Cq none 0 0,Cx false,Cq none 0 0,Cx false,Cq none 0 0,Cx false,Cq none 0 0,Cx false,Cq none 0 0,Cx false,Cq none 0 0,Cx false,Cq none 0 0,Cx false,Cq none 0 0] zw B' rfl (by simp[Value.oneCell']) (fun w3 E=> ?_);have Bn:Below w.heap.size w w3:=E.below zi B_;have kp:av I w3:=av.trans zo (E.af rfl);replace oa:ai w3 w.heap.size 23 #[Cz Cv M,Cz Cv N]:=E.a_ zw (show w.heap.size≠I.heap.size by omega);replace ob:ai w3 (w.heap.size+1) 23 #[Cz Cv X,Cz Cv H]:=E.a_ zw (show w.heap.size+1≠I.heap.size by omega);replace oi:ai w3 (w.heap.size+1+1) 23 #[Cz Cv px,Cz Cv py]:=E.a_ zw (show w.heap.size+1+1≠I.heap.size by omega);replace oj:ai w3 (w.heap.size+1+1+1) 23 #[Cz Cv qx,Cz Cv qy]:=E.a_ zw (show w.heap.size+1+1+1≠I.heap.size by omega);replace or:ai w3 (w.heap.size+1+1+1+1) 30 V9:=E.a_ zw (show w.heap.size+1+1+1+1≠I.heap.size by omega);replace gE:ai w3 J.heap.size 89 #[Cz Cv 0]:=E.a_ zw (show J.heap.size≠I.heap.size by omega);have gT:ai w3 I.heap.size 30 #[Cx gg,Cq g8 gA gi,Cx gB,Cq gC eW gD,Cx g9,Cq fZ gt gk,Cx bl,Cq fV gj fX,Cx fl,Cq gr ft cx,Cx fm,Cq Y cy gn,Cx gd,Cq gz Z eM,Cx fW,Cq gp fY gh]:=E.bP;replace B:=Bn;clear Bn E;replace gG:=C5 (gG.out.af kp);replace gF:=C5 (gF.out.af kp);replace gH:=C5 (gH.out.af kp);replace gI:=C5 (gI.out.af kp);clear kp;have gM:=gE.q0;have gR:=gE.lt
      skip)
    | (
      (with_reducible show wpList _ _ _ (⟨some 38,_,_,_,_,_⟩::_) _ _)
      refine zP rfl 30 (.tmp 12) rfl I.heap.size rfl 30 #[Cx gg,Cq g8 gA gi,Cx gB,Cq gC eW gD,Cx g9,Cq fZ gt gk,Cx bl,Cq fV gj fX,Cx fl,Cq gr ft cx,Cx fm,Cq Y cy gn,Cx gd,Cq gz Z eM,Cx fW,Cq gp fY gh] _ zw Tryz.underlying30 rfl B' ?_
      skip)
    | (
      (with_reducible show wpList _ _ _ (⟨none,.store _ _ _,_,_,_,_⟩::_) _ _)
      refine zE rfl 30 (.tmp 8) (.tmp 38) rfl (w.heap.size+1+1+1+1) #[Cx gg,Cq g8 gA gi,Cx gB,Cq gC eW gD,Cx g9,Cq fZ gt gk,Cx bl,Cq fV gj fX,Cx fl,Cq gr ft cx,Cx fm,Cq Y cy gn,Cx gd,Cq gz Z eM,Cx fW,Cq gp fY gh] rfl rfl 30 #[Cx false,Cq none 0 0,Cx false,Cq none 0 0,Cx false,Cq none 0 0,Cx false,Cq none 0 0,Cx false,Cq none 0 0,Cx false,Cq none 0 0,Cx false,Cq none 0 0,Cx false,Cq none 0 0] zw B' rfl (by simp[Value.oneCell']) (fun w4 E=> ?_);have Bn:Below w.heap.size w w4:=E.below zi B_;have kp:av w3 w4:=av.trans zo (E.af rfl);replace oa:ai w4 w.heap.size 23 #[Cz Cv M,Cz Cv N]:=E.a_ zw (show w.heap.size≠w.heap.size+1+1+1+1 by omega);replace ob:ai w4 (w.heap.size+1) 23 #[Cz Cv X,Cz Cv H]:=E.a_ zw (show w.heap.size+1≠w.heap.size+1+1+1+1 by omega);replace oi:ai w4 (w.heap.size+1+1) 23 #[Cz Cv px,Cz Cv py]:=E.a_ zw (show w.heap.size+1+1≠w.heap.size+1+1+1+1 by omega);replace oj:ai w4 (w.heap.size+1+1+1) 23 #[Cz Cv qx,Cz Cv qy]:=E.a_ zw (show w.heap.size+1+1+1≠w.heap.size+1+1+1+1 by omega);replace or:ai w4 (w.heap.size+1+1+1+1) 30 #[Cx gg,Cq g8 gA gi,Cx gB,Cq gC eW gD,Cx g9,Cq fZ gt gk,Cx bl,Cq fV gj fX,Cx fl,Cq gr ft cx,Cx fm,Cq Y cy gn,Cx gd,Cq gz Z eM,Cx fW,Cq gp fY gh]:=E.bP;replace gE:ai w4 J.heap.size 89 #[Cz Cv 0]:=E.a_ zw (show J.heap.size≠w.heap.size+1+1+1+1 by omega);replace gT:ai w4 I.heap.size 30 #[Cx gg,Cq g8 gA gi,Cx gB,Cq gC eW gD,Cx g9,Cq fZ gt gk,Cx bl,Cq fV gj fX,Cx fl,Cq gr ft cx,Cx fm,Cq Y cy gn,Cx gd,Cq gz Z eM,Cx fW,Cq gp fY gh]:=E.a_ zw (show I.heap.size≠w.heap.size+1+1+1+1 by omega);clear gM gR;replace B:=Bn;clear Bn E;replace gG:=C5 (gG.out.af kp);replace gF:=C5 (gF.out.af kp);replace gH:=C5 (gH.out.af kp);replace gI:=C5 (gI.out.af kp);clear kp
      skip)
    )
   skip
   refine Ci (z8 rfl _ _ (w.heap.size+1+1+1+1) rfl (cs:=#[Cx gg,Cq g8 gA gi,Cx gB,Cq gC eW gD,Cx g9,Cq fZ gt gk,Cx bl,Cq fV gj fX,Cx fl,Cq gr ft cx,Cx fm,Cq Y cy gn,Cx gd,Cq gz Z eM,Cx fW,Cq gp fY gh]) zw Tryz.underlying30 rfl B') rfl ?_;exact⟨_,rfl,⟨_,_,_,_,_,_,_,_,_,_,_,_,_,_,_,_,_,_,_,_,_,_,_,_,_,_,_,_,_,_,_,_,rfl,gG.out.af zo,gF.out.af zo,gH.out.af zo,gI.out.af zo⟩,zi⟩
 .
  rw[C8 hok]at ck;rw[C8 hok];clear hok qe
  go_enter Tryz.func11,Tryz.ntmps11
  go_wp2_with fail
  refine(ck _ (w.heap.size+1+1+1+1+1) 23 zw).mono ?_;rintro e J ⟨rfl,st⟩;have B:=bA w st;have oa:ai J w.heap.size 23 #[Cz Cv M,Cz Cv N]:=ai.ak st;have ob:ai J (w.heap.size+1) 23 #[Cz Cv X,Cz Cv H]:=ai.ak st;have oi:ai J (w.heap.size+1+1) 23 #[Cz Cv px,Cz Cv py]:=ai.ak st;have oj:ai J (w.heap.size+1+1+1) 23 #[Cz Cv qx,Cz Cv qy]:=ai.ak st;have or:ai J (w.heap.size+1+1+1+1) 30 V9:=ai.ak st;clear st
  go_wp2_with (first
   | (
     (with_reducible show wpList _ _ _ (⟨some 21,_,_,_,_,_⟩::_) _ _)
     refine yi rfl 30 #[] rfl #[Cx false,Cq none 0 0,Cx false,Cq none 0 0,Cx false,Cq none 0 0,Cx false,Cq none 0 0,Cx false,Cq none 0 0,Cx false,Cq none 0 0,Cx false,Cq none 0 0,Cx false,Cq none 0 0] B' ?_
     skip)
   | (
     (with_reducible show wpList _ _ _ (⟨none,.store _ _ _,_,_,_,_⟩::_) _ _)
     refine zE rfl 30 (.tmp 8) (.tmp 21) rfl (w.heap.size+1+1+1+1) #[Cx false,Cq none 0 0,Cx false,Cq none 0 0,Cx false,Cq none 0 0,Cx false,Cq none 0 0,Cx false,Cq none 0 0,Cx false,Cq none 0 0,Cx false,Cq none 0 0,Cx false,Cq none 0 0] rfl rfl 30 #[Cx false,Cq none 0 0,Cx false,Cq none 0 0,Cx false,Cq none 0 0,Cx false,Cq none 0 0,Cx false,Cq none 0 0,Cx false,Cq none 0 0,Cx false,Cq none 0 0,Cx false,Cq none 0 0] zw B' rfl (by simp[Value.oneCell']) (fun I E=> ?_);have Bn:Below w.heap.size w I:=E.below zi B_;replace oa:ai I w.heap.size 23 #[Cz Cv M,Cz Cv N]:=E.a_ zw (show w.heap.size≠w.heap.size+1+1+1+1 by omega);replace ob:ai I (w.heap.size+1) 23 #[Cz Cv X,Cz Cv H]:=E.a_ zw (show w.heap.size+1≠w.heap.size+1+1+1+1 by omega);replace oi:ai I (w.heap.size+1+1) 23 #[Cz Cv px,Cz Cv py]:=E.a_ zw (show w.heap.size+1+1≠w.heap.size+1+1+1+1 by omega);replace oj:ai I (w.heap.size+1+1+1) 23 #[Cz Cv qx,Cz Cv qy]:=E.a_ zw (show w.heap.size+1+1+1≠w.heap.size+1+1+1+1 by omega);replace or:ai I (w.heap.size+1+1+1+1) 30 V9:=E.bP;replace B:=Bn;clear Bn E
     skip)
   )
  skip
  refine Ci (z8 rfl _ _ (w.heap.size+1+1+1+1) rfl (cs:=#[Cx false,Cq none 0 0,Cx false,Cq none 0 0,Cx false,Cq none 0 0,Cx false,Cq none 0 0,Cx false,Cq none 0 0,Cx false,Cq none 0 0,Cx false,Cq none 0 0,Cx false,Cq none 0 0]) zw Tryz.underlying30 rfl B') rfl ?_;exact⟨_,rfl,rfl,zi⟩
def ya {α : Type} (a b c d : α) (i:Nat) : α:=match i with | 0=>a | 1=>b | 2=>c | _=>d
def ve (O:Nat->Option Rat) (LA LB:Nat->Nat) (n:Nat):Prop:=∀i,i<n->∀q,O i=some q->zh q.num<=bp (LA i)/\(q.den:Int)<=bp (LB i)
def FO (w:Cc) (v:Cd):Option Rat->Prop
 | some r=>FR w v r
 | none=>v = Cy qE
theorem FO.af (h:FO w v o) (k:av w w'):FO w' v o:=by
 cases o with
 | none=>exact h
 | some r=>exact FR.af h k
theorem VC (h:aS most o p q=true):p<=most/\q<=most/\∃r,o=some r:=by
 unfold aS at h;simp only[Bool.and_eq_true,decide_eq_true_eq]at h;exact⟨h.1.1,h.1.2,Option.isSome_iff_exists.1 h.2⟩
theorem XY : ∀{n:Nat},xb most O LA LB n=true->∀i,i<n->aS most (O i) (LA i) (LB i)=true
 | n+1,h,i,hi=>by
  unfold xb at h;simp only[Bool.and_eq_true]at h
  rcases Cm i n with g | g
  . exact XY h.1 i g
  .
   obtain rfl:i=n:=B_
   exact h.2
theorem XZ {j:Nat} (h:i<=j):bp i<=bp j:=by
 unfold bp;exact Int.ofNat_le.2 (Nat.pow_le_pow_right C0 h)
theorem yL (h:xb most O LA LB n=true) (f:ve O LA LB n) (i:Nat) (E:i<n):∃r,O i=some r/\sz r most:=by
 obtain⟨H,I,r,e⟩:=VC (XY h i E);obtain⟨J,M⟩:=f i E r e;have p1:=XZ H;have p2:=XZ I;exact⟨r,e,by omega,by omega⟩
theorem GV (h:ai w g t #[Cx ce,Cq cY ah dk,Cx ci,Cq d9 b9 dc,Cx dl,Cq br be cg,Cx bt,Cq dd bf cN,Cx ec,Cq f7 bg f8,Cx ek,Cq f9 bi dy,Cx em,Cq er bh eF,Cx dx,Cq fd bq dP]) (E:FB w (Cy #[Cx ce,Cq cY ah dk,Cx ci,Cq d9 b9 dc]) (O 0)) (b1:FB w (Cy #[Cx dl,Cq br be cg,Cx bt,Cq dd bf cN]) (O 1)) (b2:FB w (Cy #[Cx ec,Cq f7 bg f8,Cx ek,Cq f9 bi dy]) (O 2)) (b3:FB w (Cy #[Cx em,Cq er bh eF,Cx dx,Cq fd bq dP]) (O 3)):G_ w (Cq (some ⟨g,0,none⟩) 4 4) 4 O (ya ah be bg bh) (ya b9 bf bi bq):=by
 refine⟨g,0,4,rfl,Cl _,h.lt,fun i H=> ?_⟩;have:i=0\/i=1\/i=2\/i=3:=B_
 rcases this with rfl | rfl | rfl | rfl
 . exact⟨_,_,_,_,_,_,h.c 0 rfl,h.c 1 rfl,h.c 2 rfl,h.c 3 rfl,E⟩
 . exact⟨_,_,_,_,_,_,h.c 4 rfl,h.c 5 rfl,h.c 6 rfl,h.c 7 rfl,b1⟩
 . exact⟨_,_,_,_,_,_,h.c 8 rfl,h.c 9 rfl,h.c 10 rfl,h.c 11 rfl,b2⟩
 . exact⟨_,_,_,_,_,_,h.c 12 rfl,h.c 13 rfl,h.c 14 rfl,h.c 15 rfl,b3⟩
def UI (O:Nat->Option Rat) (LA LB:Nat->Nat) (p:Int×Int):Bool:=xb 16 O LA LB 4&&decide (qh p)
def vM (b:Bool):Int:=if b then 0 else 8
def U_ (b:Bool) (r:Rat):Option Rat:=if b then some r else none
theorem WO (E I:Int) (w:Cc) (b0:FB w (Cy #[Cx ce,Cq cY ah dk,Cx ci,Cq d9 b9 dc]) (O 0)) (b1:FB w (Cy #[Cx dl,Cq br be cg,Cx bt,Cq dd bf cN]) (O 1)) (b2:FB w (Cy #[Cx ec,Cq f7 bg f8,Cx ek,Cq f9 bi dy]) (O 2)) (b3:FB w (Cy #[Cx em,Cq er bh eF,Cx dx,Cq fd bq dP]) (O 3)) (fw:ve O (ya ah be bg bh) (ya b9 bf bi bq) 4) (rx:(-9223372036854775808<=E/\E<=9223372036854775807)) (ry:(-9223372036854775808<=I/\I<=9223372036854775807)) :
  Cb Ch 13 #[Cy #[Cx ce,Cq cY ah dk,Cx ci,Cq d9 b9 dc,Cx dl,Cq br be cg,Cx bt,Cq dd bf cN,Cx ec,Cq f7 bg f8,Cx ek,Cq f9 bi dy,Cx em,Cq er bh eF,Cx dx,Cq fd bq dP],Cy #[Cz Cv E,Cz Cv I]] w fun e w'=>∃u v,e = Cg (Ck #[u,v,Cz Cv (vM (UI O (ya ah be bg bh) (ya b9 bf bi bq) (E,I)))])/\FO w' u (U_ (UI O (ya ah be bg bh) (ya b9 bf bi bq) (E,I)) (Yw (fun i=>(O i).getD 0) (E,I)))/\FO w' v (U_ (UI O (ya ah be bg bh) (ya b9 bf bi bq) (E,I)) (Yx (fun i=>(O i).getD 0) (E,I)))/\zf w w':=by
 have LM:∀w' g t,av w w'->ai w' g t #[Cx ce,Cq cY ah dk,Cx ci,Cq d9 b9 dc,Cx dl,Cq br be cg,Cx bt,Cq dd bf cN,Cx ec,Cq f7 bg f8,Cx ek,Cq f9 bi dy,Cx em,Cq er bh eF,Cx dx,Cq fd bq dP]->Cb Ch 41 #[Cz Cv 16,Cq (some ⟨g,0,none⟩) 4 4] w' fun e Z=>e = Cg (Cx (xb 16 O (ya ah be bg bh) (ya b9 bf bi bq) 4))/\zf w' Z:=fun w' g t k hb=>ZR 16 w' (GV hb (b0.af k) (b1.af k) (b2.af k) (b3.af k)) B_
 have PC:∀w' g t,ai w' g t #[Cz Cv E,Cz Cv I]->Cb Ch 37 #[Cq (some ⟨g,0,none⟩) 1 1] w' fun e Z=>e = Cg (Cz Cv (if qh (E,I)then 0 else 8))/\zf w' Z:=fun w' g t hb=>by
  have:=xX w' (UD hb rx ry) C3;rw[UC]at this;exact this
 have AP:xb 16 O (ya ah be bg bh) (ya b9 bf bi bq) 4=true->qh (E,I)->∀w' g t,zf w w'->ai w' g t #[Cz Cv 0]->Cb Ch 42 #[Cj (some ⟨g,0,none⟩),Cy #[Cx ce,Cq cY ah dk,Cx ci,Cq d9 b9 dc,Cx dl,Cq br be cg,Cx bt,Cq dd bf cN,Cx ec,Cq f7 bg f8,Cx ek,Cq f9 bi dy,Cx em,Cq er bh eF,Cx dx,Cq fd bq dP],Cy #[Cz Cv E,Cz Cv I]] w' fun e Z=>∃u v,e = Cg (Ck #[u,v])/\FR Z u (Yw (fun i=>(O i).getD 0) (E,I))/\FR Z v (Yx (fun i=>(O i).getD 0) (E,I))/\zf w' Z:=fun hL hp w' g t s hb=>by
  obtain⟨r0,e0,z0⟩:=yL hL fw 0 B_;obtain⟨r1,e1,z1⟩:=yL hL fw 1 B_;obtain⟨r2,e2,z2⟩:=yL hL fw 2 B_;obtain⟨r3,e3,z3⟩:=yL hL fw 3 B_;have k:=av.ae s;rw[e0]at b0;rw[e1]at b1;rw[e2]at b2;rw[e3]at b3;have g0:(O 0).getD 0=r0:=by rw[e0]; rfl
  have g1:(O 1).getD 0=r1:=by rw[e1]; rfl
  have g2:(O 2).getD 0=r2:=by rw[e2]; rfl
  have g3:(O 3).getD 0=r3:=by rw[e3]; rfl
  exact QQ E I w' hb (g0.symm▸FR.af b0 k) (g1.symm▸FR.af b1 k) (g2.symm▸FR.af b2 k) (g3.symm▸FR.af b3 k) (g0.symm▸z0.mono B_) (g1.symm▸z1.mono B_) (g2.symm▸z2.mono B_) (g3.symm▸z3.mono B_) ⟨hp.1,hp.2.1⟩ ⟨hp.2.2.1,hp.2.2.2⟩
 generalize Yw (fun i=>(O i).getD 0) (E,I)=X at *;generalize Yx (fun i=>(O i).getD 0) (E,I)=Y at *;unfold UI;generalize xb 16 O (ya ah be bg bh) (ya b9 bf bi bq) 4=L at *;clear b0 b1 b2 b3 fw rx ry
 cases L with
 | false=>
  rw[Bool.false_and];clear AP PC
  go_enter Tryz.func13,Tryz.ntmps13
  go_wp2_with fail
  refine(LM _ (w.heap.size+1+1+1+1) 28 zo zw).mono ?_;rintro e J ⟨rfl,g8⟩;have st:zf _ J:=g8;have B:=bA w st;have T:ai J w.heap.size 30 #[Cx ce,Cq cY ah dk,Cx ci,Cq d9 b9 dc,Cx dl,Cq br be cg,Cx bt,Cq dd bf cN,Cx ec,Cq f7 bg f8,Cx ek,Cq f9 bi dy,Cx em,Cq er bh eF,Cx dx,Cq fd bq dP]:=ai.ak st;have M:ai J (w.heap.size+1) 23 #[Cz Cv E,Cz Cv I]:=ai.ak st;have or:ai J (w.heap.size+1+1) 28 qE:=ai.ak st;have H:ai J (w.heap.size+1+1+1) 28 qE:=ai.ak st;clear st;have lt:=T.lt;have li:=M.lt;obtain⟨ft,cy,fl,bl,fr,lr⟩:=or.s3;obtain⟨fm,eM,eW,cx,fq,lq⟩:=H.s3;go_wp2_with fail
  refine Ci (by simp[results,Tryz.results13,go_sem,lt,li,ft,cy,fl,bl,fr,lr,fm,eM,eW,cx,fq,lq]; rfl) rfl ?_;exact⟨_,_,rfl,rfl,rfl,zi⟩
 | true=>
  rw[Bool.true_and]
  by_cases hp:qh (E,I)
  .
   rw[C7 hp]at PC;rw[C9 hp];have AQ:=AP rfl hp;clear AP hp
   go_enter Tryz.func13,Tryz.ntmps13
   go_wp2_with fail
   refine(LM _ (w.heap.size+1+1+1+1) 28 zo zw).mono ?_;rintro e J ⟨rfl,g8⟩;have st:zf _ J:=g8;have B:=bA w st;have T:ai J w.heap.size 30 #[Cx ce,Cq cY ah dk,Cx ci,Cq d9 b9 dc,Cx dl,Cq br be cg,Cx bt,Cq dd bf cN,Cx ec,Cq f7 bg f8,Cx ek,Cq f9 bi dy,Cx em,Cq er bh eF,Cx dx,Cq fd bq dP]:=ai.ak st;have M:ai J (w.heap.size+1) 23 #[Cz Cv E,Cz Cv I]:=ai.ak st;have or:ai J (w.heap.size+1+1) 28 qE:=ai.ak st;have H:ai J (w.heap.size+1+1+1) 28 qE:=ai.ak st;clear st;have lt:=T.lt;obtain⟨fW,fV⟩:=M.r1;have li:=M.lt;have lr:=or.lt;have lq:=H.lt;have gg:w.heap.size+1+1+1<J.heap.size:=H.lt;have gn:=B.size;go_wp2_with fail
   refine(PC _ J.heap.size 23 zw).mono ?_;rintro e Z ⟨rfl,gj⟩;have st:zf _ Z:=gj;have sk:=bA J st;replace B:=bS B sk;replace T:=T.ae sk;replace M:=M.ae sk;replace or:=or.ae sk;replace H:=H.ae sk;clear st sk lt fW fV li lr lq;have lt:=T.lt;obtain⟨fW,fV⟩:=M.r1;have li:=M.lt;have lr:=or.lt;have lq:=H.lt;have gp:w.heap.size+1+1+1<Z.heap.size:=H.lt;have gr:=B.size
   go_wp2_with (first
    | (
      (with_reducible show wpList _ _ _ (⟨some 28,_,_,_,_,_⟩::_) _ _)
      refine zP rfl 30 (.tmp 2) rfl w.heap.size rfl 30 #[Cx ce,Cq cY ah dk,Cx ci,Cq d9 b9 dc,Cx dl,Cq br be cg,Cx bt,Cq dd bf cN,Cx ec,Cq f7 bg f8,Cx ek,Cq f9 bi dy,Cx em,Cq er bh eF,Cx dx,Cq fd bq dP] _ zw Tryz.underlying30 rfl B' ?_
      skip)
    )
   refine(AQ _ Z.heap.size 89 zi zw).mono ?_;rintro e w3 ⟨vx,vy,rfl,fZ,fY,st⟩;have sk:=bA Z st;replace B:=bS B sk;have fX:ai w3 Z.heap.size 89 #[Cz Cv 0]:=ai.ak st;replace T:=T.ae sk;replace M:=M.ae sk;replace or:=or.ae sk;replace H:=H.ae sk;clear st sk lt fW fV li lr lq;have lt:=T.lt;have li:=M.lt;obtain⟨ft,cy,fl,bl,fr,lr⟩:=or.s3;obtain⟨fm,eM,eW,cx,fq,lq⟩:=H.s3;have gd:=fX.q0;have gi:=fX.lt;obtain⟨x1,x2,x3,x4,x5,x6,x7,x8,rfl⟩:=fZ.au;obtain⟨y1,y2,y3,y4,y5,y6,y7,y8,rfl⟩:=fY.au;have Fx:=C5 fZ;clear fZ;have Fy:=C5 fY;clear fY;go_wp2_with fail
   have gk:Z.heap.size<w3.heap.size:=fX.lt;have gt:=B.size
   go_upto_region 7 with fail
   refine aj.dj w w3 [.o w.heap.size 30 #[Cx ce,Cq cY ah dk,Cx ci,Cq d9 b9 dc,Cx dl,Cq br be cg,Cx bt,Cq dd bf cN,Cx ec,Cq f7 bg f8,Cx ek,Cq f9 bi dy,Cx em,Cq er bh eF,Cx dx,Cq fd bq dP],.o (w.heap.size+1) 23 #[Cz Cv E,Cz Cv I],.s (w.heap.size+1+1) 28 #[Cx x1,Cq x2 x3 x4,Cx x5,Cq x6 x7 x8] 2 [] (aj.vx #[Cx x1,Cq x2 x3 x4,Cx x5,Cq x6 x7 x8]),.s (w.heap.size+1+1+1) 28 #[Cx y1,Cq y2 y3 y4,Cx y5,Cq y6 y7 y8] 3 [] (aj.vx #[Cx y1,Cq y2 y3 y4,Cx y5,Cq y6 y7 y8]),.o Z.heap.size 89 #[Cz Cv 0]] [2,3] [] [] [(5,[])] [(0,[2]),(1,[3])] (by simp only[aX]; exact⟨zi,zo,zw,zw,zw,zw,zw,trivial⟩) (fun N0 gh g9 Q' N hQ=> ?_);clear lt li ft cy fl bl fr lr fm eM eW cx fq lq gd gi;clear gh;refine aj.cC N 40 (fun _ _ _ hc h=>(aF.un h.e.2.2.1 (hc.2 2 C0)).r3) ?_;refine aj.cC N 41 (fun _ _ _ hc h=>(aF.un h.e.2.2.2.1 (hc.2 3 C0)).r3) ?_;refine aj.sS N ?_;refine aj.sS N ?_;refine aj.aK 6 ?_;refine aj.sE (fun _ v' w4 B jk hl _ _ hf=> ?_);simp only[qB,qF]at hl;obtain⟨T,M,or,H,fX,-⟩:=hl;have or:ai w4 (w.heap.size+1+1) 28 #[Cx x1,Cq x2 x3 x4,Cx x5,Cq x6 x7 x8]:=or;have H:ai w4 (w.heap.size+1+1+1) 28 #[Cx y1,Cq y2 y3 y4,Cx y5,Cq y6 y7 y8]:=H;replace Fx:=C5 (Fx.out.af jk);replace Fy:=C5 (Fy.out.af jk);clear hf jk;refine hQ _ _ ?_;clear hQ N Q' g9;have lt:=T.lt;have li:=M.lt;obtain⟨ft,cy,fl,bl⟩:=or.r3;have lr:=or.lt;obtain⟨fm,eM,eW,cx⟩:=H.r3;have lq:=H.lt;go_wp2_with fail
   refine Ci (by simp[results,Tryz.results13,go_sem,lt,li,ft,cy,fl,bl,lr,fm,eM,eW,cx,lq]; rfl) rfl ?_;exact⟨_,_,rfl,Fx.out.af zo,Fy.out.af zo,zi⟩
  .
   rw[C8 hp]at PC;rw[C_ hp];clear AP hp
   go_enter Tryz.func13,Tryz.ntmps13
   go_wp2_with fail
   refine(LM _ (w.heap.size+1+1+1+1) 28 zo zw).mono ?_;rintro e J ⟨rfl,st⟩;have B:=bA w st;have T:ai J w.heap.size 30 #[Cx ce,Cq cY ah dk,Cx ci,Cq d9 b9 dc,Cx dl,Cq br be cg,Cx bt,Cq dd bf cN,Cx ec,Cq f7 bg f8,Cx ek,Cq f9 bi dy,Cx em,Cq er bh eF,Cx dx,Cq fd bq dP]:=ai.ak st;have M:ai J (w.heap.size+1) 23 #[Cz Cv E,Cz Cv I]:=ai.ak st;have or:ai J (w.heap.size+1+1) 28 qE:=ai.ak st;have H:ai J (w.heap.size+1+1+1) 28 qE:=ai.ak st;clear st;have lt:=T.lt;obtain⟨fW,fV⟩:=M.r1;have li:=M.lt;have lr:=or.lt;have lq:=H.lt;have gg:w.heap.size+1+1+1<J.heap.size:=H.lt;have gn:=B.size;go_wp2_with fail
   refine(PC _ J.heap.size 23 zw).mono ?_;rintro e Z ⟨rfl,st⟩;have sk:=bA J st;replace B:=bS B sk;replace T:=T.ae sk;replace M:=M.ae sk;replace or:=or.ae sk;replace H:=H.ae sk;clear st sk lt fW fV li lr lq;have lt:=T.lt;have li:=M.lt;obtain⟨ft,cy,fl,bl,fr,lr⟩:=or.s3;obtain⟨fm,eM,eW,cx,fq,lq⟩:=H.s3;go_wp2_with fail
   refine Ci (by simp[results,Tryz.results13,go_sem,lt,li,ft,cy,fl,bl,fr,lr,fm,eM,eW,cx,fq,lq]; rfl) rfl ?_;exact⟨_,_,rfl,rfl,rfl,zi⟩
theorem Hq (h:ai w g t #[Cx ua1,Cq ua2 ua3 ua4,Cx ua5,Cq ua6 ua7 ua8,Cx ub1,Cq ub2 ub3 ub4,Cx ub5,Cq ub6 ub7 ub8,Cx uc1,Cq uc2 uc3 uc4,Cx uc5,Cq uc6 uc7 uc8]) (E:FB w (Cy #[Cx ua1,Cq ua2 ua3 ua4,Cx ua5,Cq ua6 ua7 ua8]) (O 0)) (b1:FB w (Cy #[Cx ub1,Cq ub2 ub3 ub4,Cx ub5,Cq ub6 ub7 ub8]) (O 1)) (b2:FB w (Cy #[Cx uc1,Cq uc2 uc3 uc4,Cx uc5,Cq uc6 uc7 uc8]) (O 2)):G_ w (Cq (some ⟨g,0,none⟩) 3 3) 3 O (ya ua3 ub3 uc3 uc3) (ya ua7 ub7 uc7 uc7):=by
 refine⟨g,0,3,rfl,Cl _,h.lt,fun i H=> ?_⟩;have:i=0\/i=1\/i=2:=B_
 rcases this with rfl | rfl | rfl
 . exact⟨_,_,_,_,_,_,h.c 0 rfl,h.c 1 rfl,h.c 2 rfl,h.c 3 rfl,E⟩
 . exact⟨_,_,_,_,_,_,h.c 4 rfl,h.c 5 rfl,h.c 6 rfl,h.c 7 rfl,b1⟩
 . exact⟨_,_,_,_,_,_,h.c 8 rfl,h.c 9 rfl,h.c 10 rfl,h.c 11 rfl,b2⟩
def yx (O:Nat->Option Rat) (LA LB:Nat->Nat) (R A:Int) (neg:Bool):Bool:=
 xb 2 O LA LB 3&&decide (1<=R/\R<=65536/\1<=A/\A<=17592186044416) && !neg&&decide (0<(O 1).getD 0/\(O 1).getD 0<1/\0<(O 2).getD 0)
theorem zX {neg:Bool} : yx O LA LB R A neg=true↔xb 2 O LA LB 3=true/\(1<=R/\R<=65536/\1<=A/\A<=17592186044416)/\neg=false/\0<(O 1).getD 0/\(O 1).getD 0<1/\0<(O 2).getD 0:=by
 unfold yx
 cases neg<;>simp[and_assoc]
theorem VD : xb most O LA LB 3=(aS most (O 0) (LA 0) (LB 0)&&aS most (O 1) (LA 1) (LB 1)&&aS most (O 2) (LA 2) (LB 2)):=by
 show (((true&&_)&&_)&&_)=_
 rw[Bool.true_and]
theorem YC:((0:Int):Rat)=0:=rfl
theorem Y7:sz (0:Rat) 2:=yd (x:=0) C0
theorem GW:sz (1:Rat) 2:=c_
theorem QY (w:Cc) (b0:FB w (Cy #[Cx ua1,Cq ua2 ua3 ua4,Cx ua5,Cq ua6 ua7 ua8]) (O 0)) (b1:FB w (Cy #[Cx ub1,Cq ub2 ub3 ub4,Cx ub5,Cq ub6 ub7 ub8]) (O 1)) (b2:FB w (Cy #[Cx uc1,Cq uc2 uc3 uc4,Cx uc5,Cq uc6 uc7 uc8]) (O 2)) (fw:ve O (ya ua3 ub3 uc3 uc3) (ya ua7 ub7 uc7 uc7) 3) :
  Cb Ch 26 #[Cy #[Cx ua1,Cq ua2 ua3 ua4,Cx ua5,Cq ua6 ua7 ua8,Cz Cv R,Cz Cv A,Cx ub1,Cq ub2 ub3 ub4,Cx ub5,Cq ub6 ub7 ub8,Cx uc1,Cq uc2 uc3 uc4,Cx uc5,Cq uc6 uc7 uc8]] w fun e w'=>e = Cg (Cz Cv (vM (yx O (ya ua3 ub3 uc3 uc3) (ya ua7 ub7 uc7 uc7) R A ua1)))/\zf w w':=by
 obtain⟨K,hK⟩:∃k,yx O (ya ua3 ub3 uc3 uc3) (ya ua7 ub7 uc7 uc7) R A ua1=k:=⟨_,rfl⟩
 have KF:∀ (P:Prop),(yx O (ya ua3 ub3 uc3 uc3) (ya ua7 ub7 uc7 uc7) R A ua1=true->P)->¬P->K=false:=fun P h1 h2=>by
  cases hk:K with
  | false=>rfl
  | true=>exact absurd (h1 (hK.trans hk)) h2
 have KL:=fun(h:xb 2 O (ya ua3 ub3 uc3 uc3) (ya ua7 ub7 uc7 uc7) 3=false)=>KF (xb 2 O (ya ua3 ub3 uc3 uc3) (ya ua7 ub7 uc7 uc7) 3=true) (fun g=>(zX.1 g).1) (by rw[h]; decide);have KR:=KF _ (fun g=>(zX.1 g).2.1);have KN:=fun(h:ua1=true)=>KF (ua1=false) (fun g=>(zX.1 g).2.2.1) (by rw[h]; decide);have K1:=fun(h:yJ ((O 1).getD 0) 0<=0)=>KF _ (fun g=>(zX.1 g).2.2.2.1) (fun g=>absurd (kD.2 g) B_);have K2:=fun(h:¬yJ ((O 1).getD 0) 1<0)=>KF _ (fun g=>(zX.1 g).2.2.2.2.1) (fun g=>h (bH.2 g));have K3:=fun(h:yJ ((O 2).getD 0) 0<=0)=>KF _ (fun g=>(zX.1 g).2.2.2.2.2) (fun g=>absurd (kD.2 g) B_);have KT:xb 2 O (ya ua3 ub3 uc3 uc3) (ya ua7 ub7 uc7 uc7) 3=true->(1<=R/\R<=65536/\1<=A/\A<=17592186044416)->ua1=false->¬yJ ((O 1).getD 0) 0<=0->yJ ((O 1).getD 0) 1<0->¬yJ ((O 2).getD 0) 0<=0->K=true:=fun h1 h2 h3 h4 h5 h6=>hK.symm.trans (zX.2 ⟨h1,h2,h3,kD.1 B_,bH.1 h5,kD.1 B_⟩)
 have FQ:xb 2 O (ya ua3 ub3 uc3 uc3) (ya ua7 ub7 uc7 uc7) 3=true->(∃r,O 1=some r/\(O 1).getD 0=r/\sz r 2)/\∃r,O 2=some r/\(O 2).getD 0=r/\sz r 2:=fun h=>by
  obtain⟨r1,e1,z1⟩:=yL h fw 1 B_;obtain⟨r2,e2,z2⟩:=yL h fw 2 B_;exact⟨⟨r1,e1,by rw[e1]; rfl,z1⟩,⟨r2,e2,by rw[e2]; rfl,z2⟩⟩
 have LM:∀w' g t,av w w'->ai w' g t #[Cx ua1,Cq ua2 ua3 ua4,Cx ua5,Cq ua6 ua7 ua8,Cx ub1,Cq ub2 ub3 ub4,Cx ub5,Cq ub6 ub7 ub8,Cx uc1,Cq uc2 uc3 uc4,Cx uc5,Cq uc6 uc7 uc8]->Cb Ch 41 #[Cz Cv 2,Cq (some ⟨g,0,none⟩) 3 3] w' fun e w2=>e = Cg (Cx (xb 2 O (ya ua3 ub3 uc3 uc3) (ya ua7 ub7 uc7 uc7) 3))/\zf w' w2:=fun w' g t k hb=>ZR 2 w' (Hq hb (b0.af k) (b1.af k) (b2.af k)) B_;have OF:∀x:Int,-9223372036854775808<=x->x<=9223372036854775807->∀w' g t,ai w' g t #[Cz Cv 0]->Cb Ch 66 #[Cj (some ⟨g,0,none⟩),Cz Cv x] w' fun e w2=>∃v,e = Cg v/\FR w2 v (x:Rat)/\zf w' w2:=fun x h0 h1 w' g t hb=>Vg x w' hb h0 h1;have O0:=fun w' g t hb=>by have:=OF 0 C0 C0 w' g t hb; rw[YC]at this; exact this
 have O1:=fun w' g t hb=>by have:=OF 1 C0 C0 w' g t hb; rw[ZV]at this; exact this
 clear OF;rw[hK];generalize hL:xb 2 O (ya ua3 ub3 uc3 uc3) (ya ua7 ub7 uc7 uc7) 3=L at *
 cases ua1 with
 | true=>
  cases L with
  | false=>
   have Z:=KL rfl;subst Z;clear KF KL KR KN K1 K2 K3 KT FQ O0 O1 hK hL b0 b1 b2 fw
   go_enter Tryz.func26,Tryz.ntmps26
   have Y:=av.refl w;go_wp2_with fail
   refine(LM _ (w.heap.size+1) 28 (Y.trans zo) zw).mono ?_;rintro e w1 ⟨rfl,gp⟩;have st:zf _ w1:=gp;have B:=bA w st;have kp:=kB w st;replace Y:=Y.trans kp;have X:ai w1 w.heap.size 45 #[Cx true,Cq ua2 ua3 ua4,Cx ua5,Cq ua6 ua7 ua8,Cz Cv R,Cz Cv A,Cx ub1,Cq ub2 ub3 ub4,Cx ub5,Cq ub6 ub7 ub8,Cx uc1,Cq uc2 uc3 uc4,Cx uc5,Cq uc6 uc7 uc8]:=ai.ak st;clear kp;clear st;go_wp2_with fail
   refine Ci (by simp[results,Tryz.results26,go_sem,]; rfl) rfl ?_;exact⟨rfl,zi⟩
  | true=>
   go_enter Tryz.func26,Tryz.ntmps26
   have Y:=av.refl w;obtain⟨⟨r1,e1,q1,z1⟩,r2,e2,q2,z2⟩:=FQ rfl;rw[e1]at b1;rw[e2]at b2;rw[q1]at K1 K2 KT;rw[q2]at K3 KT;have F1:Hid (FR w (Cy #[Cx ub1,Cq ub2 ub3 ub4,Cx ub5,Cq ub6 ub7 ub8]) r1):=C5 b1;have F2:Hid (FR w (Cy #[Cx uc1,Cq uc2 uc3 uc4,Cx uc5,Cq uc6 uc7 uc8]) r2):=C5 b2;obtain⟨c1,gg⟩:∃c,yJ r1 0=c:=⟨_,rfl⟩;obtain⟨c2,gk⟩:∃c,yJ r1 1=c:=⟨_,rfl⟩;obtain⟨c3,gj⟩:∃c,yJ r2 0=c:=⟨_,rfl⟩;rw[gg]at K1 KT;rw[gk]at K2 KT;rw[gj]at K3 KT;have M:∀ (w':Cc) (g:Nat) (t:Ce) (u v:Cd),ai w' g t #[Cz Cv 0]->FR w' u r1->FR w' v 0->Cb Ch 67 #[Cj (some ⟨g,0,none⟩),u,v] w' fun e w2=>e = Cg (Cz Cv c1)/\zf w' w2:=fun w' g t u v hb h1 h2=>by have:=xl w' hb h1 h2 z1 Y7 B_; rw[gg]at this; exact this
   have T:∀ (w':Cc) (g:Nat) (t:Ce) (u v:Cd),ai w' g t #[Cz Cv 0]->FR w' u r1->FR w' v 1->Cb Ch 67 #[Cj (some ⟨g,0,none⟩),u,v] w' fun e w2=>e = Cg (Cz Cv c2)/\zf w' w2:=fun w' g t u v hb h1 h2=>by have:=xl w' hb h1 h2 z1 GW B_; rw[gk]at this; exact this
   have N:∀ (w':Cc) (g:Nat) (t:Ce) (u v:Cd),ai w' g t #[Cz Cv 0]->FR w' u r2->FR w' v 0->Cb Ch 67 #[Cj (some ⟨g,0,none⟩),u,v] w' fun e w2=>e = Cg (Cz Cv c3)/\zf w' w2:=fun w' g t u v hb h1 h2=>by have:=xl w' hb h1 h2 z2 Y7 B_; rw[gj]at this; exact this
   clear gg gk gj;have cx:=KT rfl;clear KF KL KT FQ hK hL e1 e2 q1 q2 fw b0 b1 b2;go_wp2_with fail
   refine(LM _ (w.heap.size+1) 28 (Y.trans zo) zw).mono ?_;rintro e w1 ⟨rfl,gp⟩;have st:zf _ w1:=gp;have B:=bA w st;have kp:=kB w st;replace Y:=Y.trans kp;have X:ai w1 w.heap.size 45 #[Cx true,Cq ua2 ua3 ua4,Cx ua5,Cq ua6 ua7 ua8,Cz Cv R,Cz Cv A,Cx ub1,Cq ub2 ub3 ub4,Cx ub5,Cq ub6 ub7 ub8,Cx uc1,Cq uc2 uc3 uc4,Cx uc5,Cq uc6 uc7 uc8]:=ai.ak st;replace F1:=C5 (F1.out.af kp);replace F2:=C5 (F2.out.af kp);clear kp;clear st;obtain⟨fV,ft,fY,fl,eW,g9,g8,fm,fZ,fX,E,I,H,J⟩:=X.dz;have lu:=X.lt;clear LM
   rcases(show R<1\/(¬R<1/\65536<R)\/(¬R<1/\¬65536<R/\A<1)\/(¬R<1/\¬65536<R/\¬A<1/\17592186044416<A)\/(¬R<1/\¬65536<R/\¬A<1/\¬17592186044416<A) by omega)with g1 | ⟨g1,g2⟩ | ⟨g1,g2,g3⟩ | ⟨g1,g2,g3,g4⟩ | ⟨g1,g2,g3,g4⟩
   .
    have Z:=KR B_;subst Z;clear KR KN K1 K2 K3 cx O0 O1 M T N
    go_wp2
    go_returns
    exact⟨rfl,zi⟩
   .
    have Z:=KR B_;subst Z;clear KR KN K1 K2 K3 cx O0 O1 M T N
    go_wp2
    go_returns
    exact⟨rfl,zi⟩
   .
    have Z:=KR B_;subst Z;clear KR KN K1 K2 K3 cx O0 O1 M T N
    go_wp2
    go_returns
    exact⟨rfl,zi⟩
   .
    have Z:=KR B_;subst Z;clear KR KN K1 K2 K3 cx O0 O1 M T N
    go_wp2
    go_returns
    exact⟨rfl,zi⟩
   .
    have gh:=cx ⟨by omega,by omega,by omega,by omega⟩;clear cx KR;have gA:w.heap.size<w1.heap.size:=X.lt;have gM:=B.size;go_wp2_with fail
    refine(O0 _ w1.heap.size 89 zw).mono ?_;rintro e w2 ⟨gJ,rfl,eM,gK⟩;have st:zf _ w2:=gK;have sk:=bA w1 st;replace B:=bS B sk;have bl:ai w2 w1.heap.size 89 #[Cz Cv 0]:=ai.ak st;replace X:=X.ae sk;replace F1:=C5 (F1.out.ae sk);replace F2:=C5 (F2.out.ae sk);replace Y:=Y.aI sk;clear st sk fV ft fY fl eW g9 g8 fm fZ fX E I H J lu;obtain⟨ce,cY,ah,dk,ci,d9,b9,dc,rfl⟩:=eM.au;have cy:=C5 eM;clear eM;go_wp2_with fail
    refine(O1 _ w1.heap.size 89 zw).mono ?_;rintro e w3 ⟨gO,rfl,fW,gL⟩;have st:zf _ w3:=gL;have sk:=bA w2 st;replace B:=bS B sk;replace X:=X.ae sk;replace bl:=bl.ae sk;replace F1:=C5 (F1.out.ae sk);replace F2:=C5 (F2.out.ae sk);replace cy:=C5 (cy.out.ae sk);replace Y:=Y.aI sk;clear st sk;obtain⟨fV,ft,fY,fl,eW,g9,g8,fm,fZ,fX,E,I,H,J⟩:=X.dz;have lu:=X.lt;obtain⟨dl,br,be,cg,bt,dd,bf,cN,rfl⟩:=fW.au;have gd:=C5 fW;clear fW;have gr:w1.heap.size<w3.heap.size:=bl.lt;have gN:=B.size
    skip
    have Z:=KN C3;subst Z;clear KN K1 K2 K3 gh O0 O1 M T N;go_wp2_with fail
    refine Ci (by simp[results,Tryz.results26,go_sem,fV,ft,fY,fl,eW,g9,g8,fm,fZ,fX,E,I,H,J,lu]; rfl) rfl ?_;exact⟨rfl,zi⟩
 | false=>
  cases L with
  | false=>
   have Z:=KL rfl;subst Z;clear KF KL KR KN K1 K2 K3 KT FQ O0 O1 hK hL b0 b1 b2 fw
   go_enter Tryz.func26,Tryz.ntmps26
   have Y:=av.refl w;go_wp2_with fail
   refine(LM _ (w.heap.size+1) 28 (Y.trans zo) zw).mono ?_;rintro e w1 ⟨rfl,gp⟩;have st:zf _ w1:=gp;have B:=bA w st;have kp:=kB w st;replace Y:=Y.trans kp;have X:ai w1 w.heap.size 45 #[Cx false,Cq ua2 ua3 ua4,Cx ua5,Cq ua6 ua7 ua8,Cz Cv R,Cz Cv A,Cx ub1,Cq ub2 ub3 ub4,Cx ub5,Cq ub6 ub7 ub8,Cx uc1,Cq uc2 uc3 uc4,Cx uc5,Cq uc6 uc7 uc8]:=ai.ak st;clear kp;clear st;go_wp2_with fail
   refine Ci (by simp[results,Tryz.results26,go_sem,]; rfl) rfl ?_;exact⟨rfl,zi⟩
  | true=>
   go_enter Tryz.func26,Tryz.ntmps26
   have Y:=av.refl w;obtain⟨⟨r1,e1,q1,z1⟩,r2,e2,q2,z2⟩:=FQ rfl;rw[e1]at b1;rw[e2]at b2;rw[q1]at K1 K2 KT;rw[q2]at K3 KT;have F1:Hid (FR w (Cy #[Cx ub1,Cq ub2 ub3 ub4,Cx ub5,Cq ub6 ub7 ub8]) r1):=C5 b1;have F2:Hid (FR w (Cy #[Cx uc1,Cq uc2 uc3 uc4,Cx uc5,Cq uc6 uc7 uc8]) r2):=C5 b2;obtain⟨c1,gg⟩:∃c,yJ r1 0=c:=⟨_,rfl⟩;obtain⟨c2,gk⟩:∃c,yJ r1 1=c:=⟨_,rfl⟩;obtain⟨c3,gj⟩:∃c,yJ r2 0=c:=⟨_,rfl⟩;rw[gg]at K1 KT;rw[gk]at K2 KT;rw[gj]at K3 KT;have M:∀ (w':Cc) (g:Nat) (t:Ce) (u v:Cd),ai w' g t #[Cz Cv 0]->FR w' u r1->FR w' v 0->Cb Ch 67 #[Cj (some ⟨g,0,none⟩),u,v] w' fun e w2=>e = Cg (Cz Cv c1)/\zf w' w2:=fun w' g t u v hb h1 h2=>by have:=xl w' hb h1 h2 z1 Y7 B_; rw[gg]at this; exact this
   have T:∀ (w':Cc) (g:Nat) (t:Ce) (u v:Cd),ai w' g t #[Cz Cv 0]->FR w' u r1->FR w' v 1->Cb Ch 67 #[Cj (some ⟨g,0,none⟩),u,v] w' fun e w2=>e = Cg (Cz Cv c2)/\zf w' w2:=fun w' g t u v hb h1 h2=>by have:=xl w' hb h1 h2 z1 GW B_; rw[gk]at this; exact this
   have N:∀ (w':Cc) (g:Nat) (t:Ce) (u v:Cd),ai w' g t #[Cz Cv 0]->FR w' u r2->FR w' v 0->Cb Ch 67 #[Cj (some ⟨g,0,none⟩),u,v] w' fun e w2=>e = Cg (Cz Cv c3)/\zf w' w2:=fun w' g t u v hb h1 h2=>by have:=xl w' hb h1 h2 z2 Y7 B_; rw[gj]at this; exact this
   clear gg gk gj;have cx:=KT rfl;clear KF KL KT FQ hK hL e1 e2 q1 q2 fw b0 b1 b2;go_wp2_with fail
   refine(LM _ (w.heap.size+1) 28 (Y.trans zo) zw).mono ?_;rintro e w1 ⟨rfl,st⟩;have B:=bA w st;have kp:=kB w st;replace Y:=Y.trans kp;have X:ai w1 w.heap.size 45 #[Cx false,Cq ua2 ua3 ua4,Cx ua5,Cq ua6 ua7 ua8,Cz Cv R,Cz Cv A,Cx ub1,Cq ub2 ub3 ub4,Cx ub5,Cq ub6 ub7 ub8,Cx uc1,Cq uc2 uc3 uc4,Cx uc5,Cq uc6 uc7 uc8]:=ai.ak st;replace F1:=C5 (F1.out.af kp);replace F2:=C5 (F2.out.af kp);clear kp;clear st;obtain⟨fV,ft,fY,fl,eW,g9,g8,fm,fZ,fX,E,I,H,J⟩:=X.dz;have lu:=X.lt;clear LM
   rcases(show R<1\/(¬R<1/\65536<R)\/(¬R<1/\¬65536<R/\A<1)\/(¬R<1/\¬65536<R/\¬A<1/\17592186044416<A)\/(¬R<1/\¬65536<R/\¬A<1/\¬17592186044416<A) by omega)with g1 | ⟨g1,g2⟩ | ⟨g1,g2,g3⟩ | ⟨g1,g2,g3,g4⟩ | ⟨g1,g2,g3,g4⟩
   .
    have Z:=KR B_;subst Z;clear KR KN K1 K2 K3 cx O0 O1 M T N
    go_wp2
    go_returns
    exact⟨rfl,zi⟩
   .
    have Z:=KR B_;subst Z;clear KR KN K1 K2 K3 cx O0 O1 M T N
    go_wp2
    go_returns
    exact⟨rfl,zi⟩
   .
    have Z:=KR B_;subst Z;clear KR KN K1 K2 K3 cx O0 O1 M T N
    go_wp2
    go_returns
    exact⟨rfl,zi⟩
   .
    have Z:=KR B_;subst Z;clear KR KN K1 K2 K3 cx O0 O1 M T N
    go_wp2
    go_returns
    exact⟨rfl,zi⟩
   .
    have gh:=cx ⟨by omega,by omega,by omega,by omega⟩;clear cx KR;have gA:w.heap.size<w1.heap.size:=X.lt;have gM:=B.size;go_wp2_with fail
    refine(O0 _ w1.heap.size 89 zw).mono ?_;rintro e w2 ⟨gJ,rfl,eM,st⟩;have sk:=bA w1 st;replace B:=bS B sk;have bl:ai w2 w1.heap.size 89 #[Cz Cv 0]:=ai.ak st;replace X:=X.ae sk;replace F1:=C5 (F1.out.ae sk);replace F2:=C5 (F2.out.ae sk);replace Y:=Y.aI sk;clear st sk fV ft fY fl eW g9 g8 fm fZ fX E I H J lu;obtain⟨ce,cY,ah,dk,ci,d9,b9,dc,rfl⟩:=eM.au;have cy:=C5 eM;clear eM;go_wp2_with fail
    refine(O1 _ w1.heap.size 89 zw).mono ?_;rintro e w3 ⟨gO,rfl,fW,st⟩;have sk:=bA w2 st;replace B:=bS B sk;replace X:=X.ae sk;replace bl:=bl.ae sk;replace F1:=C5 (F1.out.ae sk);replace F2:=C5 (F2.out.ae sk);replace cy:=C5 (cy.out.ae sk);replace Y:=Y.aI sk;clear st sk;obtain⟨fV,ft,fY,fl,eW,g9,g8,fm,fZ,fX,E,I,H,J⟩:=X.dz;have lu:=X.lt;obtain⟨dl,br,be,cg,bt,dd,bf,cN,rfl⟩:=fW.au;have gd:=C5 fW;clear fW;have gr:w1.heap.size<w3.heap.size:=bl.lt;have gN:=B.size;clear O0 O1 KN;go_wp2_with fail
    refine(M _ w1.heap.size 89 _ _ zw (F1.out.af zo) (cy.out.af zo)).mono ?_;rintro e w4 ⟨rfl,st⟩;have sk:=bA w3 st;replace B:=bS B sk;have gi:ai w4 w3.heap.size 28 #[Cx ce,Cq cY ah dk,Cx ci,Cq d9 b9 dc]:=ai.ak st;have gn:ai w4 (w3.heap.size+1) 28 #[Cx dl,Cq br be cg,Cx bt,Cq dd bf cN]:=ai.ak st;replace X:=X.ae sk;replace bl:=bl.ae sk;replace F1:=C5 (F1.out.ae sk);replace F2:=C5 (F2.out.ae sk);replace cy:=C5 (cy.out.ae sk);replace gd:=C5 (gd.out.ae sk);replace Y:=Y.aI sk;clear st sk fV ft fY fl eW g9 g8 fm fZ fX E I H J lu;obtain⟨fV,ft,fY,fl,eW,g9,g8,fm,fZ,fX,E,I,H,J⟩:=X.dz;have lu:=X.lt;have gz:=gi.lt;obtain⟨gE,gC,gD,gH⟩:=gn.r3;have gt:=gn.lt
    by_cases h1:c1<=0
    .
     have Z:=K1 B_;subst Z;clear K1 K2 K3 gh M T N
     go_wp2
     go_returns
     exact⟨rfl,zi⟩
    .
     go_wp2_with fail
     refine(T _ w1.heap.size 89 _ _ zw (F1.out.af zo) (gd.out.af zo)).mono ?_;rintro e w5 ⟨rfl,st⟩;have sk:=bA w4 st;replace B:=bS B sk;replace X:=X.ae sk;replace bl:=bl.ae sk;replace gi:=gi.ae sk;replace gn:=gn.ae sk;replace F1:=C5 (F1.out.ae sk);replace F2:=C5 (F2.out.ae sk);replace cy:=C5 (cy.out.ae sk);replace gd:=C5 (gd.out.ae sk);replace Y:=Y.aI sk;clear st sk fV ft fY fl eW g9 g8 fm fZ fX E I H J lu gz gE gC gD gH gt;obtain⟨fV,ft,fY,fl,eW,g9,g8,fm,fZ,fX,E,I,H,J⟩:=X.dz;have lu:=X.lt;obtain⟨gB,gG,gF,gI⟩:=gi.r3;have gz:=gi.lt;have gt:=gn.lt
     by_cases h2:¬c2<0
     .
      have Z:=K2 B_;subst Z;clear K1 K2 K3 gh M T N
      go_wp2
      go_returns
      exact⟨rfl,zi⟩
     .
      have gP:c2<0:=B_
      go_wp2_with fail
      refine(N _ w1.heap.size 89 _ _ zw (F2.out.af zo) (cy.out.af zo)).mono ?_;rintro e w6 ⟨rfl,st⟩;have sk:=bA w5 st;replace B:=bS B sk;replace X:=X.ae sk;replace bl:=bl.ae sk;replace gi:=gi.ae sk;replace gn:=gn.ae sk;replace F1:=C5 (F1.out.ae sk);replace F2:=C5 (F2.out.ae sk);replace cy:=C5 (cy.out.ae sk);replace gd:=C5 (gd.out.ae sk);replace Y:=Y.aI sk;clear st sk fV ft fY fl eW g9 g8 fm fZ fX E I H J lu gB gG gF gI gz gt
      by_cases h3:c3<=0
      .
       have Z:=K3 B_;subst Z;clear K1 K2 K3 gh M T N
       go_wp2
       go_returns
       exact⟨rfl,zi⟩
      .
       have Z:=gh C3 B_ B_ B_;subst Z;clear K1 K2 K3 gh M T N;go_wp2_with fail
       refine Ci (by simp[results,Tryz.results26,go_sem,]; rfl) rfl ?_;exact⟨rfl,zi⟩
theorem aC.eQ {ao:Option Addr} (h:aC w (Cq ao n cap) l) {t:Nat} (ht:t<l.length):∃b o,ao=some ⟨b,o,none⟩/\b<w.heap.size/\w.cell? ⟨b,o+t,none⟩=some (Cz Cv (l.getD t 0)):=by
 obtain⟨H,E,e,_,I⟩:=h
 injection e with M N T
 subst M;obtain⟨b,o,e,J,hc⟩:=I (fun e=>by rw[e]at ht; cases ht);exact⟨b,o,e,J,hc t ht⟩
def xJ (l:List Int) (x:Int):Nat->Bool
 | 0=>false
 | t+1=>xJ l x t||(x==l.getD t 0)
theorem J9 (h:xJ l x i=true):∀m,i<=m->xJ l x m=true:=by
 intro m E
 induction m with
 | zero=>
      obtain rfl:i=0:=B_
      exact h
 | succ m ih=>
  rcases Cm m i with g | g
  .
   obtain rfl:i=m+1:=B_
   exact h
  . unfold xJ; rw[ih g]; rfl
theorem WP (x:Int) (w:Cc) (h:aC w v l) (Z:l.length<=100000) :
  Cb Ch 130 #[v,Cz Cv x] w fun e w'=>∃i,e = Cg (Cz Cv i)/\decide (0<=i)=xJ l x l.length/\zf w w':=by
 obtain⟨ao,cap,rfl⟩:=h.au;have T:=C5 h;obtain⟨n,I⟩:∃n,l.length=n:=⟨_,rfl⟩;have HL:=C5 I;rw[I]at T Z|-;clear h I
 go_enter Tryz.func130,Tryz.ntmps130
 go_wp2_with fail
 go_loopw [8] (fun M wr=>∃t:Nat,t<=n/\M = Cz Cv t/\xJ l x t=false/\Below w.heap.size w wr) (fun M _=>n-(intOf M).toNat)
 case atStart=>exact⟨0,by omega,rfl,rfl,zi⟩
 case round=>
  obtain⟨t,ht,rfl,hw,B⟩:=hrel
  rcases Cm t n with tn | tn
  .
   have bl:decide ((t:Int)<(n:Int))=true:=C9 B_;obtain⟨b,of,rfl,J,h0⟩:=T.out.eQ (t:=t) (by have:=HL.out; omega);have c0:wr.cell? ⟨b,of+t,none⟩=some (Cz Cv (l.getD t 0)):=(B.cell (p:=⟨b,_,none⟩) J).trans h0;have E:(x==l.getD t 0)=true->xJ l x n=true:=fun e=>J9 (i:=t+1) (by unfold xJ; rw[e,Bool.or_true]) n B_;have H:(x==l.getD t 0)=false->xJ l x (t+1)=false:=fun e=>by unfold xJ; rw[hw,e]; rfl
   obtain⟨y,X⟩:∃y,l.getD t 0=y:=⟨_,rfl⟩;rw[X]at c0 E H;clear h0 X
   cases hxy:(x==y)with
   | true=>
    have Y:=E hxy;clear E H
    go_wp2
    go_returns
    exact⟨_,rfl,by rw[Y]; simp,B⟩
   | false=>
    have N:=H hxy;clear E H
    go_wp2
    go_roundw
    case rel=>exact⟨t+1,by omega,by go_num,N,B⟩
    case measure=>simp[intOf]; omega
  .
   obtain rfl:t=n:=B_
   go_wp2
   go_returns
   exact⟨_,rfl,by rw[hw]; rfl,B⟩
theorem J_ (x:Int) (w:Cc) (h:aC w v l) (H:l.length<=100000) :
  Cb Ch 91 #[v,Cz Cv x] w fun e w'=>e = Cg (Cx (xJ l x l.length))/\zf w w':=by
 have ix:=WP x w h H;obtain⟨ao,cap,rfl⟩:=h.au;clear h H;generalize xJ l x l.length=L at *
 go_enter Tryz.func91,Tryz.ntmps91
 go_wp2_with fail
 refine ix.mono ?_;rintro e M ⟨i,rfl,E,I⟩;clear ix
 cases L with
 | true=>
  have J:0<=i:=by simpa using E
  go_wp2
  go_returns
  exact⟨rfl,I⟩
 | false=>
  have J:¬0<=i:=by simpa using E
  go_wp2
  go_returns
  exact⟨rfl,I⟩
def Xe (l:List Int) (n:Int):Nat->Bool
 | 0=>true
 | t+1=>Xe l n t&&decide (-1<=l.getD t 0/\l.getD t 0<n)
theorem VE {n:Int} (h:Xe l n i=false):∀m,i<=m->Xe l n m=false:=by
 intro m E
 induction m with
 | zero=>
      obtain rfl:i=0:=B_
      exact h
 | succ m ih=>
  rcases Cm m i with g | g
  .
   obtain rfl:i=m+1:=B_
   exact h
  . unfold Xe; rw[ih g]; rfl
theorem WQ (k n:Int) (w:Cc) (E:ai w g tg #[Cz Cv n]) :
  Cb Ch 49 #[Cz Cv k,Cj (some ⟨g,0,none⟩)] w fun e w'=>e = Cg (Cx (!decide (-1<=k/\k<n)))/\zf w w':=by
 have I:=E.lt;have H:=E.q0;clear E
 by_cases h1:k < -1
 .
  rw[C_ B_]
  go_enter Tryz.func49,Tryz.ntmps49
  go_wp2
  go_returns
  exact⟨rfl,zi⟩
 .
  by_cases h2:n<=k
  .
   rw[C_ B_]
   go_enter Tryz.func49,Tryz.ntmps49
   go_wp2
   go_returns
   exact⟨rfl,zi⟩
  .
   rw[C9 B_]
   go_enter Tryz.func49,Tryz.ntmps49
   go_wp2
   go_returns
   exact⟨rfl,zi⟩
theorem WR (N:Int) (w:Cc) (h:aC w v l) (hb:ai w g tg #[Cz Cv N]) (hl:l.length<=100000) :
  Cb Ch 89 #[v,.func (.func 49) #[] #[Cj (some ⟨g,0,none⟩)]] w fun e w'=>∃i,e = Cg (Cz Cv i)/\decide (0<=i) = !Xe l N l.length/\zf w w':=by
 obtain⟨ao,cap,rfl⟩:=h.au;have Z:=C5 h;obtain⟨n,M⟩:∃n,l.length=n:=⟨_,rfl⟩;have HL:=C5 M;rw[M]at Z hl|-;have CL:∀w',zf w w'->∀k,Cb Ch 49 #[Cz Cv k,Cj (some ⟨g,0,none⟩)] w' fun e w2=>e = Cg (Cx (!decide (-1<=k/\k<N)))/\zf w' w2:=fun w' s k=>WQ k N w' (hb.ae s);clear h M hb
 go_enter Tryz.func89,Tryz.ntmps89
 go_wp2_with fail
 go_loopw [8] (fun T wr=>∃t:Nat,t<=n/\T = Cz Cv t/\Xe l N t=true/\Below w.heap.size w wr) (fun T _=>n-(intOf T).toNat)
 case atStart=>exact⟨0,by omega,rfl,rfl,zi⟩
 case round=>
  obtain⟨t,ht,rfl,hw,B⟩:=hrel
  rcases Cm t n with tn | tn
  .
   have bl:decide ((t:Int)<(n:Int))=true:=C9 B_;obtain⟨b,of,rfl,X,h0⟩:=Z.out.eQ (t:=t) (by have:=HL.out; omega);have c0:wr.cell? ⟨b,of+t,none⟩=some (Cz Cv (l.getD t 0)):=(B.cell (p:=⟨b,_,none⟩) X).trans h0;have I:=fun w' (s:zf w w')=>CL w' s (l.getD t 0);have J:decide (-1<=l.getD t 0/\l.getD t 0<N)=false->Xe l N n=false:=fun e=>VE (i:=t+1) (by unfold Xe; rw[e,Bool.and_false]) n B_;have E:decide (-1<=l.getD t 0/\l.getD t 0<N)=true->Xe l N (t+1)=true:=fun e=>by unfold Xe; rw[hw,e]; rfl
   obtain⟨s,hs⟩:∃s,decide (-1<=l.getD t 0/\l.getD t 0<N)=s:=⟨_,rfl⟩;rw[hs]at I J E;obtain⟨y,hy⟩:∃y,l.getD t 0=y:=⟨_,rfl⟩;rw[hy]at c0 I;clear h0 hy hs CL;go_wp2_with fail
   refine(I _ zi).mono ?_;rintro e w1 ⟨rfl,H⟩;have Y:Below w.heap.size w w1:=yQ H;clear I H B c0
   cases s with
   | false=>
    have N0:=J rfl;clear J E;rw[show (!false)=true from rfl]
    go_wp2
    go_returns
    exact⟨_,rfl,by rw[N0]; simp,Y⟩
   | true=>
    have Y0:=E rfl;clear J E;rw[show (!true)=false from rfl]
    go_wp2
    go_roundw
    case rel=>exact⟨t+1,by omega,by go_num,Y0,Y⟩
    case measure=>simp[intOf]; omega
  .
   obtain rfl:t=n:=B_
   go_wp2
   go_returns
   exact⟨_,rfl,by rw[hw]; rfl,B⟩
theorem J' (N:Int) (w:Cc) (h:aC w v l) (H:ai w g tg #[Cz Cv N]) (I:l.length<=100000) :
  Cb Ch 48 #[v,.func (.func 49) #[] #[Cj (some ⟨g,0,none⟩)]] w fun e w'=>e = Cg (Cx (!Xe l N l.length))/\zf w w':=by
 have ix:=WR N w h H I;obtain⟨ao,cap,rfl⟩:=h.au;clear h I H;generalize Xe l N l.length=L at *
 go_enter Tryz.func48,Tryz.ntmps48
 go_wp2_with fail
 refine ix.mono ?_;rintro e T ⟨i,rfl,E,J⟩;clear ix
 cases L with
 | true=>
  have M:¬0<=i:=by simpa using E
  go_wp2
  go_returns
  exact⟨rfl,J⟩
 | false=>
  have M:0<=i:=by simpa using E
  go_wp2
  go_returns
  exact⟨rfl,J⟩
theorem ZX {w:Rat} (hw:sz w 20) (E:sz s 20) (l:List Int) (out:Nat->Bool):∀n,sz (xB w s l out n) (20*n+2)
 | 0=>c_
 | n+1=>by
  unfold xB;have h:=ZX hw E l out n
  split
  . exact h.mono B_
  .
   split
   . exact(h.mul hw).mono B_
   . exact(h.mul E).mono B_
theorem VF {w:Rat} (h:out i=true):xB w s l out (i+1)=xB w s l out i:=by
 show (if out i=true then _ else _)=_
 rw[C7 h]
theorem Ka {w:Rat} (h:out i=false) (E:0<=l.getD i 0):xB w s l out (i+1)=xB w s l out i*w:=by
 show (if out i=true then _ else _)=_
 rw[C8 (by rw[h]; decide),C7 E]
theorem Kb {w:Rat} (h:out i=false) (E:¬0<=l.getD i 0):xB w s l out (i+1)=xB w s l out i*s:=by
 show (if out i=true then _ else _)=_
 rw[C8 (by rw[h]; decide),C8 E]
theorem Y8 {h:Rat} (E:sz s 2) (H:sz h 2) (h0:h≠0):sz (yU s h) 20:=by
 unfold yU;exact((((c_.sub E).add (E.mul H)).div H h0).mono B_)
theorem Wa {n:Int} {vo:Cd} {lo:List Int} (w:Cc) (hc:ai w gc tc #[Cz Cv 0]) (gT:FR w (Cy #[Cx ub1,Cq ub2 ub3 ub4,Cx ub5,Cq ub6 ub7 ub8]) s) (ss:sz s 2) (r0:1<=R) (r1:R<=65536) (a0:1<=A) (a1:A<=17592186044416) (n2:1<=n) (n1:n<=200) (hl:aC w vp l) (ho:aC w vo lo) (l0:l.length<=200) (l1:lo.length<=100000) :
  Cb Ch 51 #[Cj (some ⟨gc,0,none⟩),Cy #[Cx ua1,Cq ua2 ua3 ua4,Cx ua5,Cq ua6 ua7 ua8,Cz Cv R,Cz Cv A,Cx ub1,Cq ub2 ub3 ub4,Cx ub5,Cq ub6 ub7 ub8,Cx uc1,Cq uc2 uc3 uc4,Cx uc5,Cq uc6 uc7 uc8],vp,Cz Cv n,vo] w fun e w'=>∃v,e = Cg v/\FR w' v (xB (yU s (zC R A n)) s l (fun i=>xJ lo i lo.length) l.length)/\zf w w':=by
 have sc:=(jV r0 r1 a0 a1 (show 0<=n by omega) n1).1;have hp:=ki r0 a0 n2;have gN:zC R A n≠0:=Rat.ne_of_gt hp;have sw:=Y8 ss sc gN;have KC:∀w',Below w.heap.size w w'->ai w' gc tc #[Cz Cv 0]:=fun w' s=>hc.ae s;have CH:=fun(w':Cc) (s:Below w.heap.size w w')=>Ze (ua1:=ua1) (ua2:=ua2) (ua3:=ua3) (ua4:=ua4) (ua5:=ua5) (ua6:=ua6) (ua7:=ua7) (ua8:=ua8) (ub1:=ub1) (ub2:=ub2) (ub3:=ub3) (ub4:=ub4) (ub5:=ub5) (ub6:=ub6) (ub7:=ub7) (ub8:=ub8) (uc1:=uc1) (uc2:=uc2) (uc3:=uc3) (uc4:=uc4) (uc5:=uc5) (uc6:=uc6) (uc7:=uc7) (uc8:=uc8) R A n w' (KC w' s) r0 r1 a0 a1 B_ n1;have O1:∀w',Below w.heap.size w w'->Cb Ch 66 #[Cj (some ⟨gc,0,none⟩),Cz Cv 1] w' fun e w2=>∃v,e = Cg v/\FR w2 v (1:Rat)/\zf w' w2:=fun w' s=>by have:=Vg 1 w' (KC w' s) C0 C0; rw[ZV]at this; exact this
 have s1:sz (1:Rat) 2:=c_;have CT:=fun(w':Cc) (s:zf w w') (x:Int)=>J_ x w' (ho.ae s) l1;have OS:=fun k=>ZX (w:=yU s (zC R A n)) (s:=s) sw (ss.mono B_) l (fun i=>xJ lo i lo.length) k;have OO:=fun k=>VF (w:=yU s (zC R A n)) (s:=s) (l:=l) (out:=fun i=>xJ lo i lo.length) (i:=k);have OW:=fun k=>Ka (w:=yU s (zC R A n)) (s:=s) (l:=l) (out:=fun i=>xJ lo i lo.length) (i:=k);have OL:=fun k=>Kb (w:=yU s (zC R A n)) (s:=s) (l:=l) (out:=fun i=>xJ lo i lo.length) (i:=k);have OZ:xB (yU s (zC R A n)) s l (fun i=>xJ lo i lo.length) 0=1:=rfl;have eW:yU s (zC R A n)=(1-s+s*zC R A n) / zC R A n:=rfl;generalize hOF:xB (yU s (zC R A n)) s l (fun i=>xJ lo i lo.length)=OF at *
 (try dsimp only at OO OW OL)
 generalize hWQ:yU s (zC R A n)=wq at *;generalize decide (zC R A n<1)=bl at *;generalize zC R A n=q at *;have Fb:=C5 gT;obtain⟨ao,cap,rfl⟩:=hl.au;obtain⟨lj,iI,rfl⟩:=ho.au;have HP:=C5 hl;obtain⟨N,hN⟩:∃m,l.length=m:=⟨_,rfl⟩;have HL:=C5 hN;rw[hN]at HP l0|-;clear r0 r1 a0 a1 n2 n1 hp gT hl ho hc hOF hWQ hN
 go_enter Tryz.func51,Tryz.ntmps51
 go_wp2_with (first
  | (
    (with_reducible show wpList _ _ _ (⟨some 19,_,_,_,_,_⟩::_) _ _)
    refine zP rfl 45 (.tmp 6) rfl w.heap.size rfl 45 #[Cx ua1,Cq ua2 ua3 ua4,Cx ua5,Cq ua6 ua7 ua8,Cz Cv R,Cz Cv A,Cx ub1,Cq ub2 ub3 ub4,Cx ub5,Cq ub6 ub7 ub8,Cx uc1,Cq uc2 uc3 uc4,Cx uc5,Cq uc6 uc7 uc8] _ zw Tryz.underlying45 rfl B' ?_
    skip)
  )
 refine(CH _ zi).mono ?_;rintro e w1 ⟨iT,rfl,fZ,st⟩;have B:=bA w st;have kp:=kB w st;have ou:ai w1 w.heap.size 45 #[Cx ua1,Cq ua2 ua3 ua4,Cx ua5,Cq ua6 ua7 ua8,Cz Cv R,Cz Cv A,Cx ub1,Cq ub2 ub3 ub4,Cx ub5,Cq ub6 ub7 ub8,Cx uc1,Cq uc2 uc3 uc4,Cx uc5,Cq uc6 uc7 uc8]:=ai.ak st;have or:ai w1 (w.heap.size+1) 28 qE:=ai.ak st;replace Fb:=C5 (Fb.out.af kp);clear kp;clear st;obtain⟨gh,gg,gj,g9,g8,gp,gn,gd,gk,gi,eM,fm,fl,ft⟩:=ou.dz;have lu:=ou.lt;have lr:=or.lt;obtain⟨gK,gM,gO,gR,gX,ik,gJ,gL,rfl⟩:=fZ.au;have E:=C5 fZ;clear fZ;have iH:w.heap.size+1<w1.heap.size:=or.lt;have lh:=B.size;go_wp2_with fail
 go_upto_region 2 with fail
 refine aj.dj w w1 [.o w.heap.size 45 #[Cx ua1,Cq ua2 ua3 ua4,Cx ua5,Cq ua6 ua7 ua8,Cz Cv R,Cz Cv A,Cx ub1,Cq ub2 ub3 ub4,Cx ub5,Cq ub6 ub7 ub8,Cx uc1,Cq uc2 uc3 uc4,Cx uc5,Cq uc6 uc7 uc8],.o (w.heap.size+1) 28 #[Cx false,Cq none 0 0,Cx false,Cq none 0 0],.o w1.heap.size 28 #[Cx gK,Cq gM gO gR,Cx gX,Cq ik gJ gL],.n 19 28 #[Cx false,Cq none 0 0,Cx false,Cq none 0 0] 20 [18] aj.v1] [4,7,12,13,15,18,19,20] [(4,y_),(7,y_),(12,y_),(13,y_),(15,UZ 0),(18,y_),(19,jH)] [(4,bU (1)),(7,bU ((1-s))),(12,bU ((s*q))),(13,bU (((1-s)+(s*q)))),(15,cZ ((((1-s)+(s*q)) / q)) 0),(18,bU ((((1-s)+(s*q)) / q)))] [(7,[(4,some 28)]),(13,[(7,some 31),(12,some 36)]),(15,[(13,some 37)]),(18,[(15,some 39)]),(20,[(18,some 42),(19,some 13)]),(21,[(4,some 28),(7,some 31),(12,some 36),(13,some 37),(15,some 39),(18,some 42),(19,some 13)])] [(19,[20]),(18,[20])] (by simp only[aX]; exact⟨zi,zo,zw,zw,zw,trivial⟩) (fun N0 it gP Q' H hQ=> ?_);clear gh gg gj g9 g8 gp gn gd gk gi eM fm fl ft lu lr;clear it
 repeat refine aj.aK _ ?_
 refine aj.sC H (fun D v' W' h _=>O1 W' h.b) ?_;rintro _ ⟨l9,ja,iN,k8,l3,ko,ka,mb,rfl⟩;refine aj.dJ rfl ?_;refine aj.aK 29 ?_;refine aj.aV 30 (fun _ _ _ h=>C6 h.e.1.q6 (C6 h.e.1.q7 (C6 h.e.1.q8 h.e.1.q9))) ?_;refine aj.sC H (fun D v' W' h hf=>JY W' (KC _ h.b) (hf (4,some 28) (.head _) rfl).2.2 (Fb.out.af h.k) s1 ss B_) ?_;rintro _ ⟨m8,lC,kc,lK,iZ,iX,iK,iY,rfl⟩;refine aj.dJ rfl ?_
 repeat refine aj.aK _ ?_
 refine aj.aV 34 (fun _ _ _ h=>C6 h.e.1.q6 (C6 h.e.1.q7 (C6 h.e.1.q8 h.e.1.q9))) ?_;refine aj.aV 35 (fun _ _ _ h=>h.e.2.2.1.r3) ?_;refine aj.sC H (fun D v' W' h _=>QG W' (KC _ h.b) (Fb.out.af h.k) (E.out.af h.k) ss sc B_) ?_;rintro _ ⟨ma,lH,iP,lk,kE,l8,mf,lZ,rfl⟩;refine aj.dJ rfl ?_;refine aj.sC H (fun D v' W' h hf=>Ut W' (KC _ h.b) (hf (7,some 31) (.head _) rfl).2.2 (hf (12,some 36) (.tail _ (.head _)) rfl).2.2 (s1.sub ss) (ss.mul sc) B_) ?_;rintro _ ⟨iW,mg,iV,iS,lQ,lF,iM,lI,rfl⟩;refine aj.dJ rfl ?_;refine aj.aV 38 (fun _ _ _ h=>h.e.2.2.1.r3) ?_;refine aj.sC H (fun D v' W' h hf=>GG W' (hf (13,some 37) (.head _) rfl).2.2 (E.out.af h.k) ((s1.sub ss).add (ss.mul sc)) sc B_ gN) ?_;rintro _ ⟨iL,ks,lf,lE,m7,k6,lW,me,rfl⟩;refine aj.dJ rfl ?_
 repeat refine aj.aK _ ?_
 refine aj.sC H (fun D v' W' h hf=>ke W' (KC _ h.b) (hf (15,some 39) (.head _) rfl).2.2.get) ?_;rintro _ ⟨gI,gC,gB,gH,gF,gG,gE,gD,rfl⟩;refine aj.dJ rfl ?_;refine aj.sA H ?_;rintro _ ⟨p13,rfl⟩;refine aj.dJ rfl ?_;refine aj.sN H ?_;refine aj.sE (fun _ v' w2 B jk hl _ ig hf=> ?_);simp only[qB,qF,V6]at hl ig;obtain⟨ou,or,cx,fV,-⟩:=hl;obtain⟨lP,I⟩:N0<=p13/\ai w2 p13 28 #[Cx gI,Cq gC gB gH,Cx gF,Cq gG gE gD]:=fV p13 rfl;clear fV;have M:Hid (FR w2 (Cy #[Cx gI,Cq gC gB gH,Cx gF,Cq gG gE gD]) ((((1-s)+(s*q)) / q))):=(hf (18,some 42) (.tail _ (.tail _ (.tail _ (.tail _ (.tail _ (.head _)))))) rfl).2.2;replace Fb:=C5 (Fb.out.af jk);replace E:=C5 (E.out.af jk);clear hf jk;refine hQ _ _ ?_;clear hQ H Q' gP;rw[<- eW]at M;go_wp2_with fail
 refine(O1 _ zi).mono ?_;rintro e w3 ⟨ln,rfl,fY,st⟩;have sk:=bA w2 st;replace B:=bS B sk;replace ou:=ou.ae sk;replace or:=or.ae sk;replace cx:=cx.ae sk;replace I:=I.ae sk;replace Fb:=C5 (Fb.out.ae sk);replace E:=C5 (E.out.ae sk);replace M:=C5 (M.out.ae sk);clear st sk;obtain⟨iD,iq,iC,iF,iz,iB,iu,ir,rfl⟩:=fY.au;have h9:=C5 fY;clear fY;have iA:p13<w3.heap.size:=I.lt;have lN:=B.size;go_wp2_with fail
 have hZ:Hid (FR _ (Cy #[Cx iD,Cq iq iC iF,Cx iz,Cq iB iu ir]) (OF 0)):=C5 (by rw[OZ]; exact h9.out)
 go_loopw [47] (fun sl0 wr=>∃ (i:Nat) (y1:Bool) (y2:Option Addr) (y3 y4:Nat) (y5:Bool) (y6:Option Addr) (y7 y8:Nat),i<=N/\sl0 = Cz Cv i/\ai wr w3.heap.size 28 #[Cx y1,Cq y2 y3 y4,Cx y5,Cq y6 y7 y8]/\FR wr (Cy #[Cx y1,Cq y2 y3 y4,Cx y5,Cq y6 y7 y8]) (OF i)/\ai wr w.heap.size 45 #[Cx ua1,Cq ua2 ua3 ua4,Cx ua5,Cq ua6 ua7 ua8,Cz Cv R,Cz Cv A,Cx ub1,Cq ub2 ub3 ub4,Cx ub5,Cq ub6 ub7 ub8,Cx uc1,Cq uc2 uc3 uc4,Cx uc5,Cq uc6 uc7 uc8]/\ai wr (w.heap.size+1) 28 qE/\ai wr w1.heap.size 28 #[Cx gK,Cq gM gO gR,Cx gX,Cq ik gJ gL]/\ai wr (p13) 28 #[Cx gI,Cq gC gB gH,Cx gF,Cq gG gE gD]/\Below w.heap.size w wr/\av w3 wr) (fun sl0 _=>N-(intOf sl0).toNat)
 case atStart=>exact⟨0,_,_,_,_,_,_,_,_,by omega,rfl,zw,hZ.out.af zo,zw,zw,zw,zw,zi,zo⟩
 case round=>
  clear hZ h9;clear ou or cx I;clear B;obtain⟨i,y1,y2,y3,y4,y5,y6,y7,y8,hi,rfl,J,fy,ou,or,cx,I,B,kk⟩:=hrel;replace Fb:=C5 (Fb.out.af kk);replace E:=C5 (E.out.af kk);replace M:=C5 (M.out.af kk);have Fy:=C5 fy;clear fy;have gV:=OS i;have lu:=ou.lt;obtain⟨ij,gY,gZ,gQ,fr,lr⟩:=or.s3;obtain⟨T,Z,Y,X⟩:=J.r3;have cy:=J.lt
  rcases Cm i N with i4 | i4
  .
   have lg:decide ((i:Int)<(N:Int))=true:=C9 B_;obtain⟨b,of,rfl,iv,h0⟩:=HP.out.eQ (t:=i) (by have:=HL.out; omega);have c0:wr.cell? ⟨b,of+i,none⟩=some (Cz Cv (l.getD i 0)):=(B.cell (p:=⟨b,_,none⟩) iv).trans h0;have ct:=fun(w':Cc) (s:Below w.heap.size w w')=>CT w' s (i:Int);have oo:=OO i;have ow:=OW i;have ol:=OL i;generalize xJ lo (i:Int) lo.length=m at ct oo ow ol;generalize l.getD i 0=y at c0 ow ol;clear h0 CT OO OW OL OS;go_wp2_with fail
   refine(ct _ zi).mono ?_;rintro e w4 ⟨rfl,st⟩;have sk:=bA wr st;replace B:=bS B sk;replace ou:=ou.ae sk;replace or:=or.ae sk;replace cx:=cx.ae sk;replace I:=I.ae sk;replace J:=J.ae sk;replace Fb:=C5 (Fb.out.ae sk);replace E:=C5 (E.out.ae sk);replace M:=C5 (M.out.ae sk);replace Fy:=C5 (Fy.out.ae sk);replace kk:=kk.aI sk;clear st sk lu ij gY gZ gQ fr lr T Z Y X cy;obtain⟨gh,gg,gj,g9,g8,gp,gn,gd,gk,gi,eM,fm,fl,ft⟩:=ou.dz;have lu:=ou.lt;have lr:=or.lt;obtain⟨gr,gz,gA,gt⟩:=I.r3;have gW:=I.lt;obtain⟨T,Z,Y,X⟩:=J.r3;have cy:=J.lt
   cases m with
   | true=>
    have e0:=oo rfl;clear oo ow ol c0;go_wp2_with fail
    go_roundw
    case rel=>exact⟨i+1,_,_,_,_,_,_,_,_,by omega,by go_num,zw,(by rw[e0]; exact Fy.out.af zo),zw,zw,zw,zw,zi,kk.trans zo⟩
    case measure=>simp[intOf]; omega
   | false=>
    by_cases h0:0<=y
    .
     have e0:=ow rfl B_;clear oo ow ol;go_wp2_with fail
     refine(QG _ (KC _ zi) (Fy.out.af zo) (M.out.af zo) gV sw B_).mono ?_;rintro e w5 ⟨l6,rfl,fX,iy⟩;have st:zf _ w5:=iy;have sk:=bA w4 st;replace B:=bS B sk;replace ou:=ou.ae sk;replace or:=or.ae sk;replace cx:=cx.ae sk;replace I:=I.ae sk;replace J:=J.ae sk;replace Fb:=C5 (Fb.out.ae sk);replace E:=C5 (E.out.ae sk);replace M:=C5 (M.out.ae sk);replace Fy:=C5 (Fy.out.ae sk);replace kk:=kk.aI sk;clear st sk gh gg gj g9 g8 gp gn gd gk gi eM fm fl ft lu lr gr gz gA gt gW T Z Y X cy;obtain⟨T,Z,Y,X,iG,cy⟩:=J.s3;obtain⟨iJ,k7,lG,m9,lw,iQ,lY,lJ,rfl⟩:=fX.au;have ip:=C5 fX;clear fX;go_wp2_with fail
     go_roundw
     case rel=>exact⟨i+1,_,_,_,_,_,_,_,_,by omega,by go_num,zw,(by rw[e0]; exact ip.out.af zo),zw,zw,zw,zw,zi,kk.trans zo⟩
     case measure=>simp[intOf]; omega
    .
     have e0:=ol rfl B_;clear oo ow ol;go_wp2_with fail
     refine(QG _ (KC _ zi) (Fy.out.af zo) (Fb.out.af zo) gV ss B_).mono ?_;rintro e w5 ⟨jb,rfl,fW,st⟩;have sk:=bA w4 st;replace B:=bS B sk;replace ou:=ou.ae sk;replace or:=or.ae sk;replace cx:=cx.ae sk;replace I:=I.ae sk;replace J:=J.ae sk;replace Fb:=C5 (Fb.out.ae sk);replace E:=C5 (E.out.ae sk);replace M:=C5 (M.out.ae sk);replace Fy:=C5 (Fy.out.ae sk);replace kk:=kk.aI sk;clear st sk gh gg gj g9 g8 gp gn gd gk gi eM fm fl ft lu lr gr gz gA gt gW T Z Y X cy;obtain⟨T,Z,Y,X,iG,cy⟩:=J.s3;obtain⟨kw,lO,jd,iU,lM,lX,iO,iR,rfl⟩:=fW.au;have iE:=C5 fW;clear fW;go_wp2_with fail
     go_roundw
     case rel=>exact⟨i+1,_,_,_,_,_,_,_,_,by omega,by go_num,zw,(by rw[e0]; exact iE.out.af zo),zw,zw,zw,zw,zi,kk.trans zo⟩
     case measure=>simp[intOf]; omega
  .
   obtain rfl:i=N:=B_
   go_wp2_with fail
   refine Ci (by simp[results,Tryz.results51,go_sem,lu,ij,gY,gZ,gQ,fr,lr,T,Z,Y,X,cy]; rfl) rfl ?_;exact⟨_,rfl,Fy.out.af zo,zi⟩
def xI (K:Bool) (N:Nat) (ok:Bool) (n:Int) (E:Bool):Int:=if K=false then 8 else if 200<N then 4 else if(n<1\/200<n)\/ok=false then 2 else if E=false then 2 else 0
def VG (e:Int) (r:Rat):Option Rat:=if e=0 then some r else none
theorem VH {n:Int} (w:Cc) (b0:FB w (Cy #[Cx ua1,Cq ua2 ua3 ua4,Cx ua5,Cq ua6 ua7 ua8]) (O 0)) (b1:FB w (Cy #[Cx ub1,Cq ub2 ub3 ub4,Cx ub5,Cq ub6 ub7 ub8]) (O 1)) (b2:FB w (Cy #[Cx uc1,Cq uc2 uc3 uc4,Cx uc5,Cq uc6 uc7 uc8]) (O 2)) (fw:ve O (ya ua3 ub3 uc3 uc3) (ya ua7 ub7 uc7 uc7) 3) (hl:aC w vp l) :
  Cb Ch 19 #[Cy #[Cx ua1,Cq ua2 ua3 ua4,Cx ua5,Cq ua6 ua7 ua8,Cz Cv R,Cz Cv A,Cx ub1,Cq ub2 ub3 ub4,Cx ub5,Cq ub6 ub7 ub8,Cx uc1,Cq uc2 uc3 uc4,Cx uc5,Cq uc6 uc7 uc8],vp,Cz Cv n] w fun e w'=>∃v,e = Cg (Ck #[v,Cz Cv (xI (yx O (ya ua3 ub3 uc3 uc3) (ya ua7 ub7 uc7 uc7) R A ua1) l.length (Xe l n l.length) n (decide (zC R A n<1)))])/\FO w' v (VG (xI (yx O (ya ua3 ub3 uc3 uc3) (ya ua7 ub7 uc7 uc7) R A ua1) l.length (Xe l n l.length) n (decide (zC R A n<1))) (xB (yU ((O 1).getD 0) (zC R A n)) ((O 1).getD 0) l XM l.length))/\zf w w':=by
 have CK:∀w',av w w'->Cb Ch 26 #[Cy #[Cx ua1,Cq ua2 ua3 ua4,Cx ua5,Cq ua6 ua7 ua8,Cz Cv R,Cz Cv A,Cx ub1,Cq ub2 ub3 ub4,Cx ub5,Cq ub6 ub7 ub8,Cx uc1,Cq uc2 uc3 uc4,Cx uc5,Cq uc6 uc7 uc8]] w' fun e Y=>e = Cg (Cz Cv (vM (yx O (ya ua3 ub3 uc3 uc3) (ya ua7 ub7 uc7 uc7) R A ua1)))/\zf w' Y:=fun w' k=>QY w' (b0.af k) (b1.af k) (b2.af k) fw
 have RK:yx O (ya ua3 ub3 uc3 uc3) (ya ua7 ub7 uc7 uc7) R A ua1=true->(1<=R/\R<=65536/\1<=A/\A<=17592186044416)/\∃r,O 1=some r/\(O 1).getD 0=r/\sz r 2:=fun h=>by
  obtain⟨hL,hR,_⟩:=zX.1 h;obtain⟨r1,e1,z1⟩:=yL hL fw 1 B_;exact⟨hR,r1,e1,by rw[e1]; rfl,z1⟩
 have CH:(1<=R/\R<=65536/\1<=A/\A<=17592186044416)->1<=n->n<=200->∀w' g,ai w' g 89 #[Cz Cv 0]->Cb Ch 50 #[Cj (some ⟨g,0,none⟩),Cy #[Cx ua1,Cq ua2 ua3 ua4,Cx ua5,Cq ua6 ua7 ua8,Cz Cv R,Cz Cv A,Cx ub1,Cq ub2 ub3 ub4,Cx ub5,Cq ub6 ub7 ub8,Cx uc1,Cq uc2 uc3 uc4,Cx uc5,Cq uc6 uc7 uc8],Cz Cv n] w' fun e Y=>∃v,e = Cg (Ck #[v,Cx (decide (zC R A n<1))])/\FR Y v (zC R A n)/\zf w' Y:=fun hr n0 n1 w' g hb=>Ze (ua1:=ua1) (ua2:=ua2) (ua3:=ua3) (ua4:=ua4) (ua5:=ua5) (ua6:=ua6) (ua7:=ua7) (ua8:=ua8) (ub1:=ub1) (ub2:=ub2) (ub3:=ub3) (ub4:=ub4) (ub5:=ub5) (ub6:=ub6) (ub7:=ub7) (ub8:=ub8) (uc1:=uc1) (uc2:=uc2) (uc3:=uc3) (uc4:=uc4) (uc5:=uc5) (uc6:=uc6) (uc7:=uc7) (uc8:=uc8) R A n w' hb hr.1 hr.2.1 hr.2.2.1 hr.2.2.2 B_ n1;have OC:=fun(w':Cc) (g:Nat) (s:zf w w') (hN:l.length<=200) (hb:ai w' g 3 #[Cz Cv n])=>J' n w' (hl.ae s) hb B_
 have OD:(1<=R/\R<=65536/\1<=A/\A<=17592186044416)->1<=n->n<=200->l.length<=200->∀r,O 1=some r->(O 1).getD 0=r->sz r 2->∀w' g,av w w'->zf w w'->ai w' g 89 #[Cz Cv 0]->Cb Ch 51 #[Cj (some ⟨g,0,none⟩),Cy #[Cx ua1,Cq ua2 ua3 ua4,Cx ua5,Cq ua6 ua7 ua8,Cz Cv R,Cz Cv A,Cx ub1,Cq ub2 ub3 ub4,Cx ub5,Cq ub6 ub7 ub8,Cx uc1,Cq uc2 uc3 uc4,Cx uc5,Cq uc6 uc7 uc8],vp,Cz Cv n,Cq none 0 0] w' fun e Y=>∃v,e = Cg v/\FR Y v (xB (yU ((O 1).getD 0) (zC R A n)) ((O 1).getD 0) l XM l.length)/\zf w' Y:=fun hr n0 n1 hN r e1 e2 z w' g k s hb=>by
  rw[e2];exact Wa w' hb (by have:=b1.af k; rw[e1]at this; exact this) z hr.1 hr.2.1 hr.2.2.1 hr.2.2.2 n0 n1 (hl.ae s) (aC.nil w') hN C3
 obtain⟨ao,cap,rfl⟩:=hl.au;generalize hK:yx O (ya ua3 ub3 uc3 uc3) (ya ua7 ub7 uc7 uc7) R A ua1=K at *;generalize Xe l n l.length=okb at *;generalize decide (zC R A n<1)=less at *;generalize xB (yU ((O 1).getD 0) (zC R A n)) ((O 1).getD 0) l XM l.length=Q at *;generalize zC R A n=cq at *;obtain⟨N,hN⟩:∃m,l.length=m:=⟨_,rfl⟩;rw[hN]at OC OD|-;clear hl b0 b1 b2 fw hK hN
 cases K with
 | false=>
  have eE:xI false N okb n less=8:=by simp[xI]
  rw[eE];clear RK CH OC OD;have eA:vM false=8:=rfl;rw[eA]at CK
  show Cb _ _ _ _ fun e w'=>∃v,e=_/\FO w' v none/\_
  go_enter Tryz.func19,Tryz.ntmps19
  have H:=av.refl w;go_wp2_with fail
  refine(CK _ (H.trans zo)).mono ?_;rintro e J ⟨rfl,eM⟩;have st:zf _ J:=eM;have B:=bA w st;have kp:=kB w st;replace H:=H.trans kp;have I:ai J w.heap.size 45 #[Cx ua1,Cq ua2 ua3 ua4,Cx ua5,Cq ua6 ua7 ua8,Cz Cv R,Cz Cv A,Cx ub1,Cq ub2 ub3 ub4,Cx ub5,Cq ub6 ub7 ub8,Cx uc1,Cq uc2 uc3 uc4,Cx uc5,Cq uc6 uc7 uc8]:=ai.ak st;have E:ai J (w.heap.size+1) 3 #[Cz Cv n]:=ai.ak st;have or:ai J (w.heap.size+1+1) 28 qE:=ai.ak st;clear kp;clear st;have lu:=I.lt;have ln:=E.lt;obtain⟨cy,Z,bl,X,fr,T⟩:=or.s3;dsimp only; repeat' (first | go_values | go_skip | go_guarded | go_step | go_upon)
  refine Ci (by simp[results,Tryz.results19,go_sem,lu,ln,cy,Z,bl,X,fr,T]; rfl) rfl ?_;exact⟨_,rfl,rfl,zi⟩
 | true=>
  have eA:vM true=0:=rfl;rw[eA]at CK;obtain⟨hR,r1,e1,e2,z1⟩:=RK rfl;clear RK
  rcases(show 200<N\/(¬200<N/\n<1)\/(¬200<N/\¬n<1/\200<n)\/(¬200<N/\¬n<1/\¬200<n) by omega)with g1 | ⟨g1,g2⟩ | ⟨g1,g2,g3⟩ | ⟨g1,g2,g3⟩
  .
   have eE:xI true N okb n less=4:=by simp[xI,g1]
   have gE:decide ((200:Int)<(N:Int))=true:=C9 B_;rw[eE];clear CH OC OD
   show Cb _ _ _ _ fun e w'=>∃v,e=_/\FO w' v none/\_
   go_enter Tryz.func19,Tryz.ntmps19
   have H:=av.refl w;go_wp2_with fail
   refine(CK _ (H.trans zo)).mono ?_;rintro e J ⟨rfl,eM⟩;have st:zf _ J:=eM;have B:=bA w st;have kp:=kB w st;replace H:=H.trans kp;have I:ai J w.heap.size 45 #[Cx ua1,Cq ua2 ua3 ua4,Cx ua5,Cq ua6 ua7 ua8,Cz Cv R,Cz Cv A,Cx ub1,Cq ub2 ub3 ub4,Cx ub5,Cq ub6 ub7 ub8,Cx uc1,Cq uc2 uc3 uc4,Cx uc5,Cq uc6 uc7 uc8]:=ai.ak st;have E:ai J (w.heap.size+1) 3 #[Cz Cv n]:=ai.ak st;have or:ai J (w.heap.size+1+1) 28 qE:=ai.ak st;clear kp;clear st;have lu:=I.lt;have ln:=E.lt;obtain⟨cy,Z,bl,X,fr,T⟩:=or.s3;dsimp only; repeat' (first | go_values | go_skip | go_guarded | go_step | go_upon)
   refine Ci (by simp[results,Tryz.results19,go_sem,lu,ln,cy,Z,bl,X,fr,T]; rfl) rfl ?_;exact⟨_,rfl,rfl,zi⟩
  focus
   have eE:xI true N okb n less=2:=by simp[xI,g1,g2]
  rotate_left
  focus
   have eE:xI true N okb n less=2:=by simp[xI,g1,g2,g3]
  rotate_left
  .
   have gE:decide ((200:Int)<(N:Int))=false:=C_ B_;replace CH:=CH hR B_ B_;replace OD:=OD hR B_ B_ B_ r1 e1 e2 z1;clear hR e1 e2 z1
   cases okb with
   | false=>
    have gO:∀ (w':Cc) (g:Nat) (s:zf w w') (hN:N<=200) (hb:ai w' g 3 #[Cz Cv n]),_:=OC;have eE:xI true N false n less=2:=by simp[xI,g1]
    rw[eE];clear CH OD gO
    show Cb _ _ _ _ fun e w'=>∃v,e=_/\FO w' v none/\_
    have eN:(!false)=true:=rfl;rw[eN]at OC
    go_enter Tryz.func19,Tryz.ntmps19
    have H:=av.refl w;go_wp2_with fail
    refine(CK _ (H.trans zo)).mono ?_;rintro e J ⟨rfl,eM⟩;have st:zf _ J:=eM;have B:=bA w st;have kp:=kB w st;replace H:=H.trans kp;have I:ai J w.heap.size 45 #[Cx ua1,Cq ua2 ua3 ua4,Cx ua5,Cq ua6 ua7 ua8,Cz Cv R,Cz Cv A,Cx ub1,Cq ub2 ub3 ub4,Cx ub5,Cq ub6 ub7 ub8,Cx uc1,Cq uc2 uc3 uc4,Cx uc5,Cq uc6 uc7 uc8]:=ai.ak st;have E:ai J (w.heap.size+1) 3 #[Cz Cv n]:=ai.ak st;have or:ai J (w.heap.size+1+1) 28 qE:=ai.ak st;clear kp;clear st;have lu:=I.lt;have M:=E.q0;have ln:=E.lt;have T:=or.lt;go_wp2_with fail
    refine(OC _ _ zi B_ zw).mono ?_;rintro e Y ⟨rfl,gn⟩;have st:zf _ Y:=gn;have sk:=bA J st;replace B:=bS B sk;replace I:=I.ae sk;replace E:=E.ae sk;replace or:=or.ae sk;replace H:=H.aI sk;clear st sk lu M ln T;have lu:=I.lt;have ln:=E.lt;obtain⟨cy,Z,bl,X,fr,T⟩:=or.s3;dsimp only; repeat' (first | go_values | go_skip | go_guarded | go_step | go_upon)
    refine Ci (by simp[results,Tryz.results19,go_sem,lu,ln,cy,Z,bl,X,fr,T]; rfl) rfl ?_;exact⟨_,rfl,rfl,zi⟩
   | true=>
    have eN:(!true)=false:=rfl;rw[eN]at OC
    cases less with
    | false=>
     have eE:xI true N true n false=2:=by simp[xI,g1,g2,g3]
     rw[eE];clear OD
     show Cb _ _ _ _ fun e w'=>∃v,e=_/\FO w' v none/\_
     go_enter Tryz.func19,Tryz.ntmps19
     have H:=av.refl w;go_wp2_with fail
     refine(CK _ (H.trans zo)).mono ?_;rintro e J ⟨rfl,eM⟩;have st:zf _ J:=eM;have B:=bA w st;have kp:=kB w st;replace H:=H.trans kp;have I:ai J w.heap.size 45 #[Cx ua1,Cq ua2 ua3 ua4,Cx ua5,Cq ua6 ua7 ua8,Cz Cv R,Cz Cv A,Cx ub1,Cq ub2 ub3 ub4,Cx ub5,Cq ub6 ub7 ub8,Cx uc1,Cq uc2 uc3 uc4,Cx uc5,Cq uc6 uc7 uc8]:=ai.ak st;have E:ai J (w.heap.size+1) 3 #[Cz Cv n]:=ai.ak st;have or:ai J (w.heap.size+1+1) 28 qE:=ai.ak st;clear kp;clear st;have lu:=I.lt;have M:=E.q0;have ln:=E.lt;have T:=or.lt;go_wp2_with fail
     refine(OC _ _ zi B_ zw).mono ?_;rintro e Y ⟨rfl,gn⟩;have st:zf _ Y:=gn;have sk:=bA J st;replace B:=bS B sk;replace I:=I.ae sk;replace E:=E.ae sk;replace or:=or.ae sk;replace H:=H.aI sk;clear st sk lu M ln T;obtain⟨g8,fZ,gg,fX,fW,gj,gi,fY,gh,g9,eW,fm,fl,ft⟩:=I.dz;have lu:=I.lt;have M:=E.q0;have ln:=E.lt;have T:=or.lt;have gG:w.heap.size+1+1<Y.heap.size:=or.lt;have gN:=B.size;go_wp2_with fail
     refine(CH _ Y.heap.size zw).mono ?_;rintro e w3 ⟨gJ,rfl,cx,gK⟩;have st:zf _ w3:=gK;have sk:=bA Y st;replace B:=bS B sk;have fV:ai w3 Y.heap.size 89 #[Cz Cv 0]:=ai.ak st;replace I:=I.ae sk;replace E:=E.ae sk;replace or:=or.ae sk;replace H:=H.aI sk;clear st sk g8 fZ gg fX fW gj gi fY gh g9 eW fm fl ft lu M ln T;have lu:=I.lt;have ln:=E.lt;obtain⟨cy,Z,bl,X,fr,T⟩:=or.s3;obtain⟨gt,gA,gB,gD,gF,gH,gr,gz,rfl⟩:=cx.au;have gk:=C5 cx;clear cx;have gp:Y.heap.size<w3.heap.size:=fV.lt;have gP:=B.size;dsimp only; repeat' (first | go_values | go_skip | go_guarded | go_step | go_upon)
     refine Ci (by simp[results,Tryz.results19,go_sem,lu,ln,cy,Z,bl,X,fr,T]; rfl) rfl ?_;exact⟨_,rfl,rfl,zi⟩
    | true=>
     have eE:xI true N true n true=0:=by simp[xI,g1,g2,g3]
     rw[eE]
     show Cb _ _ _ _ fun e w'=>∃v,e=_/\FO w' v (some Q)/\_
     go_enter Tryz.func19,Tryz.ntmps19
     have H:=av.refl w;go_wp2_with fail
     refine(CK _ (H.trans zo)).mono ?_;rintro e J ⟨rfl,eM⟩;have st:zf _ J:=eM;have B:=bA w st;have kp:=kB w st;replace H:=H.trans kp;have I:ai J w.heap.size 45 #[Cx ua1,Cq ua2 ua3 ua4,Cx ua5,Cq ua6 ua7 ua8,Cz Cv R,Cz Cv A,Cx ub1,Cq ub2 ub3 ub4,Cx ub5,Cq ub6 ub7 ub8,Cx uc1,Cq uc2 uc3 uc4,Cx uc5,Cq uc6 uc7 uc8]:=ai.ak st;have E:ai J (w.heap.size+1) 3 #[Cz Cv n]:=ai.ak st;have or:ai J (w.heap.size+1+1) 28 qE:=ai.ak st;clear kp;clear st;have lu:=I.lt;have M:=E.q0;have ln:=E.lt;have T:=or.lt;go_wp2_with fail
     refine(OC _ _ zi B_ zw).mono ?_;rintro e Y ⟨rfl,st⟩;have sk:=bA J st;replace B:=bS B sk;replace I:=I.ae sk;replace E:=E.ae sk;replace or:=or.ae sk;replace H:=H.aI sk;clear st sk lu M ln T;obtain⟨g8,fZ,gg,fX,fW,gj,gi,fY,gh,g9,eW,fm,fl,ft⟩:=I.dz;have lu:=I.lt;have M:=E.q0;have ln:=E.lt;have T:=or.lt;have gG:w.heap.size+1+1<Y.heap.size:=or.lt;have gN:=B.size;go_wp2_with fail
     refine(CH _ Y.heap.size zw).mono ?_;rintro e w3 ⟨gJ,rfl,cx,st⟩;have sk:=bA Y st;replace B:=bS B sk;have fV:ai w3 Y.heap.size 89 #[Cz Cv 0]:=ai.ak st;replace I:=I.ae sk;replace E:=E.ae sk;replace or:=or.ae sk;replace H:=H.aI sk;clear st sk g8 fZ gg fX fW gj gi fY gh g9 eW fm fl ft lu M ln T;obtain⟨g8,fZ,gg,fX,fW,gj,gi,fY,gh,g9,eW,fm,fl,ft⟩:=I.dz;have lu:=I.lt;have M:=E.q0;have ln:=E.lt;have T:=or.lt;obtain⟨gt,gA,gB,gD,gF,gH,gr,gz,rfl⟩:=cx.au;have gk:=C5 cx;clear cx;have gp:Y.heap.size<w3.heap.size:=fV.lt;have gP:=B.size;go_wp2_with fail
     refine(OD _ Y.heap.size (H.trans zo) zi zw).mono ?_;rintro e w4 ⟨gX,rfl,gd,st⟩;have sk:=bA w3 st;replace B:=bS B sk;have gI:ai w4 w3.heap.size 28 #[Cx gt,Cq gA gB gD,Cx gF,Cq gH gr gz]:=ai.ak st;replace I:=I.ae sk;replace E:=E.ae sk;replace or:=or.ae sk;replace fV:=fV.ae sk;replace gk:=C5 (gk.out.ae sk);replace H:=H.aI sk;clear st sk g8 fZ gg fX fW gj gi fY gh g9 eW fm fl ft lu M ln T;have lu:=I.lt;have ln:=E.lt;obtain⟨cy,Z,bl,X,fr,T⟩:=or.s3;have gC:=fV.q0;have gM:=fV.lt;obtain⟨hZ,gR,gZ,ig,gW,gY,gV,gT,rfl⟩:=gd.au;have gQ:=C5 gd;clear gd;have gL:w3.heap.size<w4.heap.size:=gI.lt;have h9:=B.size;go_wp2_with fail
     refine Ci (by simp[results,Tryz.results19,go_sem,lu,ln,cy,Z,bl,X,fr,T,gC,gM]; rfl) rfl ?_;exact⟨_,rfl,gQ.out.af zo,zi⟩
  all_goals
   have gE:decide ((200:Int)<(N:Int))=false:=C_ B_;rw[eE];clear CH OC OD
   show Cb _ _ _ _ fun e w'=>∃v,e=_/\FO w' v none/\_
   go_enter Tryz.func19,Tryz.ntmps19
   have H:=av.refl w;go_wp2_with fail
   refine(CK _ (H.trans zo)).mono ?_;rintro e J ⟨rfl,st⟩;have B:=bA w st;have kp:=kB w st;replace H:=H.trans kp;have I:ai J w.heap.size 45 #[Cx ua1,Cq ua2 ua3 ua4,Cx ua5,Cq ua6 ua7 ua8,Cz Cv R,Cz Cv A,Cx ub1,Cq ub2 ub3 ub4,Cx ub5,Cq ub6 ub7 ub8,Cx uc1,Cq uc2 uc3 uc4,Cx uc5,Cq uc6 uc7 uc8]:=ai.ak st;have E:ai J (w.heap.size+1) 3 #[Cz Cv n]:=ai.ak st;have or:ai J (w.heap.size+1+1) 28 qE:=ai.ak st;clear kp;clear st;have lu:=I.lt;have M:=E.q0;have ln:=E.lt;obtain⟨cy,Z,bl,X,fr,T⟩:=or.s3;dsimp only; repeat' (first | go_values | go_skip | go_guarded | go_step | go_upon)
   refine Ci (by simp[results,Tryz.results19,go_sem,lu,M,ln,cy,Z,bl,X,fr,T]; rfl) rfl ?_;exact⟨_,rfl,rfl,zi⟩
theorem cn.af {o:Option (Nat->Rat)} (h:cn w v o) (k:av w w'):cn w' v o:=by
 cases o with
 | none=>exact h
 | some t=>exact cz.af h k
theorem cn.au {o:Option (Nat->Rat)} (h:cn w v o):∃ce cY ah dk ci d9 b9 dc dl br be cg bt dd bf cN ec f7 bg f8 ek f9 bi dy em er bh eF dx fd bq dP,v = Cy #[Cx ce,Cq cY ah dk,Cx ci,Cq d9 b9 dc,Cx dl,Cq br be cg,Cx bt,Cq dd bf cN,Cx ec,Cq f7 bg f8,Cx ek,Cq f9 bi dy,Cx em,Cq er bh eF,Cx dx,Cq fd bq dP]:=by
 cases o with
 | none=>exact⟨_,_,_,_,_,_,_,_,_,_,_,_,_,_,_,_,_,_,_,_,_,_,_,_,_,_,_,_,_,_,_,_,h⟩
 | some t=>obtain⟨ce,cY,ah,dk,ci,d9,b9,dc,dl,br,be,cg,bt,dd,bf,cN,ec,f7,bg,f8,ek,f9,bi,dy,em,er,bh,eF,dx,fd,bq,dP,rfl,_⟩:=h; exact⟨ce,cY,ah,dk,ci,d9,b9,dc,dl,br,be,cg,bt,dd,bf,cN,ec,f7,bg,f8,ek,f9,bi,dy,em,er,bh,eF,dx,fd,bq,dP,rfl⟩
theorem FO.au (h:FO w v o):∃a s n c b t m d,v = Cy #[Cx a,Cq s n c,Cx b,Cq t m d]:=by
 cases o with
 | none=>exact⟨_,_,_,_,_,_,_,_,h⟩
 | some r=>exact FR.au h
theorem FR.eG {a b c d:Cd} (h:FR w (Cy #[a,b,c,d]) r):et w r.num r.den a b c d/\fits r.num/\fits (r.den:Int):=by
 have f:=FR.fit h;obtain⟨a2,I,a4,a6,J,a8,e,H,E,_⟩:=FR.cj h;simp only[Value.agg.injEq,Array.mk.injEq,List.cons.injEq,and_true]at e;obtain⟨rfl,rfl,rfl,rfl⟩:=e;exact⟨⟨H,E⟩,f.1,f.2⟩
theorem kL (w:Cc):et w 0 0 (Cx false) (Cq none 0 0) (Cx false) (Cq none 0 0):=⟨az.zero w,az.zero w⟩
theorem Y9:fits 0:=jm C0 C0
theorem qP (w:Cc) (h:FO w va o) (E:FO w vb o):Cb Ch 16 #[va,vb] w fun e w'=>e = Cg (Cx true)/\zf w w':=by
 cases o with
 | none=>
  obtain rfl:va=_:=h;obtain rfl:vb=_:=E;exact QP w (kL w) (kL w) Y9 Y9
 | some r=>
  obtain⟨a1,a2,N,a4,a5,a6,M,a8,rfl⟩:=FR.au h;obtain⟨b1,b2,b3,b4,b5,b6,b7,b8,rfl⟩:=FR.au E;obtain⟨I,H,J⟩:=FR.eG h;exact QP w I (FR.eG E).1 H J
theorem Jv {gH ij gt gN gI gZ gD h9:Bool} {gV gA gE gz gB gW hZ ig:Option Addr} {gJ gX gC gM gr gK gp gR gF gO gG gQ gP gT gY gL:Nat} (w:Cc) (S0:∀w',av w w'->Cb Ch 16 #[Cy #[Cx ce,Cq cY ah dk,Cx ci,Cq d9 b9 dc],Cy #[Cx gH,Cq gV gJ gX,Cx ij,Cq gA gC gM]] w' fun e w2=>e = Cg (Cx true)/\zf w' w2) (S1:∀w',av w w'->Cb Ch 16 #[Cy #[Cx dl,Cq br be cg,Cx bt,Cq dd bf cN],Cy #[Cx gt,Cq gE gr gK,Cx gN,Cq gz gp gR]] w' fun e w2=>e = Cg (Cx true)/\zf w' w2) (S2:∀w',av w w'->Cb Ch 16 #[Cy #[Cx ec,Cq f7 bg f8,Cx ek,Cq f9 bi dy],Cy #[Cx gI,Cq gB gF gO,Cx gZ,Cq gW gG gQ]] w' fun e w2=>e = Cg (Cx true)/\zf w' w2) (S3:∀w',av w w'->Cb Ch 16 #[Cy #[Cx em,Cq er bh eF,Cx dx,Cq fd bq dP],Cy #[Cx gD,Cq hZ gP gT,Cx h9,Cq ig gY gL]] w' fun e w2=>e = Cg (Cx true)/\zf w' w2) :
  Cb Ch 15 #[Cy #[Cx ce,Cq cY ah dk,Cx ci,Cq d9 b9 dc,Cx dl,Cq br be cg,Cx bt,Cq dd bf cN,Cx ec,Cq f7 bg f8,Cx ek,Cq f9 bi dy,Cx em,Cq er bh eF,Cx dx,Cq fd bq dP],Cy #[Cx gH,Cq gV gJ gX,Cx ij,Cq gA gC gM,Cx gt,Cq gE gr gK,Cx gN,Cq gz gp gR,Cx gI,Cq gB gF gO,Cx gZ,Cq gW gG gQ,Cx gD,Cq hZ gP gT,Cx h9,Cq ig gY gL]] w fun e w'=>e = Cg (Cx true)/\zf w w':=by
 go_enter Tryz.func15,Tryz.ntmps15
 have kk:=av.refl w;go_wp2_with fail
 refine(S0 _ (kk.trans zo)).mono ?_;rintro e w1 ⟨rfl,st⟩;have B:=bA w st;have kp:=kB w st;replace kk:=kk.trans kp;have ot:ai w1 w.heap.size 30 #[Cx ce,Cq cY ah dk,Cx ci,Cq d9 b9 dc,Cx dl,Cq br be cg,Cx bt,Cq dd bf cN,Cx ec,Cq f7 bg f8,Cx ek,Cq f9 bi dy,Cx em,Cq er bh eF,Cx dx,Cq fd bq dP]:=ai.ak st;have ou:ai w1 (w.heap.size+1) 30 #[Cx gH,Cq gV gJ gX,Cx ij,Cq gA gC gM,Cx gt,Cq gE gr gK,Cx gN,Cq gz gp gR,Cx gI,Cq gB gF gO,Cx gZ,Cq gW gG gQ,Cx gD,Cq hZ gP gT,Cx h9,Cq ig gY gL]:=ai.ak st;clear kp;clear st;obtain⟨fl,fV,gh,eW,gd,gn,g8,g9,fY,fW,M,T,bl,X,cx,Z⟩:=ot.dL;have lt:=ot.lt;obtain⟨fX,ft,gg,eM,cy,gk,gj,fm,gi,fZ,E,N,I,Y,J,H⟩:=ou.dL;have lu:=ou.lt;go_wp2_with fail
 refine(S1 _ (kk.trans zo)).mono ?_;rintro e w2 ⟨rfl,st⟩;have sk:=bA w1 st;replace B:=bS B sk;replace ot:=ot.ae sk;replace ou:=ou.ae sk;replace kk:=kk.aI sk;clear st sk fl fV gh eW gd gn g8 g9 fY fW M T bl X cx Z lt fX ft gg eM cy gk gj fm gi fZ E N I Y J H lu;obtain⟨fl,fV,gh,eW,gd,gn,g8,g9,fY,fW,M,T,bl,X,cx,Z⟩:=ot.dL;have lt:=ot.lt;obtain⟨fX,ft,gg,eM,cy,gk,gj,fm,gi,fZ,E,N,I,Y,J,H⟩:=ou.dL;have lu:=ou.lt;go_wp2_with fail
 refine(S2 _ (kk.trans zo)).mono ?_;rintro e w3 ⟨rfl,st⟩;have sk:=bA w2 st;replace B:=bS B sk;replace ot:=ot.ae sk;replace ou:=ou.ae sk;replace kk:=kk.aI sk;clear st sk fl fV gh eW gd gn g8 g9 fY fW M T bl X cx Z lt fX ft gg eM cy gk gj fm gi fZ E N I Y J H lu;obtain⟨fl,fV,gh,eW,gd,gn,g8,g9,fY,fW,M,T,bl,X,cx,Z⟩:=ot.dL;have lt:=ot.lt;obtain⟨fX,ft,gg,eM,cy,gk,gj,fm,gi,fZ,E,N,I,Y,J,H⟩:=ou.dL;have lu:=ou.lt;go_wp2_with fail
 refine(S3 _ (kk.trans zo)).mono ?_;rintro e w4 ⟨rfl,st⟩;have sk:=bA w3 st;replace B:=bS B sk;replace ot:=ot.ae sk;replace ou:=ou.ae sk;replace kk:=kk.aI sk;clear st sk fl fV gh eW gd gn g8 g9 fY fW M T bl X cx Z lt fX ft gg eM cy gk gj fm gi fZ E N I Y J H lu;go_wp2_with fail
 refine Ci (by simp[results,Tryz.results15,go_sem,]; rfl) rfl ?_;exact⟨rfl,zi⟩
theorem VI {o:Option (Nat->Rat)} (w:Cc) (h:cn w va o) (E:cn w vb o):Cb Ch 15 #[va,vb] w fun e w'=>e = Cg (Cx true)/\zf w w':=by
 cases o with
 | none=>
  obtain rfl:va=_:=h;obtain rfl:vb=_:=E;have z:=fun(w':Cc) (k:av w w')=>QP w' (kL w') (kL w') Y9 Y9;exact Jv w z z z z
 | some t=>
  obtain⟨ce,cY,ah,dk,ci,d9,b9,dc,dl,br,be,cg,bt,dd,bf,cN,ec,f7,bg,f8,ek,f9,bi,dy,em,er,bh,eF,dx,fd,bq,dP,rfl,h0,T,h2,Y⟩:=h;obtain⟨gz,eW,cx,ft,gn,gj,gt,fX,fW,g9,cy,eM,gi,g8,M,N,gA,gp,gh,gk,fY,fm,gr,I,bl,gd,H,X,fZ,gg,fV,fl,rfl,g0,g1,J,Z⟩:=E;exact Jv w (fun w' k=>qP (o:=some (t 0)) w' (h0.af k) (g0.af k)) (fun w' k=>qP (o:=some (t 1)) w' (T.af k) (g1.af k)) (fun w' k=>qP (o:=some (t 2)) w' (h2.af k) (J.af k)) (fun w' k=>qP (o:=some (t 3)) w' (Y.af k) (Z.af k))
def Bw (LA LB:Nat->Nat):Nat->Bool
 | 0=>false
 | t+1=>Bw LA LB t||decide ((20:Int)<max (LA t:Int) (LB t:Int))
def Wb (c:Array Cd):Cd->Cd->Array Cd
 | Cy a,Cy b=>#[a.getD 0 (Cx false),a.getD 1 (Cx false),a.getD 2 (Cx false),a.getD 3 (Cx false),Cz Cv 1,Cz Cv 400,b.getD 0 (Cx false),b.getD 1 (Cx false),b.getD 2 (Cx false),b.getD 3 (Cx false),c.getD 0 (Cx false),c.getD 1 (Cx false),c.getD 2 (Cx false),c.getD 3 (Cx false)]
 | _,_=>#[]
theorem X1 (x y:Int) (w:Cc) (Z : -9223372036854775808<=x) (x1:x<=9223372036854775807) (Y : -9223372036854775808<=y) (T:y<=9223372036854775807) (hy:y≠0) :
  Cb Ch 29 #[Cz Cv x,Cz Cv y] w fun e w'=>∃v,e = Cg v/\FR w' v ((x:Rat) / (y:Rat))/\zf w w':=by
 have OF:=fun w'=>Hl x y w' Z x1 Y T hy;generalize (x:Rat) / (y:Rat)=q at *;clear Z x1 Y T hy
 go_enter Tryz.func29,Tryz.ntmps29
 go_wp2_with fail
 refine(OF _).mono ?_;rintro e w1 ⟨eW,rfl,E,st⟩;have B:=bA w st;have or:ai w1 w.heap.size 28 qE:=ai.ak st;clear st;obtain⟨M,J,N,H,fr,lr⟩:=or.s3;obtain⟨cy,bl,fV,fl,fW,fm,ft,eM,rfl⟩:=E.au;have I:=C5 E;clear E;have X:w.heap.size<w1.heap.size:=or.lt;have cx:=B.size;go_wp2_with fail
 refine Ci (by simp[results,Tryz.results29,go_sem,M,J,N,H,fr,lr]; rfl) rfl ?_;exact⟨_,rfl,I.out.af zo,zi⟩
theorem Wc {uc1 uc5:Bool} {uc2 uc6:Option Addr} {uc3 uc4 uc7 uc8:Nat} (w:Cc) :
  Cb Ch 35 #[Cy #[Cx uc1,Cq uc2 uc3 uc4,Cx uc5,Cq uc6 uc7 uc8]] w fun e w'=>∃ua1 ua2 ua3 ua4 ua5 ua6 ua7 ua8 ub1 ub2 ub3 ub4 ub5 ub6 ub7 ub8,e = Cg (Cy #[Cx ua1,Cq ua2 ua3 ua4,Cx ua5,Cq ua6 ua7 ua8,Cz Cv 1,Cz Cv 400,Cx ub1,Cq ub2 ub3 ub4,Cx ub5,Cq ub6 ub7 ub8,Cx uc1,Cq uc2 uc3 uc4,Cx uc5,Cq uc6 uc7 uc8])/\FR w' (Cy #[Cx ua1,Cq ua2 ua3 ua4,Cx ua5,Cq ua6 ua7 ua8]) 0/\FR w' (Cy #[Cx ub1,Cq ub2 ub3 ub4,Cx ub5,Cq ub6 ub7 ub8]) (((1:Int):Rat) / ((10:Int):Rat))/\zf w w':=by
 have OA:∀w',Cb Ch 29 #[Cz Cv 0,Cz Cv 1] w' fun e w2=>∃v,e = Cg v/\FR w2 v 0/\zf w' w2:=fun w'=>by have:=X1 0 1 w' C0 C0 C0 C0 C0; rw[ZP,YC]at this; exact this
 have OB:=fun w'=>X1 1 10 w' C0 C0 C0 C0 C0;generalize ((1:Int):Rat) / ((10:Int):Rat)=q at *
 go_enter Tryz.func35,Tryz.ntmps35
 go_upto_region 1 with fail
 refine aj.ew (fun N0 D v W=>Below w.heap.size w W/\av w W/\N0<=W.heap.size/\ai W w.heap.size 28 #[Cx uc1,Cq uc2 uc3 uc4,Cx uc5,Cq uc6 uc7 uc8]/\((D 4=false->ai W (w.heap.size+1) 45 H')/\(D 4=true->D 0=true/\D 1=true/\ai W (w.heap.size+1) 45 (Wb #[Cx uc1,Cq uc2 uc3 uc4,Cx uc5,Cq uc6 uc7 uc8] (v 0) (v 1))))) [0,1,4] [(0,y_),(1,y_)] [(0,bU (0)),(1,bU (q))] [(4,[(0,some 3),(1,some 4)]),(5,[(0,some 3),(1,some 4)])] [(0,[4]),(1,[4])] (fun N0 fX=>⟨fun v=> ?_,fun D v v' W hv hj=> ?_,fun g9 Q' gh hQ=> ?_⟩)
 . exact⟨zi,zo,Bi fX,zw,⟨fun _=>zw,(fun h=>Bool.noConfusion h)⟩⟩
 .
  obtain⟨j0,jk,jn,ft,fl⟩:=hj;exact⟨j0,jk,jn,ft,⟨fl.1,fun h=>by obtain⟨fZ,fY,hb⟩:=fl.2 h; refine⟨fZ,fY,?_⟩; first | (rw[hv 0 fZ,hv 1 fY]; exact hb) | (rw[<- hv 0 fZ,<- hv 1 fY]; exact hb)⟩⟩
 have eN:=fX.out
 try simp only[World.size_alloc,World.size_setCell,World.size_drew,World.heap_drewN]at eN
 have h9:w.heap.size<N0:=by first | omega | (have h:=ox.lt; omega)
 have gQ:w.heap.size+1<N0:=by first | omega | (have h:=or.lt; omega)
 have iw:w.heap.size<=N0:=by first | omega | (have h:=B.size; omega)
 clear fX eN;refine aj.aB rfl (j9 rfl) rfl (fun D v' W' hc hj hf K hK=> ?_) ?_
 .
  obtain⟨j0,jk,jn,ft,fl⟩:=hj;clear hf;go_step;refine(OA W').mono ?_;rintro e W2 ⟨u,rfl,hu,hs⟩;obtain⟨E,J,I,H,M,N,T,X,rfl⟩:=hu.au;exact hK.out _ W2 (av.ae hs) ⟨Zc j0 hs,jk.aI hs,Uf jn hs,ft.ae hs,⟨fun h=>(fl.1 h).ae hs,fun h=>Bool.noConfusion ((hc.2 4 C0).symm.trans h)⟩⟩ hu ⟨_,_,_,_,_,_,_,_,rfl⟩
 rintro _ ⟨E,J,I,H,M,N,T,X,rfl⟩;refine aj.aD (b:=⟨#[_,_,_,_,_,_,_],_⟩) rfl ?_;refine aj.aB rfl (j9 rfl) rfl (fun D v' W' hc hj hf K hK=> ?_) ?_
 .
  obtain⟨j0,jk,jn,ft,fl⟩:=hj;clear hf;go_step;refine(OB W').mono ?_;rintro e W2 ⟨u,rfl,hu,hs⟩;obtain⟨Y,bl,Z,cx,cy,eW,eM,fm,rfl⟩:=hu.au;exact hK.out _ W2 (av.ae hs) ⟨Zc j0 hs,jk.aI hs,Uf jn hs,ft.ae hs,⟨fun h=>(fl.1 h).ae hs,fun h=>Bool.noConfusion ((hc.2 4 C0).symm.trans h)⟩⟩ hu ⟨_,_,_,_,_,_,_,_,rfl⟩
 rintro _ ⟨Y,bl,Z,cx,cy,eW,eM,fm,rfl⟩;refine aj.aD (b:=⟨#[_,_,_,_,_,_,_],_⟩) rfl ?_;refine aj.aV 5 (fun _ _ _ h=>h.2.2.2.1.r3) ?_;refine aj.aK 6 ?_;refine aj.dE (fun D v' W' hc hj hf K hK=> ?_) (fun _ _=>aj.aD (b:=⟨_,_⟩) rfl ?_)
 .
  obtain⟨j0,jk,jn,ft,fl⟩:=hj;have hb:=fl.1 hc.1;have e2:w.heap.size<=w.heap.size+1:=B_
  have ff:=hb.fr;have fW:=hf (0,some 3) (.head _) rfl;have g8:v' 0 = Cy #[Cx E,Cq J I H,Cx M,Cq N T X]:=fW.2.1;have fV:=hf (1,some 4) (.tail _ (.head _)) rfl;have gi:v' 1 = Cy #[Cx Y,Cq bl Z cx,Cx cy,Cq eW eM fm]:=fV.2.1;obtain⟨gZ,gW,gP,gV,hZ,gY,gO,gR,gX,gT,gM,gL,gN,gK⟩:=hb.dz;go_step;have gB:ai ((((((((((((((W'.setCell ⟨w.heap.size+1,0,none⟩ (Cx E)).setCell ⟨w.heap.size+1,1,none⟩ (Cq J I H)).setCell ⟨w.heap.size+1,2,none⟩ (Cx M)).setCell ⟨w.heap.size+1,3,none⟩ (Cq N T X)).setCell ⟨w.heap.size+1,4,none⟩ (Cz Cv 1)).setCell ⟨w.heap.size+1,5,none⟩ (Cz Cv 400)).setCell ⟨w.heap.size+1,6,none⟩ (Cx Y)).setCell ⟨w.heap.size+1,7,none⟩ (Cq bl Z cx)).setCell ⟨w.heap.size+1,8,none⟩ (Cx cy)).setCell ⟨w.heap.size+1,9,none⟩ (Cq eW eM fm)).setCell ⟨w.heap.size+1,10,none⟩ (Cx uc1)).setCell ⟨w.heap.size+1,11,none⟩ (Cq uc2 uc3 uc4)).setCell ⟨w.heap.size+1,12,none⟩ (Cx uc5)).setCell ⟨w.heap.size+1,13,none⟩ (Cq uc6 uc7 uc8)) (w.heap.size+1) 45 (Wb #[Cx uc1,Cq uc2 uc3 uc4,Cx uc5,Cq uc6 uc7 uc8] (v' 0) (v' 1)):=by rw[g8,gi]; exact(ai.aR (cs':=#[Cx E,Cq J I H,Cx M,Cq N T X,Cz Cv 1,Cz Cv 400,Cx Y,Cq bl Z cx,Cx cy,Cq eW eM fm,Cx uc1,Cq uc2 uc3 uc4,Cx uc5,Cq uc6 uc7 uc8]) (ai.aR (cs':=#[Cx E,Cq J I H,Cx M,Cq N T X,Cz Cv 1,Cz Cv 400,Cx Y,Cq bl Z cx,Cx cy,Cq eW eM fm,Cx uc1,Cq uc2 uc3 uc4,Cx uc5,Cq none 0 0]) (ai.aR (cs':=#[Cx E,Cq J I H,Cx M,Cq N T X,Cz Cv 1,Cz Cv 400,Cx Y,Cq bl Z cx,Cx cy,Cq eW eM fm,Cx uc1,Cq uc2 uc3 uc4,Cx false,Cq none 0 0]) (ai.aR (cs':=#[Cx E,Cq J I H,Cx M,Cq N T X,Cz Cv 1,Cz Cv 400,Cx Y,Cq bl Z cx,Cx cy,Cq eW eM fm,Cx uc1,Cq none 0 0,Cx false,Cq none 0 0]) (ai.aR (cs':=#[Cx E,Cq J I H,Cx M,Cq N T X,Cz Cv 1,Cz Cv 400,Cx Y,Cq bl Z cx,Cx cy,Cq eW eM fm,Cx false,Cq none 0 0,Cx false,Cq none 0 0]) (ai.aR (cs':=#[Cx E,Cq J I H,Cx M,Cq N T X,Cz Cv 1,Cz Cv 400,Cx Y,Cq bl Z cx,Cx cy,Cq none 0 0,Cx false,Cq none 0 0,Cx false,Cq none 0 0]) (ai.aR (cs':=#[Cx E,Cq J I H,Cx M,Cq N T X,Cz Cv 1,Cz Cv 400,Cx Y,Cq bl Z cx,Cx false,Cq none 0 0,Cx false,Cq none 0 0,Cx false,Cq none 0 0]) (ai.aR (cs':=#[Cx E,Cq J I H,Cx M,Cq N T X,Cz Cv 1,Cz Cv 400,Cx Y,Cq none 0 0,Cx false,Cq none 0 0,Cx false,Cq none 0 0,Cx false,Cq none 0 0]) (ai.aR (cs':=#[Cx E,Cq J I H,Cx M,Cq N T X,Cz Cv 1,Cz Cv 400,Cx false,Cq none 0 0,Cx false,Cq none 0 0,Cx false,Cq none 0 0,Cx false,Cq none 0 0]) (ai.aR (cs':=#[Cx E,Cq J I H,Cx M,Cq N T X,Cz Cv 1,Cz Cv 0,Cx false,Cq none 0 0,Cx false,Cq none 0 0,Cx false,Cq none 0 0,Cx false,Cq none 0 0]) (ai.aR (cs':=#[Cx E,Cq J I H,Cx M,Cq N T X,Cz Cv 0,Cz Cv 0,Cx false,Cq none 0 0,Cx false,Cq none 0 0,Cx false,Cq none 0 0,Cx false,Cq none 0 0]) (ai.aR (cs':=#[Cx E,Cq J I H,Cx M,Cq none 0 0,Cz Cv 0,Cz Cv 0,Cx false,Cq none 0 0,Cx false,Cq none 0 0,Cx false,Cq none 0 0,Cx false,Cq none 0 0]) (ai.aR (cs':=#[Cx E,Cq J I H,Cx false,Cq none 0 0,Cz Cv 0,Cz Cv 0,Cx false,Cq none 0 0,Cx false,Cq none 0 0,Cx false,Cq none 0 0,Cx false,Cq none 0 0]) (ai.aR (cs':=#[Cx E,Cq none 0 0,Cx false,Cq none 0 0,Cz Cv 0,Cz Cv 0,Cx false,Cq none 0 0,Cx false,Cq none 0 0,Cx false,Cq none 0 0,Cx false,Cq none 0 0]) hb (i:=0) rfl) (i:=1) rfl) (i:=2) rfl) (i:=3) rfl) (i:=4) rfl) (i:=5) rfl) (i:=6) rfl) (i:=7) rfl) (i:=8) rfl) (i:=9) rfl) (i:=10) rfl) (i:=11) rfl) (i:=12) rfl) (i:=13) rfl)
  exact hK.out undef _ (dW.k hb) ⟨(dW.b j0),jk.trans (dW.k hb),dW.n jn,(dW.f ft),⟨fun h=>Bool.noConfusion h,fun _=>⟨fW.1,fV.1,gB⟩⟩⟩ trivial trivial
 refine aj.aH (fun Dn v' w1 hd hj hf=> ?_);obtain⟨B,jk,jn,ox,fl⟩:=hj;obtain⟨-,-,or⟩:=fl.2 (hd 4 (Ca rfl));have gj:v' 0 = Cy #[Cx E,Cq J I H,Cx M,Cq N T X]:=(hf (0,some 3) (.head _) rfl).2.1;have gk:v' 1 = Cy #[Cx Y,Cq bl Z cx,Cx cy,Cq eW eM fm]:=(hf (1,some 4) (.tail _ (.head _)) rfl).2.1;rw[gj,gk]at or;replace or:ai _ _ _ #[Cx E,Cq J I H,Cx M,Cq N T X,Cz Cv 1,Cz Cv 400,Cx Y,Cq bl Z cx,Cx cy,Cq eW eM fm,Cx uc1,Cq uc2 uc3 uc4,Cx uc5,Cq uc6 uc7 uc8]:=or;clear fl gj gk;have gI:Hid (FR w1 (Cy #[Cx E,Cq J I H,Cx M,Cq N T X]) (0)):=(hf (0,some 3) (.head _) rfl).2.2;have gt:Hid (FR w1 (Cy #[Cx Y,Cq bl Z cx,Cx cy,Cq eW eM fm]) (q)):=(hf (1,some 4) (.tail _ (.head _)) rfl).2.2;clear hd hf jk;refine hQ _ _ ?_;clear hQ gh Q' g9;have lx:=ox.lt;obtain⟨gJ,gE,gH,gA,gF,gr,gD,gC,gG,gz,gg,gn,gp,gd⟩:=or.dz;have lr:=or.lt;go_wp2_with fail
 refine Ci (by simp[results,Tryz.results35,go_sem,lx,gJ,gE,gH,gA,gF,gr,gD,gC,gG,gz,gg,gn,gp,gd,lr]; rfl) rfl ?_;exact⟨_,_,_,_,_,_,_,_,_,_,_,_,_,_,_,_,rfl,gI.out.af zo,gt.out.af zo,zi⟩
theorem cn.ae {o:Option (Nat->Rat)} (h:cn w v o) (s:zf w w'):cn w' v o:=h.af (av.ae s)
theorem FO.ae (h:FO w v o) (s:zf w w'):FO w' v o:=h.af (av.ae s)
theorem FR.lens (h:FR w (Cy #[Cx a1,Cq a2 p a4,Cx a5,Cq a6 q a8]) r):p=(zn (zh r.num)).length/\q=(zn (zh (r.den:Int))).length:=by
 obtain⟨x2,x3,N,T,X,Z,e,I,J,-⟩:=h.cj;simp only[Value.agg.injEq,Array.mk.injEq,List.cons.injEq,and_true,Value.slice.injEq,Value.bool.injEq]at e;obtain⟨Y,⟨rfl,rfl,rfl⟩,M,rfl,rfl,rfl⟩:=e;obtain⟨_,_,E,_⟩:=I.parts;obtain⟨_,_,H,_⟩:=J.parts;simp only[Value.agg.injEq,Array.mk.injEq,List.cons.injEq,and_true,Value.slice.injEq,Value.bool.injEq]at E H;exact⟨E.2.2.1,H.2.2.1⟩
theorem Zf (x:Int):0<=zh x:=by unfold zh; omega
theorem FR.aS (h:FR w (Cy #[Cx a1,Cq a2 p a4,Cx a5,Cq a6 q a8]) r) (most:Nat) (H:zh r.num<bp most) (E:zh (r.den:Int)<bp most):aS most (some r) p q=true:=by
 obtain⟨rfl,rfl⟩:=h.lens;unfold Go.Proofs.YtffmbepfbienaaaGreat.aS;rw[C9 ((yV (Zf _) most).2 H),C9 ((yV (Zf _) most).2 E)];rfl
theorem FR.aE (h:FR w (Cy #[Cx a1,Cq a2 p a4,Cx a5,Cq a6 q a8]) r):∀s,some r=some s->zh s.num<=bp p/\(s.den:Int)<=bp q:=by
 intro s e
 injection e with e
 subst e;obtain⟨rfl,rfl⟩:=h.lens;have I:=(yV (Zf r.num) _).1 (Cl _);have E:=(yV (Zf (r.den:Int)) _).1 (Cl _);have H:zh (r.den:Int)=(r.den:Int):=by unfold zh; omega
 rw[H]at E|-;exact⟨Int.le_of_lt I,Int.le_of_lt E⟩
theorem Bx {T:Nat->Rat} (h0:FR w (Cy #[Cx ce,Cq cY ah dk,Cx ci,Cq d9 b9 dc]) (T 0)) (I:FR w (Cy #[Cx dl,Cq br be cg,Cx bt,Cq dd bf cN]) (T 1)) (H:FR w (Cy #[Cx ec,Cq f7 bg f8,Cx ek,Cq f9 bi dy]) (T 2)) (E:FR w (Cy #[Cx em,Cq er bh eF,Cx dx,Cq fd bq dP]) (T 3)):cn w (Cy #[Cx ce,Cq cY ah dk,Cx ci,Cq d9 b9 dc,Cx dl,Cq br be cg,Cx bt,Cq dd bf cN,Cx ec,Cq f7 bg f8,Cx ek,Cq f9 bi dy,Cx em,Cq er bh eF,Cx dx,Cq fd bq dP]) (some T):=
 ⟨_,_,_,_,_,_,_,_,_,_,_,_,_,_,_,_,_,_,_,_,_,_,_,_,_,_,_,_,_,_,_,_,rfl,h0,I,H,E⟩
theorem GX {y z:Int} (h:ai w g t #[Cz Cv x,Cz Cv y,Cz Cv z]):aC w (Cq (some ⟨g,0,none⟩) 3 3) [x,y,z]:=by
 refine⟨_,_,rfl,Cl _,fun _=>⟨g,0,rfl,h.lt,fun k H=> ?_⟩⟩;have E:k<3:=H
 rcases(show k=0\/k=1\/k=2 by omega)with rfl | rfl | rfl
 . exact h.c 0 rfl
 . exact h.c 1 rfl
 . exact h.c 2 rfl
def ZY:Nat->Rat:=kZ (0,0) (1,0) (1,1) (1,3)
theorem Zg:ZY 0=0/\ZY 1=2/\ZY 2=1/\ZY 3=1:=by decide +kernel
theorem GY:U9 (0,0) (1,0) (1,1) (1,3)=(0,some ZY):=by
 unfold U9;rw[C7 C0,C8 C0];rfl
def ZZ (i:Nat):Option Rat:=match i with | 0=>some 0 | 1=>some (1 / 10) | _=>some 1
theorem VJ:zC 1 400 10=1 / 10:=by decide +kernel
theorem WS:xB (yU (1 / 10) (1 / 10)) (1 / 10) [3,-1,9] XM 3=((8281:Int):Rat) / ((1000:Int):Rat):=by decide +kernel
theorem Wd:((1:Int):Rat) / ((10:Int):Rat)=1 / 10:=by decide +kernel
theorem QZ {ua1 ua5 ub1 ub5 uc1 uc5:Bool} {ua2 ua6 ub2 ub6 uc2 uc6:Option Addr} {ua3 ua4 ua7 ua8 ub3 ub4 ub7 ub8 uc3 uc4 uc7 uc8:Nat} {g:Nat} {t:Ce} (w:Cc) (h0:FR w (Cy #[Cx ua1,Cq ua2 ua3 ua4,Cx ua5,Cq ua6 ua7 ua8]) 0) (E:FR w (Cy #[Cx ub1,Cq ub2 ub3 ub4,Cx ub5,Cq ub6 ub7 ub8]) (((1:Int):Rat) / ((10:Int):Rat))) (H:FR w (Cy #[Cx uc1,Cq uc2 uc3 uc4,Cx uc5,Cq uc6 uc7 uc8]) 1) (J:ai w g t #[Cz Cv 3,Cz Cv (-1),Cz Cv 9]) :
  Cb Ch 19 #[Cy #[Cx ua1,Cq ua2 ua3 ua4,Cx ua5,Cq ua6 ua7 ua8,Cz Cv 1,Cz Cv 400,Cx ub1,Cq ub2 ub3 ub4,Cx ub5,Cq ub6 ub7 ub8,Cx uc1,Cq uc2 uc3 uc4,Cx uc5,Cq uc6 uc7 uc8],Cq (some ⟨g,0,none⟩) 3 3,Cz Cv 10] w fun e w'=>∃v,e = Cg (Ck #[v,Cz Cv 0])/\FR w' v (((8281:Int):Rat) / ((1000:Int):Rat))/\zf w w':=by
 rw[Wd]at E
 have a1:ua1=false:=by
  obtain⟨x2,x3,Z,T,X,Y,e,-,-,-⟩:=h0.cj;simp only[Value.agg.injEq,Array.mk.injEq,List.cons.injEq,and_true,Value.slice.injEq,Value.bool.injEq]at e;rw[e.1]; decide
 subst a1
 have fw:ve ZZ (ya ua3 ub3 uc3 uc3) (ya ua7 ub7 uc7 uc7) 3:=fun i M=>by
  rcases(show i=0\/i=1\/i=2 by omega)with rfl | rfl | rfl
  . exact h0.aE
  . exact E.aE
  . exact H.aE
 have rk:yx ZZ (ya ua3 ub3 uc3 uc3) (ya ua7 ub7 uc7 uc7) 1 400 false=true:=by
  rw[zX];refine⟨?_,by decide,rfl,by decide +kernel,by decide +kernel,by decide +kernel⟩;rw[VD,show aS 2 (ZZ 0) (ya ua3 ub3 uc3 uc3 0) (ya ua7 ub7 uc7 uc7 0)=true from h0.aS 2 (by decide +kernel) (by decide +kernel),show aS 2 (ZZ 1) (ya ua3 ub3 uc3 uc3 1) (ya ua7 ub7 uc7 uc7 1)=true from E.aS 2 (by decide +kernel) (by decide +kernel),show aS 2 (ZZ 2) (ya ua3 ub3 uc3 uc3 2) (ya ua7 ub7 uc7 uc7 2)=true from H.aS 2 (by decide +kernel) (by decide +kernel)];rfl
 have:=VH (R:=1) (A:=400) (n:=10) (O:=ZZ) w h0 E H fw (GX J);rw[rk,show Xe [3,-1,9] 10 [(3:Int),-1,9].length=true by decide,VJ,C9 (show (1 / 10:Rat)<1 by decide +kernel)]at this;rw[show xI true [(3:Int),-1,9].length true 10 true=0 by decide,show (ZZ 1).getD 0=1 / 10 from rfl]at this;refine this.mono ?_;rintro e N ⟨v,rfl,hv,I⟩;refine⟨v,rfl,?_,I⟩;rw[<- WS];exact hv
theorem VK (w:Cc):Cb Ch 17 #[] w fun e w'=>e = Cg (Cx true)/\zf w w':=by
 have PO:∀w',Cb Ch 11 #[Cy #[Cz Cv 0,Cz Cv 0],Cy #[Cz Cv 1,Cz Cv 0],Cy #[Cz Cv 1,Cz Cv 1],Cy #[Cz Cv 1,Cz Cv 3]] w' fun e w2=>∃v,e = Cg (Ck #[v,Cz Cv 0])/\cn w2 v (some ZY)/\zf w' w2:=fun w'=>by
  have:=H8 0 0 1 0 1 1 1 3 w' C0 C0 C0 C0;rw[GY]at this;exact this
 have L1:∀ (x:Int) (r:Rat),-9223372036854775808<=x->x<=9223372036854775807->(x:Rat)=r->∀w',Cb Ch 29 #[Cz Cv x,Cz Cv 1] w' fun e w2=>∃v,e = Cg v/\FR w2 v r/\zf w' w2:=fun x r h0 h1 e w'=>by have:=X1 x 1 w' h0 h1 C0 C0 C0; rw[ZP,e]at this; exact this
 have Z0:=L1 0 (ZY 0) C0 C0 (by rw[Zg.1]; rfl);have Z1:=L1 2 (ZY 1) C0 C0 (by rw[Zg.2.1]; rfl);have Z2:=L1 1 (ZY 2) C0 C0 (by rw[Zg.2.2.1]; rfl);have Z3:=L1 1 (ZY 3) C0 C0 (by rw[Zg.2.2.2]; rfl);have Z5:=L1 1 1 C0 C0 rfl;have Z4:=fun w'=>X1 8281 1000 w' C0 C0 C0 C0 C0;have OQ:= @QZ;generalize ((8281:Int):Rat) / ((1000:Int):Rat)=q at *;clear L1;have RU:= @Wc;generalize ((1:Int):Rat) / ((10:Int):Rat)=tn at *;generalize ZY=T at *
 go_enter Tryz.func17,Tryz.ntmps17
 go_wp2_with fail
 refine(PO _).mono ?_;rintro e w1 ⟨lH,rfl,cx,st⟩;have B:=bA w st;clear st;obtain⟨g8,gE,gA,gk,gC,gp,gB,gg,fY,ft,fV,fW,Y,gi,fl,gd,Z,fZ,fm,eM,gn,eW,gr,gz,gG,gh,g9,bl,X,gt,fX,gj,rfl⟩:=cn.au cx;have H:=C5 cx;clear cx;have lZ:=B.size;go_wp2_with fail
 refine(Z5 _).mono ?_;rintro e w2 ⟨mn,rfl,gD,st⟩;have sk:=bA w1 st;replace B:=bS B sk;have I:ai w2 w1.heap.size 30 #[Cx g8,Cq gE gA gk,Cx gC,Cq gp gB gg,Cx fY,Cq ft fV fW,Cx Y,Cq gi fl gd,Cx Z,Cq fZ fm eM,Cx gn,Cq eW gr gz,Cx gG,Cq gh g9 bl,Cx X,Cq gt fX gj]:=ai.ak st;replace H:=C5 (H.out.ae sk);clear st sk;obtain⟨lQ,lP,lw,lJ,mh,lE,lY,m9,rfl⟩:=gD.au;have J:=C5 gD;clear gD;go_wp2_with fail
 refine(RU _).mono ?_;rintro e w3 ⟨lW,lI,lX,ml,lM,lK,lF,lG,mj,mp,lN,lO,m7,me,ma,mg,rfl,gJ,gI,st⟩;have sk:=bA w2 st;replace B:=bS B sk;replace I:=I.ae sk;replace H:=C5 (H.out.ae sk);replace J:=C5 (J.out.ae sk);clear st sk;have gH:=C5 gJ;clear gJ;have cy:=C5 gI;clear gI;have kc:w1.heap.size<w3.heap.size:=I.lt;have mb:=B.size;go_wp2_with fail
 refine(OQ _ (gH.out.af zo) (cy.out.af zo) (J.out.af zo) zw).mono ?_;rintro e w4 ⟨m8,rfl,gF,st⟩;have sk:=bA w3 st;replace B:=bS B sk;replace I:=I.ae sk;replace H:=C5 (H.out.ae sk);replace J:=C5 (J.out.ae sk);replace gH:=C5 (gH.out.ae sk);replace cy:=C5 (cy.out.ae sk);clear st sk;obtain⟨gV,iD,iT,iZ,ip,iO,k7,iv,it,iB,gL,gQ,gM,gK,gN,gO⟩:=I.dL;have kw:=I.lt;obtain⟨lf,l9,k8,l3,l6,ks,ko,kE,rfl⟩:=gF.au;have gP:=C5 gF;clear gF;have l8:w1.heap.size<w4.heap.size:=I.lt;have mf:=B.size;go_wp2_with fail
 go_upto_region 3 with fail
 refine aj.dj w w4 [.o w1.heap.size 30 #[Cx g8,Cq gE gA gk,Cx gC,Cq gp gB gg,Cx fY,Cq ft fV fW,Cx Y,Cq gi fl gd,Cx Z,Cq fZ fm eM,Cx gn,Cq eW gr gz,Cx gG,Cq gh g9 bl,Cx X,Cq gt fX gj],.o w4.heap.size 28 #[Cx lf,Cq l9 k8 l3,Cx l6,Cq ks ko kE]] [4,5,6,7,9,17,18] [(4,y_),(5,y_),(6,y_),(7,y_),(9,fun z_=>z_ = Cx true),(17,y_),(18,fun z_=>z_ = Cx true)] [(4,bU ((T 0))),(5,bU ((T 1))),(6,bU ((T 2))),(7,bU ((T 3))),(17,bU (q))] [(9,[(4,some 24),(5,some 25),(6,some 26),(7,some 27)]),(18,[(17,some 37)]),(21,[(4,some 24),(5,some 25),(6,some 26),(7,some 27),(9,some 29),(17,some 37),(18,some 38)])] [] (by simp only[aX]; exact⟨zi,zo,zw,zw,trivial⟩) (fun N0 ka hZ Q' E hQ=> ?_);clear gV iD iT iZ ip iO k7 iv it iB gL gQ gM gK gN gO kw;clear ka
 repeat refine aj.aK _ ?_
 refine aj.fh E 23 (fun _ _ _ h=>h.e.1.dL) ?_;refine aj.sC E (fun D v' N _ _=>Z0 N) ?_;rintro _ ⟨gW,iX,gZ,gT,jd,iF,iA,iP,rfl⟩;refine aj.dR rfl ?_;refine aj.sC E (fun D v' N _ _=>Z1 N) ?_;rintro _ ⟨iy,iV,ja,ir,ig,gX,iH,iS,rfl⟩;refine aj.dR rfl ?_;refine aj.sC E (fun D v' N _ _=>Z2 N) ?_;rintro _ ⟨ik,iM,k6,ij,iJ,iU,iN,iI,rfl⟩;refine aj.dR rfl ?_;refine aj.sC E (fun D v' N _ _=>Z3 N) ?_;rintro _ ⟨iY,iq,iR,jb,iG,iz,iW,iK,rfl⟩;refine aj.dR rfl ?_;refine aj.cJ E 28 ?_;refine aj.sV E (fun D v' N h M=>VI N (H.out.af h.k) (Bx (M (4,some 24) (.head _) rfl).2.2 (M (5,some 25) (.tail _ (.head _)) rfl).2.2 (M (6,some 26) (.tail _ (.tail _ (.head _))) rfl).2.2 (M (7,some 27) (.tail _ (.tail _ (.tail _ (.head _)))) rfl).2.2)) ?_;refine aj.dR rfl ?_
 repeat refine aj.aK _ ?_
 refine aj.cJ E 32 ?_;refine aj.cJ E 33 ?_
 repeat refine aj.aK _ ?_
 refine aj.fh E 36 (fun _ _ _ h=>h.e.2.1.r3) ?_;refine aj.sC E (fun D v' N _ _=>Z4 N) ?_;rintro _ ⟨gY,iC,iE,iu,gR,iQ,iL,h9,rfl⟩;refine aj.dR rfl ?_;refine aj.sV E (fun D v' N h M=>qP (o:=some q) N (gP.out.af h.k) (M (17,some 37) (.head _) rfl).2.2) ?_;refine aj.dR rfl ?_
 repeat refine aj.aK _ ?_
 refine aj.sE (fun _ v' w5 B jk hl _ _ M=> ?_);simp only[qB,qF]at hl;obtain⟨I,lC,-⟩:=hl;have lg:Hid (FR w5 (Cy #[Cx gW,Cq iX gZ gT,Cx jd,Cq iF iA iP]) ((T 0))):=(M (4,some 24) (.head _) rfl).2.2;have ln:Hid (FR w5 (Cy #[Cx iy,Cq iV ja ir,Cx ig,Cq gX iH iS]) ((T 1))):=(M (5,some 25) (.tail _ (.head _)) rfl).2.2;have lj:Hid (FR w5 (Cy #[Cx ik,Cq iM k6 ij,Cx iJ,Cq iU iN iI]) ((T 2))):=(M (6,some 26) (.tail _ (.tail _ (.head _))) rfl).2.2;have lk:Hid (FR w5 (Cy #[Cx iY,Cq iq iR jb,Cx iG,Cq iz iW iK]) ((T 3))):=(M (7,some 27) (.tail _ (.tail _ (.tail _ (.head _)))) rfl).2.2;have lh:Hid (FR w5 (Cy #[Cx gY,Cq iC iE iu,Cx gR,Cq iQ iL h9]) (q)):=(M (17,some 37) (.tail _ (.tail _ (.tail _ (.tail _ (.tail _ (.head _)))))) rfl).2.2;replace H:=C5 (H.out.af jk);replace J:=C5 (J.out.af jk);replace gH:=C5 (gH.out.af jk);replace cy:=C5 (cy.out.af jk);replace gP:=C5 (gP.out.af jk);clear M jk;refine hQ _ _ ?_;clear hQ E Q' hZ;go_wp2_with fail
 refine Ci (by simp[results,Tryz.results17,go_sem,]; rfl) rfl ?_;exact⟨rfl,zi⟩
theorem UJ (I:l.length=n) (ht:fe.toList.take n=ints l) {k:Nat} (E:k<n):fe[k]? = some (Cz Cv (l.getD k 0)):=by
 subst I;have H:(fe.toList.take l.length)[k]? = (ints l)[k]? :=by rw[ht]
 rw[List.getElem?_take,C7 E]at H;rw[<- Array.getElem?_toList,H];unfold ints;rw[List.getElem?_map,List.getD_eq_getElem?_getD,List.getElem?_eq_getElem E];rfl
theorem X2 {b:Nat} (E:ai w b t fe) (H:l.length=n) (hc:n<=cap) (ht:fe.toList.take n=ints l):aC w (Cq (some ⟨b,0,none⟩) n cap) l:=by
 subst H;refine⟨_,cap,rfl,hc,fun _=>⟨b,0,rfl,E.lt,fun k I=> ?_⟩⟩;rw[Nat.zero_add,E.cell k,UJ rfl ht I]
def GZ (o0 o1 o2 E:Int) (i:Nat):Bool:=((i:Int)==o0)||((i:Int)==o1)||((i:Int)==o2)||((i:Int)==E)
def wo (l:List Int) (out:Nat->Bool):Nat->List Int
 | 0=> []
 | t+1=>if out t then wo l out t else wo l out t ++ [l.getD t 0]
theorem xm {l:PL} (h:zQ l=0) (k:Nat) (E:k<l.length):qh (pt l k):=by
 have:=Y4 h k E;exact this
theorem xS {l:PL} (h:zQ l=0):l.length<=200:=by
 unfold zQ at h
 rcases Cm 200 l.length with g | g
 . rw[C7 g]at h; cases h
 . exact g
theorem WT {t:Nat->Rat} {p:Int×Int} (ht:∀i,i<4->sz (t i) 16) (h:qh p):sz (Yw t p) 60/\sz (Yx t p) 60:=by
 have E:sz (p.1:Rat) 2:=yd ⟨h.1,h.2.1⟩;have H:sz (p.2:Rat) 2:=yd ⟨h.2.2.1,h.2.2.2⟩;refine⟨?_,?_⟩
 .
  unfold Yw;exact(((((ht 0 B_).mul E).sub ((ht 1 B_).mul H)).add (ht 2 B_)).mono B_)
 .
  unfold Yx;exact(((((ht 1 B_).mul E).add ((ht 0 B_).mul H)).add (ht 3 B_)).mono B_)
theorem Jw {x:Rat} {k:Nat} (H:sz x k) (J:sz y k) (E:sz a9 2) (I:zQ m=0):∀n,n<=m.length->sz (qY x y a9 m n).2 (k+3)
 | 0,_=>E.mono B_
 | n+1,h=>by
  unfold qY
  split
  . exact XQ H J (xm I n B_)
  . exact Jw H J E I n B_
theorem Kc {x:Rat} {c:Int} (hc:yJ (xj x y (pt m n)) (qY x y a9 m n).2=c) :
  (c<0->qY x y a9 m (n+1)=((n:Int),xj x y (pt m n)))/\(c=0->(qY x y a9 m n).1<0->qY x y a9 m (n+1)=((n:Int),xj x y (pt m n)))/\(¬c<0->¬(c=0/\(qY x y a9 m n).1<0)->qY x y a9 m (n+1)=qY x y a9 m n):=by
 subst hc;refine⟨fun h=>C7 (.inl (bH.1 h)),fun h g=>C7 (.inr ⟨Zb.1 h,g⟩),fun h g=>C8 ?_⟩;rintro (e | ⟨e,e2⟩)
 . exact h (bH.2 e)
 . exact g ⟨Zb.2 e,e2⟩
theorem VL {xs:List Int} (H:i<fe.size) (E:xs.length=i) (ht:fe.toList.take i=ints xs) (x:Int):(fe.setIfInBounds i (Cz Cv x)).toList.take (i+1)=ints (xs ++ [x]):=by
 rw[Array.toList_setIfInBounds,List.take_set,List.take_succ_eq_append_getElem (by simpa using H),ht,YA,List.set_append];have e:(ints xs).length=i:=by unfold ints; rw[List.length_map,E]
 rw[C8 B_,e,Nat.sub_self];rfl
theorem UK:(Tryz.prog.info? 3).map (fun i=>(i.zero,i.size,i.bytes))=some (some (Cz Cv 0),1,8):=by kernel_rfl
theorem YD (n:Nat) (h:n<=1000000000) (w:Cc):(Instr.makeSlice 46 (Cz Cv (n:Int)) (Cz Cv (n:Int))).run Ch w = .ok (Cq (some ⟨w.heap.size,0,none⟩) n n) (w.alloc (.cells (madeCells #[Cz Cv 0] n) 3)):=
 run_make_row' (P:=Ch) 46 3 (Cz Cv 0) 8 Tryz.underlying46 UK rfl Cv Cv n B_ B_ w
theorem Y_ {cs:Array Cd} (h:zL cs=true) (i:Nat) (x:Int):zL (cs.setIfInBounds i (Cz Cv x))=true:=by
 unfold zL at h|-;rw[Array.toList_setIfInBounds];rw[List.all_eq_true]at h|-;intro v hv
 rcases List.mem_or_eq_of_mem_set hv with g | g
 . exact h v g
 . rw[g]
theorem VM (n:Nat):zL (madeCells #[Cz Cv 0] n)=true:=by
 unfold zL;rw[List.all_eq_true];intro v hv;unfold madeCells at hv;rw[Array.toList_map,List.mem_map]at hv;obtain⟨a,-,rfl⟩:=hv;rw[show (#[Value.int Cv 0]:Array Cd).size=1 from rfl,Nat.mod_one];rfl
theorem UL {P:Program} {ops:Array Oper} {Q:Exit->Act->Cc->Prop} {rest:List Oper} {a:Act} {W:Cc} (J:Cc->Prop) (H:J W) (h:∀E,J E->wpList P ops Q rest a E):wpList P ops Q rest a W:=h W H
theorem VN {t:Nat->Rat} {l:PL} (a9:Int) (w:Cc) (hc:ai w gc tc #[Cz Cv 0]) (h0:FR w (Cy #[Cx ce,Cq cY ah dk,Cx ci,Cq d9 b9 dc]) (t 0)) (h1:FR w (Cy #[Cx dl,Cq br be cg,Cx bt,Cq dd bf cN]) (t 1)) (h2:FR w (Cy #[Cx ec,Cq f7 bg f8,Cx ek,Cq f9 bi dy]) (t 2)) (h3:FR w (Cy #[Cx em,Cq er bh eF,Cx dx,Cq fd bq dP]) (t 3)) (ht:∀i,i<4->sz (t i) 16) (hl:bJ w vl l) (hm:bJ w vm m) (cl:zQ l=0) (cm:zQ m=0) (r0:1<=a9) (r1:a9<=65536) :
  Cb Ch 61 #[Cj (some ⟨gc,0,none⟩),Cy #[Cx ce,Cq cY ah dk,Cx ci,Cq d9 b9 dc,Cx dl,Cq br be cg,Cx bt,Cq dd bf cN,Cx ec,Cq f7 bg f8,Cx ek,Cq f9 bi dy,Cx em,Cq er bh eF,Cx dx,Cq fd bq dP],vl,vm,Cz Cv a9] w fun e w'=>∃u,e = Cg u/\aC w' u (yC t (a9:Rat) l m l.length)/\zf w w':=by
 have KC:∀w',zf w w'->ai w' gc tc #[Cz Cv 0]:=fun w' s=>hc.ae s
 have AP:∀i,i<l.length->∀w',zf w w'->Cb Ch 42 #[Cj (some ⟨gc,0,none⟩),Cy #[Cx ce,Cq cY ah dk,Cx ci,Cq d9 b9 dc,Cx dl,Cq br be cg,Cx bt,Cq dd bf cN,Cx ec,Cq f7 bg f8,Cx ek,Cq f9 bi dy,Cx em,Cq er bh eF,Cx dx,Cq fd bq dP],Cy #[Cz Cv (pt l i).1,Cz Cv (pt l i).2]] w' fun e w2=>∃u v,e = Cg (Ck #[u,v])/\FR w2 u (Yw t (pt l i))/\FR w2 v (Yx t (pt l i))/\zf w' w2:=fun i hi w' s=>by
  have ok:=xm cl i hi;have k:=av.ae s;exact QQ (pt l i).1 (pt l i).2 w' (KC w' s) (h0.af k) (h1.af k) (h2.af k) (h3.af k) ((ht 0 B_).mono B_) ((ht 1 B_).mono B_) ((ht 2 B_).mono B_) ((ht 3 B_).mono B_) ⟨ok.1,ok.2.1⟩ ⟨ok.2.2.1,ok.2.2.2⟩
 have RA:∀w',zf w w'->Cb Ch 66 #[Cj (some ⟨gc,0,none⟩),Cz Cv a9] w' fun e w2=>∃v,e = Cg v/\FR w2 v (a9:Rat)/\zf w' w2:=fun w' s=>Vg a9 w' (KC w' s) B_ B_;have SA:=fun i (hi:i<l.length)=>WT ht (xm cl i hi);have zr:sz (a9:Rat) 2:=yd ⟨by omega,by omega⟩;have DI:∀i,i<l.length->∀k,k<m.length->∀ (w':Cc) (u v:Cd),zf w w'->FR w' u (Yw t (pt l i))->FR w' v (Yx t (pt l i))->Cb Ch 101 #[Cj (some ⟨gc,0,none⟩),u,v,Cy #[Cz Cv (pt m k).1,Cz Cv (pt m k).2]] w' fun e w2=>∃d,e = Cg d/\FR w2 d (xj (Yw t (pt l i)) (Yx t (pt l i)) (pt m k))/\zf w' w2:=fun i hi k hk w' u v s hu hv=>WJ (pt m k).1 (pt m k).2 w' (KC w' s) hu hv ((SA i hi).1.mono B_) ((SA i hi).2.mono B_) (xm cm k hk);have CM:∀i,i<l.length->∀k,k<m.length->∀ (w':Cc) (u v:Cd),zf w w'->FR w' u (xj (Yw t (pt l i)) (Yx t (pt l i)) (pt m k))->FR w' v (qY (Yw t (pt l i)) (Yx t (pt l i)) (a9:Rat) m k).2->Cb Ch 67 #[Cj (some ⟨gc,0,none⟩),u,v] w' fun e w2=>e = Cg (Cz Cv (yJ (xj (Yw t (pt l i)) (Yx t (pt l i)) (pt m k)) (qY (Yw t (pt l i)) (Yx t (pt l i)) (a9:Rat) m k).2))/\zf w' w2:=fun i hi k hk w' u v s hu hv=>xl w' (KC w' s) hu hv (XQ (SA i hi).1 (SA i hi).2 (xm cm k hk)) (Jw (SA i hi).1 (SA i hi).2 zr cm k B_) B_;have SP:=fun i k c (h:yJ (xj (Yw t (pt l i)) (Yx t (pt l i)) (pt m k)) (qY (Yw t (pt l i)) (Yx t (pt l i)) (a9:Rat) m k).2=c)=>Kc h;have P0:∀i,qY (Yw t (pt l i)) (Yx t (pt l i)) (a9:Rat) m 0=(-1,(a9:Rat)):=fun i=>rfl;have PS:∀i,yC t (a9:Rat) l m (i+1)=yC t (a9:Rat) l m i ++ [(qY (Yw t (pt l i)) (Yx t (pt l i)) (a9:Rat) m m.length).1]:=fun i=>rfl;have gE:=jo t (a9:Rat) l m;have PZ:yC t (a9:Rat) l m 0 = []:=rfl;have kc:=xS cl;have iW:=xS cm;obtain⟨PA,it⟩:∃f,yC t (a9:Rat) l m=f:=⟨_,rfl⟩;obtain⟨XX,iN⟩:∃f:Nat->Rat,∀i,Yw t (pt l i)=f i:=⟨_,fun _=>rfl⟩;obtain⟨YY,ip⟩:∃f:Nat->Rat,∀i,Yx t (pt l i)=f i:=⟨_,fun _=>rfl⟩;simp only[iN,ip,it]at AP DI CM SP P0 PS gE PZ|-;obtain⟨DD,ik⟩:∃f:Nat->Nat->Rat,∀i k,xj (XX i) (YY i) (pt m k)=f i k:=⟨_,fun _ _=>rfl⟩;obtain⟨PP,gX⟩:∃f:Nat->Nat->Int×Rat,∀i k,qY (XX i) (YY i) (a9:Rat) m k=f i k:=⟨_,fun _ _=>rfl⟩;simp only[ik,gX]at DI CM SP P0 PS;obtain⟨la,lc,rfl⟩:=hl.au;obtain⟨ma,mc,rfl⟩:=hm.au;have gN:=C5 hl;have iC:=C5 hm;obtain⟨N,hN⟩:∃n,l.length=n:=⟨_,rfl⟩;obtain⟨M,hM⟩:∃n,m.length=n:=⟨_,rfl⟩;have HN:=C5 hN;have HM:=C5 hM;rw[hN]at AP DI CM gN kc|-;rw[hM]at DI CM PS iC iW|-;have lQ:=YD N B_;clear hc h0 h1 h2 h3 ht hl hm cl cm r0 r1 SA zr it iN ip ik gX hN hM
 go_enter Tryz.func61,Tryz.ntmps61
 have Y:=av.refl w;go_wp2_with fail
 go_loopw [29] (fun sl0 wr=>∃ (i:Nat) (CO:Array Cd),i<=N/\sl0 = Cz Cv i/\CO.size=N/\CO.toList.take i=ints (PA i)/\zL CO=true/\ai wr (w.heap.size+1) 3 CO/\ai wr w.heap.size 30 #[Cx ce,Cq cY ah dk,Cx ci,Cq d9 b9 dc,Cx dl,Cq br be cg,Cx bt,Cq dd bf cN,Cx ec,Cq f7 bg f8,Cx ek,Cq f9 bi dy,Cx em,Cq er bh eF,Cx dx,Cq fd bq dP]/\Below w.heap.size w wr/\av w wr) (fun sl0 _=>N-(intOf sl0).toNat)
 case atStart=>exact⟨0,_,by omega,rfl,size_madeCells _ _,(by rw[PZ]; rfl),VM _,zw,zw,zi,zo⟩
 case round=>
  rename Cc=>wo
  try clear B
  try clear Y
  obtain⟨i,CO,hi,rfl,hs,gB,gh,H,os,B,Y⟩:=hrel;obtain⟨gG,gK,iq,gW,gQ,iQ,gR,iR,gT,iu,gt,gj,gn,gp,gr,gk⟩:=os.dL;have ls:=os.lt
  rcases Cm i N with i4 | i4
  .
   have lY:decide ((i:Int)<(N:Int))=true:=C9 B_;obtain⟨b,of,rfl,gA,g8,ft⟩:=gN.out.at (a:=i) (by have:=HN.out; omega);have cx:wo.cell? ⟨b,of+i*2,none⟩=some (Cz Cv (pt l i).1):=(B.cell (p:=⟨b,_,none⟩) gA).trans g8;have cy:wo.cell? ⟨b,of+i*2+1,none⟩=some (Cz Cv (pt l i).2):=(B.cell (p:=⟨b,_,none⟩) gA).trans ft;have ap:=AP i i4;have di:=DI i i4;have l9:=CM i i4;have sp:=SP i;have p0:=P0 i;have ps:=PS i;clear g8 ft gA;have lF:w.heap.size+1<wo.heap.size:=H.lt;have lM:=B.size;go_wp2_with fail
   refine(ap _ zi).mono ?_;rintro e w1 ⟨mf,lK,rfl,gg,fY,st⟩;have sk:=bA wo st;replace B:=bS B sk;have I:ai w1 wo.heap.size 23 #[Cz Cv (pt l i).1,Cz Cv (pt l i).2]:=ai.ak st;replace os:=os.ae sk;replace H:=H.ae sk;replace Y:=Y.aI sk;clear st sk gG gK iq gW gQ iQ gR iR gT iu gt gj gn gp gr gk ls;obtain⟨iM,iB,gY,iF,gV,gO,gF,gP,rfl⟩:=FR.au gg;have T:=C5 gg;clear gg;obtain⟨iO,iD,gI,iv,gZ,ig,iS,iL,rfl⟩:=FR.au fY;have J:=C5 fY;clear fY;have kw:wo.heap.size<w1.heap.size:=I.lt;have lZ:=B.size;dsimp only;have lq:=H.lt;have fq:=H.fr;have ln:=B.size;have ja:w.heap.size+1≠w1.heap.size:=B_
   have iV:w.heap.size+1≠w1.heap.size+1:=B_
   have lg:w.heap.size+1<w1.heap.size+1:=B_
   have lj:w1.cell? ⟨w.heap.size+1,i,none⟩=some (CO[i]'B_):=(H.cell i).trans (Array.getElem?_eq_getElem B_)
   repeat' (first | (with_reducible show wpList _ _ _ (⟨some 44,_,_,_,_,_⟩::_) _ _; generalize hZ : @wpList=Z) | go_values | go_skip | go_guarded | go_step | go_upon)
   subst hZ;clear lq fq lj ln ja iV lg;refine UL (fun wz=>ai wz w.heap.size 30 #[Cx ce,Cq cY ah dk,Cx ci,Cq d9 b9 dc,Cx dl,Cq br be cg,Cx bt,Cq dd bf cN,Cx ec,Cq f7 bg f8,Cx ek,Cq f9 bi dy,Cx em,Cq er bh eF,Cx dx,Cq fd bq dP]/\ai wz (w.heap.size+1) 3 (CO.setIfInBounds i (Cz Cv (-1)))/\ai wz wo.heap.size 23 #[Cz Cv (pt l i).1,Cz Cv (pt l i).2]/\ai wz w1.heap.size 28 #[Cx iM,Cq iB gY iF,Cx gV,Cq gO gF gP]/\ai wz (w1.heap.size+1) 28 #[Cx iO,Cq iD gI iv,Cx gZ,Cq ig iS iL]/\Below w.heap.size w wz/\av w1 wz) ⟨zw,((H.bI i _).alloc _).alloc _,zw,zw,zw,zi,((av.set (av.refl _) ⟨3,CO,H,gh⟩).alloc _).alloc _⟩ ?_;rintro wx ⟨ps,pq,gM,iI,ij,B2,k2⟩;clear os H I;clear B;have B:=B2;clear B2;have os:=ps;have H:=pq;have I:=gM;have bl:=iI;have X:=ij;clear ps pq gM iI ij;replace T:=C5 (T.out.af k2);replace J:=C5 (J.out.af k2);replace Y:=Y.trans k2;clear k2;go_wp2_with fail
   refine(RA _ zi).mono ?_;rintro e w2 ⟨me,rfl,fl,st⟩;have sk:=bA wx st;replace B:=bS B sk;replace os:=os.ae sk;replace H:=H.ae sk;replace I:=I.ae sk;replace bl:=bl.ae sk;replace X:=X.ae sk;replace T:=C5 (T.out.ae sk);replace J:=C5 (J.out.ae sk);replace Y:=Y.aI sk;clear st sk;obtain⟨lJ,lP,lX,m7,mb,lO,m9,mg,rfl⟩:=fl.au;have iH:=C5 fl;clear fl;have ko:w1.heap.size+1<w2.heap.size:=X.lt;have l6:=B.size;go_wp2_with fail
   go_loopw [49] (fun sl0 wr=>∃ (k:Nat) (y1:Bool) (y2:Option Addr) (y3 y4:Nat) (y5:Bool) (y6:Option Addr) (y7 y8:Nat),k<=M/\sl0 = Cz Cv k/\ai wr (w.heap.size+1) 3 (CO.setIfInBounds i (Cz Cv (PP i k).1))/\ai wr w2.heap.size 28 #[Cx y1,Cq y2 y3 y4,Cx y5,Cq y6 y7 y8]/\FR wr (Cy #[Cx y1,Cq y2 y3 y4,Cx y5,Cq y6 y7 y8]) (PP i k).2/\ai wr w.heap.size 30 #[Cx ce,Cq cY ah dk,Cx ci,Cq d9 b9 dc,Cx dl,Cq br be cg,Cx bt,Cq dd bf cN,Cx ec,Cq f7 bg f8,Cx ek,Cq f9 bi dy,Cx em,Cq er bh eF,Cx dx,Cq fd bq dP]/\ai wr wo.heap.size 23 #[Cz Cv (pt l i).1,Cz Cv (pt l i).2]/\ai wr w1.heap.size 28 #[Cx iM,Cq iB gY iF,Cx gV,Cq gO gF gP]/\ai wr (w1.heap.size+1) 28 #[Cx iO,Cq iD gI iv,Cx gZ,Cq ig iS iL]/\Below w.heap.size w wr/\av w2 wr) (fun sl0 _=>M-(intOf sl0).toNat)
   case atStart=>exact⟨0,_,_,_,_,_,_,_,_,by omega,rfl,(by rw[p0]; exact zw),zw,(by rw[p0]; exact iH.out.af zo),zw,zw,zw,zw,zi,zo⟩
   case round=>
    clear os H I bl X
    try clear B
    have jd:=Y.trans zo
    try clear Y
    clear iH;obtain⟨k,y1,y2,y3,y4,y5,y6,y7,y8,hk,rfl,H,E,fy,os,I,bl,X,B,Y⟩:=hrel;replace T:=C5 (T.out.af Y);replace J:=C5 (J.out.af Y);have Fy:=C5 fy;clear fy;obtain⟨pk,eW⟩:∃z,(PP i k).1=z:=⟨_,rfl⟩;rw[eW]at H;obtain⟨gL,iE,h9,iy⟩:=bl.r3;have lk:=bl.lt;obtain⟨iP,ir,iK,iG⟩:=X.r3;have k7:=X.lt
    rcases Cm k M with k4 | k4
    .
     have lH:decide ((k:Int)<(M:Int))=true:=C9 B_;obtain⟨b',iJ,rfl,fV,g8,ft⟩:=iC.out.at (a:=k) (by have:=HM.out; omega);have cx:wr.cell? ⟨b',iJ+k*2,none⟩=some (Cz Cv (pt m k).1):=(B.cell (p:=⟨b',_,none⟩) fV).trans g8;have cy:wr.cell? ⟨b',iJ+k*2+1,none⟩=some (Cz Cv (pt m k).2):=(B.cell (p:=⟨b',_,none⟩) fV).trans ft;have ks:=di k k4;have iT:=l9 k k4;obtain⟨c,gC⟩:∃c,yJ (DD i k) (PP i k).2=c:=⟨_,rfl⟩;rw[gC]at iT;have sq:=sp k c gC;rw[eW]at sq;clear g8 ft fV gC;have iY:w2.heap.size<wr.heap.size:=E.lt;have l6:=B.size;go_wp2_with fail
     refine(ks _ _ _ zi (T.out.af zo) (J.out.af zo)).mono ?_;rintro e w3 ⟨lW,rfl,fX,st⟩;have sk:=bA wr st;replace B:=bS B sk;have gz:ai w3 wr.heap.size 23 #[Cz Cv (pt m k).1,Cz Cv (pt m k).2]:=ai.ak st;replace os:=os.ae sk;replace I:=I.ae sk;replace bl:=bl.ae sk;replace X:=X.ae sk;replace H:=H.ae sk;replace E:=E.ae sk;replace T:=C5 (T.out.ae sk);replace J:=C5 (J.out.ae sk);replace Fy:=C5 (Fy.out.ae sk);replace Y:=Y.aI sk;clear st sk gL iE h9 iy lk iP ir iK iG k7;obtain⟨fZ,fm,fW,gd⟩:=E.r3;have gD:=E.lt;obtain⟨l8,jb,k8,k6,lC,l3,lE,lf,rfl⟩:=fX.au;have g9:=C5 fX;clear fX;have lh:wr.heap.size<w3.heap.size:=gz.lt;have m8:=B.size;go_wp2_with fail
     refine(iT _ _ _ zi (g9.out.af zo) (Fy.out.af zo)).mono ?_;rintro e w4 ⟨rfl,st⟩;have sk:=bA w3 st;replace B:=bS B sk;have gi:ai w4 w3.heap.size 28 #[Cx l8,Cq jb k8 k6,Cx lC,Cq l3 lE lf]:=ai.ak st;replace os:=os.ae sk;replace I:=I.ae sk;replace bl:=bl.ae sk;replace X:=X.ae sk;replace H:=H.ae sk;replace E:=E.ae sk;replace gz:=gz.ae sk;replace T:=C5 (T.out.ae sk);replace J:=C5 (J.out.ae sk);replace Fy:=C5 (Fy.out.ae sk);replace g9:=C5 (g9.out.ae sk);replace Y:=Y.aI sk;clear st sk fZ fm fW gd gD;dsimp only;have lq:=H.lt;have fq:=H.fr;have lN:w4.cell? ⟨w.heap.size+1,i,none⟩=some (Cz Cv pk):=(H.cell i).trans (Array.getElem?_setIfInBounds_self_of_lt B_)
     by_cases c1:c<0
     .
      have e0:=sq.1 B_;have iU:=gi.lt;have gD:=E.lt;have iZ:=E.fr;obtain⟨gH,gJ,iz,iA⟩:=gi.r3;obtain⟨fZ,fm,fW,gd⟩:=E.r3;have iX:w.heap.size+1≠w2.heap.size:=B_
      have kE:w.heap.size+1≠w3.heap.size:=B_
      have lw:w2.heap.size≠w3.heap.size:=B_
      go_upto_region 15 with fail
      go_region
      have kq:av w4 (w4.setCell ⟨w.heap.size+1,i,none⟩ (Cz Cv (k:Int))):=av.set (av.refl _) ⟨_,_,H,Y_ gh i pk⟩;have ka:ai (w4.setCell ⟨w.heap.size+1,i,none⟩ (Cz Cv (k:Int))) (w.heap.size+1) 3 (CO.setIfInBounds i (Cz Cv (k:Int))):=by have:=H.bI i (Cz Cv (k:Int)); rw[Array.setIfInBounds_setIfInBounds]at this; exact this
      go_wp2_with fail
      go_roundw
      case rel=>exact⟨k+1,_,_,_,_,_,_,_,_,by omega,by go_num,(by rw[e0]; exact zw),zw,(by rw[e0]; exact g9.out.af (kq.trans zo)),zw,zw,zw,zw,zi,Y.trans (kq.trans zo)⟩
      case measure=>simp[intOf]; omega
     .
      by_cases c2:c=0
      .
       by_cases c3:pk<0
       .
        have e0:=sq.2.1 B_ B_;subst c2;have iU:=gi.lt;have gD:=E.lt;have iZ:=E.fr;obtain⟨gH,gJ,iz,iA⟩:=gi.r3;obtain⟨fZ,fm,fW,gd⟩:=E.r3;have iX:w.heap.size+1≠w2.heap.size:=B_
        have kE:w.heap.size+1≠w3.heap.size:=B_
        have lw:w2.heap.size≠w3.heap.size:=B_
        go_upto_region 15 with fail
        go_region
        have kq:av w4 (w4.setCell ⟨w.heap.size+1,i,none⟩ (Cz Cv (k:Int))):=av.set (av.refl _) ⟨_,_,H,Y_ gh i pk⟩;have ka:ai (w4.setCell ⟨w.heap.size+1,i,none⟩ (Cz Cv (k:Int))) (w.heap.size+1) 3 (CO.setIfInBounds i (Cz Cv (k:Int))):=by have:=H.bI i (Cz Cv (k:Int)); rw[Array.setIfInBounds_setIfInBounds]at this; exact this
        go_wp2_with fail
        go_roundw
        case rel=>exact⟨k+1,_,_,_,_,_,_,_,_,by omega,by go_num,(by rw[e0]; exact zw),zw,(by rw[e0]; exact g9.out.af (kq.trans zo)),zw,zw,zw,zw,zi,Y.trans (kq.trans zo)⟩
        case measure=>simp[intOf]; omega
       .
        have e0:=sq.2.2 B_ (by first | omega | (intro h; omega) | (rintro ⟨h,g⟩; omega));subst c2;go_wp2_with fail
        go_roundw
        case rel=>exact⟨k+1,_,_,_,_,_,_,_,_,by omega,by go_num,(by rw[e0,eW]; exact zw),zw,(by rw[e0]; exact Fy.out.af zo),zw,zw,zw,zw,zi,Y.trans zo⟩
        case measure=>simp[intOf]; omega
      .
       have e0:=sq.2.2 B_ (by first | omega | (intro h; omega) | (rintro ⟨h,g⟩; omega));go_wp2_with fail
       go_roundw
       case rel=>exact⟨k+1,_,_,_,_,_,_,_,_,by omega,by go_num,(by rw[e0,eW]; exact zw),zw,(by rw[e0]; exact Fy.out.af zo),zw,zw,zw,zw,zi,Y.trans zo⟩
       case measure=>simp[intOf]; omega
    .
     have lI:decide ((k:Int)<(M:Int))=false:=C_ B_;have eM:k=M:=B_
     rw[eM]at eW;go_wp2_with fail
     go_roundw
     case rel=>exact⟨i+1,CO.setIfInBounds i (Cz Cv pk),by omega,by go_num,by rw[Array.size_setIfInBounds]; exact hs,by rw[ps,eW]; exact VL B_ (gE i) gB pk,Y_ gh i pk,zw,zw,zi,jd.trans (Y.trans zo)⟩
     case measure=>simp[intOf]; omega
  .
   have eN:i=N:=B_
   have lG:decide ((i:Int)<(N:Int))=false:=C_ B_;rw[eN]at gB;go_wp2_with fail
   refine Ci (by simp[results,Tryz.results61,go_sem,gG,gK,iq,gW,gQ,iQ,gR,iR,gT,iu,gt,gj,gn,gp,gr,gk,ls]; rfl) rfl ?_;exact⟨_,rfl,X2 zw (gE N) (Cl _) gB,zi⟩
def xT (H I:Int) (E:Bool) (a9:Int):Int:=if H≠0 then H else if I≠0 then I else if E=false then 8 else if a9<1\/65536<a9 then 2 else 0
def Z6 (e:Int) (l:List Int):List Int:=if e=0 then l else []
theorem VO {l:PL} (a9:Int) (w:Cc) (b0:FB w (Cy #[Cx ce,Cq cY ah dk,Cx ci,Cq d9 b9 dc]) (O 0)) (b1:FB w (Cy #[Cx dl,Cq br be cg,Cx bt,Cq dd bf cN]) (O 1)) (b2:FB w (Cy #[Cx ec,Cq f7 bg f8,Cx ek,Cq f9 bi dy]) (O 2)) (b3:FB w (Cy #[Cx em,Cq er bh eF,Cx dx,Cq fd bq dP]) (O 3)) (fw:ve O (ya ah be bg bh) (ya b9 bf bi bq) 4) (hl:bJ w vl l) (hm:bJ w vm m) (ll:l.length<=1000) (lm:m.length<=1000) :
  Cb Ch 23 #[Cy #[Cx ce,Cq cY ah dk,Cx ci,Cq d9 b9 dc,Cx dl,Cq br be cg,Cx bt,Cq dd bf cN,Cx ec,Cq f7 bg f8,Cx ek,Cq f9 bi dy,Cx em,Cq er bh eF,Cx dx,Cq fd bq dP],vl,vm,Cz Cv a9] w fun e w'=>∃u,e = Cg (Ck #[u,Cz Cv (xT (zQ l) (zQ m) (xb 16 O (ya ah be bg bh) (ya b9 bf bi bq) 4) a9)])/\aC w' u (Z6 (xT (zQ l) (zQ m) (xb 16 O (ya ah be bg bh) (ya b9 bf bi bq) 4) a9) (yC (fun i=>(O i).getD 0) (a9:Rat) l m l.length))/\zf w w':=by
 have CL:∀w',zf w w'->Cb Ch 37 #[vl] w' fun e H=>e = Cg (Cz Cv (zQ l))/\zf w' H:=fun w' s=>xX w' (hl.ae s) ll;have CN:∀w',zf w w'->Cb Ch 37 #[vm] w' fun e H=>e = Cg (Cz Cv (zQ m))/\zf w' H:=fun w' s=>xX w' (hm.ae s) lm;have LM:∀w' g t,av w w'->ai w' g t #[Cx ce,Cq cY ah dk,Cx ci,Cq d9 b9 dc,Cx dl,Cq br be cg,Cx bt,Cq dd bf cN,Cx ec,Cq f7 bg f8,Cx ek,Cq f9 bi dy,Cx em,Cq er bh eF,Cx dx,Cq fd bq dP]->Cb Ch 41 #[Cz Cv 16,Cq (some ⟨g,0,none⟩) 4 4] w' fun e H=>e = Cg (Cx (xb 16 O (ya ah be bg bh) (ya b9 bf bi bq) 4))/\zf w' H:=fun w' g t k hb=>ZR 16 w' (GV hb (b0.af k) (b1.af k) (b2.af k) (b3.af k)) B_
 have PR:zQ l=0->zQ m=0->xb 16 O (ya ah be bg bh) (ya b9 bf bi bq) 4=true->1<=a9->a9<=65536->∀w' g,av w w'->zf w w'->ai w' g 89 #[Cz Cv 0]->Cb Ch 61 #[Cj (some ⟨g,0,none⟩),Cy #[Cx ce,Cq cY ah dk,Cx ci,Cq d9 b9 dc,Cx dl,Cq br be cg,Cx bt,Cq dd bf cN,Cx ec,Cq f7 bg f8,Cx ek,Cq f9 bi dy,Cx em,Cq er bh eF,Cx dx,Cq fd bq dP],vl,vm,Cz Cv a9] w' fun e H=>∃u,e = Cg u/\aC H u (yC (fun i=>(O i).getD 0) (a9:Rat) l m l.length)/\zf w' H:=fun c1 c2 hL r0 r1 w' g k s hb=>by
  obtain⟨q0,e0,z0⟩:=yL hL fw 0 B_;obtain⟨q1,e1,z1⟩:=yL hL fw 1 B_;obtain⟨q2,e2,z2⟩:=yL hL fw 2 B_;obtain⟨q3,e3,z3⟩:=yL hL fw 3 B_;have g0:(O 0).getD 0=q0:=by rw[e0]; rfl
  have g1:(O 1).getD 0=q1:=by rw[e1]; rfl
  have g2:(O 2).getD 0=q2:=by rw[e2]; rfl
  have g3:(O 3).getD 0=q3:=by rw[e3]; rfl
  rw[e0]at b0;rw[e1]at b1;rw[e2]at b2;rw[e3]at b3
  exact VN (t:=fun i=>(O i).getD 0) a9 w' hb (by show FR _ _ ((O 0).getD 0); rw[g0]; exact FR.af b0 k) (by show FR _ _ ((O 1).getD 0); rw[g1]; exact FR.af b1 k) (by show FR _ _ ((O 2).getD 0); rw[g2]; exact FR.af b2 k) (by show FR _ _ ((O 3).getD 0); rw[g3]; exact FR.af b3 k) (fun i hi=>by
   rcases(show i=0\/i=1\/i=2\/i=3 by omega)with rfl | rfl | rfl | rfl
   . show sz ((O 0).getD 0) 16; rw[g0]; exact z0
   . show sz ((O 1).getD 0) 16; rw[g1]; exact z1
   . show sz ((O 2).getD 0) 16; rw[g2]; exact z2
   . show sz ((O 3).getD 0) 16; rw[g3]; exact z3) (hl.ae s) (hm.ae s) c1 c2 r0 r1
 obtain⟨la,lc,rfl⟩:=hl.au;obtain⟨ma,mc,rfl⟩:=hm.au;generalize yC (fun i=>(O i).getD 0) (a9:Rat) l m l.length=P at *;generalize xb 16 O (ya ah be bg bh) (ya b9 bf bi bq) 4=L at *;generalize zQ l=cl at *;generalize zQ m=cm at *;obtain⟨N,hN⟩:∃n,l.length=n:=⟨_,rfl⟩;obtain⟨M,hM⟩:∃n,m.length=n:=⟨_,rfl⟩;rw[hN,hM]at PR;rw[hN]at CL;rw[hM]at CN;rw[hN,hM];clear hl hm ll lm b0 b1 b2 b3 fw hN hM
 by_cases c1:cl=0
 .
  subst c1
  by_cases c2:cm=0
  .
   subst c2
   cases L with
   | false=>
    have eE:xT 0 0 false a9=8:=by simp[xT]
    rw[eE];clear PR
    show Cb _ _ _ _ fun e w'=>∃u,e=_/\aC w' u []/\_
    go_enter Tryz.func23,Tryz.ntmps23
    have E:=av.refl w;go_wp2_with fail
    refine(CL _ zi).mono ?_;rintro e w1 ⟨rfl,fW⟩;have st:zf _ w1:=fW;have B:=bA w st;have kp:=kB w st;replace E:=E.trans kp;have os:ai w1 w.heap.size 30 #[Cx ce,Cq cY ah dk,Cx ci,Cq d9 b9 dc,Cx dl,Cq br be cg,Cx bt,Cq dd bf cN,Cx ec,Cq f7 bg f8,Cx ek,Cq f9 bi dy,Cx em,Cq er bh eF,Cx dx,Cq fd bq dP]:=ai.ak st;clear kp;clear st;go_wp2_with fail
    refine(CN _ zi).mono ?_;rintro e H ⟨rfl,fY⟩;have st:zf _ H:=fY;have sk:=bA w1 st;replace B:=bS B sk;replace os:=os.ae sk;replace E:=E.aI sk;clear st sk;obtain⟨fl,ft,cx,fm,bl,fV,eM,fX,eW,cy,Z,J,T,X,I,Y⟩:=os.dL;have ls:=os.lt;have fZ:w.heap.size<H.heap.size:=os.lt;have g9:=B.size;go_wp2_with fail
    refine(LM _ H.heap.size 28 (E.trans zo) zw).mono ?_;rintro e w3 ⟨rfl,g8⟩;have st:zf _ w3:=g8;have sk:=bA H st;replace B:=bS B sk;replace os:=os.ae sk;replace E:=E.aI sk;clear st sk fl ft cx fm bl fV eM fX eW cy Z J T X I Y ls;go_wp2_with fail
    refine Ci (by simp[results,Tryz.results23,go_sem,]; rfl) rfl ?_;exact⟨_,rfl,aC.nil _,zi⟩
   | true=>
    rcases(show a9<1\/(¬a9<1/\65536<a9)\/(¬a9<1/\¬65536<a9) by omega)with r0 | ⟨r0,r1⟩ | ⟨r0,r1⟩
    rotate_left
    rotate_left
    .
     have eE:xT 0 0 true a9=0:=by simp[xT]; omega
     rw[eE];replace PR:=PR rfl rfl rfl B_ B_
     show Cb _ _ _ _ fun e w'=>∃u,e=_/\aC w' u P/\_
     go_enter Tryz.func23,Tryz.ntmps23
     have E:=av.refl w;go_wp2_with fail
     refine(CL _ zi).mono ?_;rintro e w1 ⟨rfl,fW⟩;have st:zf _ w1:=fW;have B:=bA w st;have kp:=kB w st;replace E:=E.trans kp;have os:ai w1 w.heap.size 30 #[Cx ce,Cq cY ah dk,Cx ci,Cq d9 b9 dc,Cx dl,Cq br be cg,Cx bt,Cq dd bf cN,Cx ec,Cq f7 bg f8,Cx ek,Cq f9 bi dy,Cx em,Cq er bh eF,Cx dx,Cq fd bq dP]:=ai.ak st;clear kp;clear st;go_wp2_with fail
     refine(CN _ zi).mono ?_;rintro e H ⟨rfl,fY⟩;have st:zf _ H:=fY;have sk:=bA w1 st;replace B:=bS B sk;replace os:=os.ae sk;replace E:=E.aI sk;clear st sk;obtain⟨fl,ft,cx,fm,bl,fV,eM,fX,eW,cy,Z,J,T,X,I,Y⟩:=os.dL;have ls:=os.lt;have fZ:w.heap.size<H.heap.size:=os.lt;have g9:=B.size;go_wp2_with fail
     refine(LM _ H.heap.size 28 (E.trans zo) zw).mono ?_;rintro e w3 ⟨rfl,g8⟩;have st:zf _ w3:=g8;have sk:=bA H st;replace B:=bS B sk;replace os:=os.ae sk;replace E:=E.aI sk;clear st sk fl ft cx fm bl fV eM fX eW cy Z J T X I Y ls;obtain⟨fl,ft,cx,fm,bl,fV,eM,fX,eW,cy,Z,J,T,X,I,Y⟩:=os.dL;have ls:=os.lt;have gj:w.heap.size<w3.heap.size:=os.lt;have gk:=B.size;go_wp2_with fail
     refine(PR _ w3.heap.size (E.trans zo) zi zw).mono ?_;rintro e w4 ⟨vu,rfl,gd,st⟩;have sk:=bA w3 st;replace B:=bS B sk;have gg:ai w4 w3.heap.size 89 #[Cz Cv 0]:=ai.ak st;replace os:=os.ae sk;replace E:=E.aI sk;clear st sk fl ft cx fm bl fV eM fX eW cy Z J T X I Y ls;have gh:=gg.q0;have gi:=gg.lt;obtain⟨ua,uc,rfl⟩:=gd.au;go_wp2_with fail
     refine Ci (by simp[results,Tryz.results23,go_sem,gh,gi]; rfl) rfl ?_;exact⟨_,rfl,gd,zi⟩
    all_goals
     have eE:xT 0 0 true a9=2:=by simp[xT]; omega
     rw[eE];clear PR
     show Cb _ _ _ _ fun e w'=>∃u,e=_/\aC w' u []/\_
     go_enter Tryz.func23,Tryz.ntmps23
     have E:=av.refl w;go_wp2_with fail
     refine(CL _ zi).mono ?_;rintro e w1 ⟨rfl,fW⟩;have st:zf _ w1:=fW;have B:=bA w st;have kp:=kB w st;replace E:=E.trans kp;have os:ai w1 w.heap.size 30 #[Cx ce,Cq cY ah dk,Cx ci,Cq d9 b9 dc,Cx dl,Cq br be cg,Cx bt,Cq dd bf cN,Cx ec,Cq f7 bg f8,Cx ek,Cq f9 bi dy,Cx em,Cq er bh eF,Cx dx,Cq fd bq dP]:=ai.ak st;clear kp;clear st;go_wp2_with fail
     refine(CN _ zi).mono ?_;rintro e H ⟨rfl,fY⟩;have st:zf _ H:=fY;have sk:=bA w1 st;replace B:=bS B sk;replace os:=os.ae sk;replace E:=E.aI sk;clear st sk;obtain⟨fl,ft,cx,fm,bl,fV,eM,fX,eW,cy,Z,J,T,X,I,Y⟩:=os.dL;have ls:=os.lt;have fZ:w.heap.size<H.heap.size:=os.lt;have g9:=B.size;go_wp2_with fail
     refine(LM _ H.heap.size 28 (E.trans zo) zw).mono ?_;rintro e w3 ⟨rfl,st⟩;have sk:=bA H st;replace B:=bS B sk;replace os:=os.ae sk;replace E:=E.aI sk;clear st sk fl ft cx fm bl fV eM fX eW cy Z J T X I Y ls;go_wp2_with fail
     refine Ci (by simp[results,Tryz.results23,go_sem,]; rfl) rfl ?_;exact⟨_,rfl,aC.nil _,zi⟩
  .
   have eE:xT 0 cm L a9=cm:=by simp[xT,c2]
   have eR:Z6 cm P = []:=C8 c2;rw[eE,eR];clear PR LM
   go_enter Tryz.func23,Tryz.ntmps23
   have E:=av.refl w;go_wp2_with fail
   refine(CL _ zi).mono ?_;rintro e w1 ⟨rfl,fW⟩;have st:zf _ w1:=fW;have B:=bA w st;have kp:=kB w st;replace E:=E.trans kp;have os:ai w1 w.heap.size 30 #[Cx ce,Cq cY ah dk,Cx ci,Cq d9 b9 dc,Cx dl,Cq br be cg,Cx bt,Cq dd bf cN,Cx ec,Cq f7 bg f8,Cx ek,Cq f9 bi dy,Cx em,Cq er bh eF,Cx dx,Cq fd bq dP]:=ai.ak st;clear kp;clear st;go_wp2_with fail
   refine(CN _ zi).mono ?_;rintro e H ⟨rfl,st⟩;have sk:=bA w1 st;replace B:=bS B sk;replace os:=os.ae sk;replace E:=E.aI sk;clear st sk;go_wp2_with fail
   refine Ci (by simp[results,Tryz.results23,go_sem,]; rfl) rfl ?_;exact⟨_,rfl,aC.nil _,zi⟩
 .
  have eE:xT cl cm L a9=cl:=by simp[xT,c1]
  have eR:Z6 cl P = []:=C8 c1;rw[eE,eR];clear PR LM CN
  go_enter Tryz.func23,Tryz.ntmps23
  have E:=av.refl w;go_wp2_with fail
  refine(CL _ zi).mono ?_;rintro e w1 ⟨rfl,st⟩;have B:=bA w st;have kp:=kB w st;replace E:=E.trans kp;have os:ai w1 w.heap.size 30 #[Cx ce,Cq cY ah dk,Cx ci,Cq d9 b9 dc,Cx dl,Cq br be cg,Cx bt,Cq dd bf cN,Cx ec,Cq f7 bg f8,Cx ek,Cq f9 bi dy,Cx em,Cq er bh eF,Cx dx,Cq fd bq dP]:=ai.ak st;clear kp;clear st;go_wp2_with fail
  refine Ci (by simp[results,Tryz.results23,go_sem,]; rfl) rfl ?_;exact⟨_,rfl,aC.nil _,zi⟩
def H9 (k n:Int):Bool:=(decide (k<n)&&decide (n<=200))||decide (210<n)
end Go.Proofs.YtffmbepfbienaaaGreat
