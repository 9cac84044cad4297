import Derived.Test.YtffmbepfbienaaaGreatZRound
import Derived.Laws.CopyOwn
set_option linter.unusedVariables false
set_option linter.unusedSimpArgs false
set_option maxHeartbeats 6400000
set_option maxRecDepth 1000000
open Go.Value renaming slice->Cq,bool->Cx,int->Cz,pointer->Cj,tuple->Ck
open Go.IntKind renaming i64->Cv,u32->Cw,u64->Cu
open Go.Ending renaming returned->Cg
open Go.Proofs.Tryz renaming prog->Ch
open Go renaming Calls->Cb,World->Cc,Value->Cd,undef->Cf
open Nat renaming le_refl->Cl
open Go.World renaming cell?->Cn,size_alloc->Co
open Go.RowKit.Below renaming refl->Cp
namespace Go.Proofs.YtffmbepfbienaaaGreat
section
open Go.RowKit
variable {gx gy:Bool} {A D x y:Int} {U:List Int} {post pre:List Cd} {j:Nat} {a d va:Cd}
theorem KE {E:List Int} (J:pre.length=j) (H:E.length=U.length) :
  ((xC pre U post).toList.take j++(zH E++(xC pre U post).toList.drop (j+(zH E).length))).toArray=xC pre E post:=by
 subst J;have I:(xC pre U post).toList.take pre.length=pre:=by simp[xC]
 have M:(xC pre U post).toList.drop (pre.length+(zH E).length)=post:=by
  simp only[xC];rw[List.drop_append,List.drop_of_length_le B_,Nat.add_sub_cancel_left,List.nil_append,List.drop_append,List.drop_of_length_le (by simp[zH,H])];simp[zH,H]
 rw[I,M,xC]
theorem Gj:(Tryz.prog.info? 172).map (·.size)=some 1:=by kernel_rfl
theorem Gk {g b o m capu capv:Nat} {V:List Int} (w:Cc) (hB:ai w g 172 (xC pre U post)) (hj:pre.length=j) (hU:U.length=m+3) (a9:yn U) (eF:m+3<=capu)
  (hV:Cells w b o V) (lV:V.length=m+2) (ah:yn V) (hb:b<w.heap.size) (eM:b≠g) (hn:m+3<=aE) (bl:2147483648<=V.getD (m+1) 0) (d9:zj U<zj V*4294967296) :
  Cb Ch 164 #[Cq (some ⟨g,j,none⟩) (m+3) capu,Cq (some ⟨b,o,none⟩) (m+2) capv] w fun e w'=>
   ∃N,e = Cg (Cz Cw (zj U / zj V))/\N.length=m+3/\yn N/\zj N=zj U%zj V/\ai w' g 172 (xC pre N post)/\w.grownBy w' (some g):=by
 unfold aE at hn;have hg:g<w.heap.size:=hB.lt;obtain⟨un,bh⟩:∃x,U.getD (m+2) 0=x:=⟨_,rfl⟩;obtain⟨T,Y⟩:∃x,U.getD (m+1) 0=x:=⟨_,rfl⟩;obtain⟨v1,b9⟩:∃x,V.getD (m+1) 0=x:=⟨_,rfl⟩;have bu:=zF a9 (m+2);have cg:=zF a9 (m+1);have bt:=zF ah (m+1);have cu:w.cell? ⟨g,j+(m+2),none⟩=some (Cz Cw un):=by rw[<- bh]; exact hB.c _ (xe hj B_)
 have cy:w.cell? ⟨g,j+(m+1),none⟩=some (Cz Cw T):=by rw[<- Y]; exact hB.c _ (xe hj B_)
 have cN:w.cell? ⟨b,o+(m+1),none⟩=some (Cz Cw v1):=by rw[<- b9]; exact hV _ B_
 have DM:=Zl a9 ah hU lV B_ d9;rw[bh,Y,b9]at DM;obtain⟨Q,hQ⟩:∃Q,zj U / zj V=Q:=⟨_,rfl⟩
 have hR:zj U%zj V=zj U-Q*zj V:=by
  have:=Int.mul_ediv_add_emod (zj U) (zj V);rw[hQ,Int.mul_comm]at this;omega
 rw[hQ]at DM;rw[hQ,hR];obtain⟨Q0,Q1,Q2,Q3,Q4,Q5,Q6⟩:=DM;rw[bh]at bu;rw[Y]at cg;rw[b9]at bt bl;have HQ:Hid (Q*zj V<=zj U/\zj U-Q*zj V<zj V/\0<zj V):=⟨Q4,Q5,Q6⟩;have HB:=C5 hB;have HV:=C5 hV;have Z:Hid (pre.length=j/\U.length=m+3/\V.length=m+2/\yn U/\yn V):=⟨hj,hU,lV,a9,ah⟩
 have bf:un<v1->Q<=(un*4294967296+T) / v1:=fun _=>by
  have e:=Int.mul_ediv_add_emod (un*4294967296+T) v1;have:=Int.emod_lt_of_pos (un*4294967296+T) (show 0<v1 by omega);exact Xf (by rw[Int.mul_comm]; exact e) this Q2 B_
 clear bh Y b9 hU lV hj d9 hB hV Q2 Q3 Q4 Q5 Q6 hR hQ a9 ah
 go_enter Tryz.func164,Tryz.ntmps164
 go_wp2_with fail
 go_quiet (fail)
 go_upto_if 19 with fail
 go_cut [6] (fun q wx=>∃H:Int,q = Cz Cw H/\Q<=H/\0<=H/\H<4294967296/\∃n,wx=w.drewN n)
 case first=>
  rcases Int.lt_or_le un v1 with h1 | h1
  .
   have gl:=bf h1;have hd:decide (un<v1)=true:=C9 h1;have g0:0<=(un*4294967296+T) / v1:=Int.ediv_nonneg B_ B_;have g1:(un*4294967296+T) / v1<4294967296:=Int.ediv_lt_of_lt_mul B_ B_;have G:=C5 (C6 gl (C6 g0 g1));have i1:(0:Int)<=(m:Int)+2:=B_
   have i2:(m:Int)+2<(m:Int)+3:=B_
   have i3:((m:Int)+2).toNat=m+2:=B_
   have i4:(0:Int)<=(m:Int)+1:=B_
   have i5:(m:Int)+1<(m:Int)+3:=B_
   have i6:((m:Int)+1).toNat=m+1:=B_
   have i7:(m:Int)+1<(m:Int)+2:=B_
   have i8:IntKind.i64.wrap ((m:Int)+2-1)=(m:Int)+1:=by rw[IntKind.wrap_i64]; omega
   have i9:wrap64 ((m:Int)+2-1)=(m:Int)+1:=by unfold wrap64; omega
   clear bf gl g0 g1;go_wp2_with fail
   go_region_held3 (fun w'=>w'.cell? ⟨g,j+(m+2),none⟩=some (Cz Cw un)/\w'.cell? ⟨g,j+(m+1),none⟩=some (Cz Cw T)/\w'.cell? ⟨b,o+(m+1),none⟩=some (Cz Cw v1))
    (first | exact⟨cu,cy,cN⟩)
    (first | ((go_at_call 186; refine(Ge un T v1 _ bu.1 h1 cg bt.2).mono ?_; rintro e wv ⟨rfl,n3,rfl⟩)))
   go_wp2_with fail
   go_meet
   exact⟨_,rfl,G.out.1,G.out.2.1,G.out.2.2,(by first | exact⟨_,rfl⟩ | exact jX _ _ _ | exact⟨_,rfl⟩)⟩
  .
   have hd:decide (un<v1)=false:=C_ B_;clear bf;go_wp2_with fail
   go_meet
   exact⟨_,rfl,by omega,by omega,by omega,(by first | exact⟨_,rfl⟩ | exact jX _ _ _)⟩
 case rest=>
  obtain⟨H,rfl,a1,a2,a3,nn,rfl⟩:=hcut;have er:ai (w.drewN nn) g 172 (xC pre U post):=HB.out.drewN nn;clear bf cu cy cN bu cg bt bl;go_wp2_with fail
  go_loopw [6,7] (fun q r wr=>∃H:Int,q = Cz Cw H/\Q<=H/\0<=H/\H<4294967296/\Below w.heap.size w wr) (fun q _ _=>(intOf q).toNat)
  case atStart=>exact⟨H,rfl,a1,a2,a3,yD (Cp _ _) nn⟩
  case round=>
   clear a1 a2 a3;obtain⟨H,rfl,a1,a2,a3,be⟩:=hrel;have bg:ai wr g 172 (xC pre U post):=(be.block g hg).trans HB.out
   have LU:aA wr (Cq (some ⟨g,j,none⟩) (m+3) capu) U:=by
    have e:=Z.out.2.1;have:=aA.dM (o:=j) (cap:=capu) (l:=U) (cs:=(xC pre U post).toList) (by simpa using bg) Z.out.2.2.2.1 (fun t ht=>by have:=xe (post:=post) Z.out.1 ht; simpa using this) B_;rw[e]at this;exact this
   have HW:=C5 bg;have HX:=C5 be;have cl:=Zs wr LU (by rw[Z.out.2.1]; unfold aE; omega);rw[Z.out.2.1]at cl
   have sb:∀ (w1:Cc) (g2 M:Nat) (E:List Cd),zf wr w1->wr.heap.size<=g2->ai w1 g2 172 (xC [] U E)->Cb Ch 188 #[Cq (some ⟨g2,0,none⟩) (m+3) M,Cq (some ⟨b,o,none⟩) (m+2) capv,Cz Cw H] w1 fun e w'=>
     ∃ (N:List Int) (bw:Int),e = Cg (Cx (bw==0))/\Hid (0<=bw/\bw<=1/\N.length=m+3/\yn N/\zj N=zj U-H*zj V+bp (m+3)*bw)/\ai w' g2 172 (xC [] N E)/\w1.grownBy w' (some g2):=fun w1 g2 M E hs dy ce=>by
    have dd:b<wr.heap.size:=Nat.lt_of_lt_of_le hb be.size
    have:=JK (q:=H) (m:=m+2) (capu:=M) (capv:=capv) (g:=g2) (j:=0) (b:=b) (o:=o) (pre:= []) (post:=E) (U:=U) (V:=V) w1 ce rfl Z.out.2.1 Z.out.2.2.2.1
     ((HV.out.below (be.mono (Cl _)) hb).below hs dd) Z.out.2.2.1 Z.out.2.2.2.2 B_ (Nat.lt_of_lt_of_le dd hs.size) B_ (by unfold aE; omega) a2 a3
    refine this.mono ?_;rintro e w' ⟨N,bw,rfl,k1,k2,k3,k4,k5,k6,k7⟩;exact⟨N,bw,rfl,⟨k1,k2,k3,k4,k5⟩,k6,k7⟩
   have dc:g<wr.heap.size:=bg.lt;clear LU bg
   go_upto_if 43 with(first
    | (go_at_call 134; refine cl.mono ?_; clear cl; rintro e w1 ⟨vc,rfl,cY,f7,J⟩; obtain⟨g2,M,E,rfl,dy,f8,ce⟩:=kt cY B_; have ci:=sb w1 g2 M E J dy ce)
    | (go_at_call 188; refine ci.mono ?_; clear sb ci; rintro e w2 ⟨N,bw,rfl,br,cx,I⟩))
   rcases Int.decEq bw 0 with bq | bq
   rotate_left
   .
    subst bq;obtain⟨k1,k2,k3,k4,k5⟩:=br.out
    have hq:H=Q:=by
     have L0:=zD k4;rw[Int.mul_zero,Int.add_zero]at k5
     rcases Int.lt_or_le Q H with h | h
     .
      have e1:=Int.mul_le_mul_of_nonneg_right (show Q+1<=H by omega) (show 0<=zj V by have:=HQ.out.2.2; omega);rw[Int.add_mul,Int.one_mul]at e1;have:=HQ.out.2.1;omega
     . omega
    subst hq;have dx:ai w2 g 172 (xC pre U post):=(I.block g (Nat.lt_of_lt_of_le dc J.size) (fun e=>by have:=Option.some.inj e; omega)).trans ((J.block g dc).trans HW.out)
    have bi:∀i v,(zH N)[i]? = some v->w2.cell? ((⟨g2,0,none⟩:Addr).add i)=some v:=fun i v hv=>by
     have hi:i<N.length:=by have:=(List.getElem?_eq_some_iff.1 hv).1; simpa[zH]using this
     rw[xy N i hi]at hv;have:=cx.c _ (xe (j:=0) (pre:= []) rfl hi);rw[Addr.add_lit,this];exact hv
    have SC:=C5 (KE (post:=post) Z.out.1 (k3.trans Z.out.2.1.symm));have HS:=C5 bi;have HK:=C5 dx;have dk:j+(zH N).length<=(xC pre U post).size:=by simp[xC,zH,k3,Z.out.1,Z.out.2.1]
    have ek:(zH N).length=Nat.min (m+3) (m+3):=by simp[zH,k3]
    clear bi dx k1 k2 k5
    go_wp2_with ((with_reducible show wpList _ _ _ _ _ _); refine wpList_copy_own rfl (.tmp 44) (.tmp 45) 24 24 rfl 172 Tryz.underlying24 Gj g j (m+3) capu ⟨g2,0,none⟩ (m+3) M rfl rfl (xC pre U post) 172 HK.out (zH N) ek HS.out dk (by intro v hv; obtain⟨z,_,rfl⟩:=List.mem_map.1 hv; rfl) ?_)
    go_returns
    have k5:=br.out.2.2.2.2;rw[Int.mul_zero,Int.add_zero]at k5;have eW:=HX.out.size;have em:=J.size
    have dP:∀X:Array Cd,ai (w2.setRow g X) g 172 X:=fun X=>by
     have h:=HK.out;unfold ai at h|-
     show (w2.heap.modify g _)[g]? = _
     rw[Array.getElem?_modify,h];simp
    refine⟨N,rfl,k3,k4,k5,?_,⟨?_,?_,?_,?_,?_⟩⟩
    .
     have dl:=SC.out;rw[yG,k3]at dl;rw[dl];exact dP _
    . exact I.os.trans (J.os.trans HX.out.os)
    . exact I.tape.trans (J.tape.trans HX.out.tape)
    . exact I.output.trans (J.output.trans HX.out.output)
    .
     have:=I.size;simp only[World.setRow,Array.size_modify]at *;omega
    .
     intro k hk ec;rw[setRow_other w2 g k _ (fun e=>ec (by rw[e]))];exact(I.block k B_ (fun e=>by have:=Option.some.inj e; omega)).trans ((J.block k B_).trans (HX.out.block k hk))
   .
    have h0:(bw==0)=false:=by simp[bq]
    obtain⟨k1,k2,k3,k4,k5⟩:=br.out
    have hq:Q<H:=by
     have L1:=yF k4;rw[k3]at L1
     rcases Int.lt_or_le Q H with h | h
     . exact h
     .
      have e1:=Int.mul_le_mul_of_nonneg_right h (show 0<=zj V by have:=HQ.out.2.2; omega);have:=HQ.out.1;rw[show bw=1 by omega,Int.mul_one]at k5;omega
    clear k1 k2 k3 k4 k5;have e9:(H-1)%4294967296=H-1:=Int.emod_eq_of_lt B_ B_
    go_wp2
    go_roundw
    case rel=>exact⟨H-1,by first | rfl | rw[e9],by omega,by omega,by omega,(zp HX.out (Cl _) J).grown I (by have:=J.size; have:=HX.out.size; omega) (fun k hk=>by cases hk; have:=HX.out.size; omega)⟩
    case measure=>(try rw[e9]); simp[intOf]; omega
theorem Qk (w:Cc) (J:aA w a (zn A)) (hd:aA w d (zn D)) (Y:0<=A) (D0:1<=D) (Z:(zn A).length<=aE) (nD:(zn D).length<=aE) (H:A<D) :
  Cb Ch 135 #[a,d] w fun e E=>∃q r,e = Cg (Ck #[q,r])/\aA E q (zn (A / D))/\aA E r (zn (A%D))/\zf w E:=by
 have hc:zI A D = -1:=by unfold zI; rw[C8 B_,C7 H]
 have cc:Cb Ch 136 #[a,d] w fun e E=>e = Cg (Cz Cv (-1))/\zf w E:=by
  have:=xY w J hd Y B_ Z nD;rw[hc]at this;exact this
 have tt:∀E,zf w E->Cb Ch 134 #[a] E fun e M=>∃v,e = Cg v/\M.ownsRow E.heap.size 172 1 v (zn A).length (zH (zn A))/\aA M v (zn A)/\zf E M:=fun E h=>Zs E (J.ae h) Z;have q0:Hid (A / D=0/\A%D=A):=⟨Int.ediv_eq_zero_of_lt Y H,Int.emod_eq_of_lt Y H⟩;obtain⟨aa,ca,rfl⟩:=J.au;obtain⟨ad,cd,rfl⟩:=hd.au;clear J hd hc
 go_enter Tryz.func135,Tryz.ntmps135
 go_wp2_with (first
  | (go_at_call 136; refine cc.mono ?_; rintro e w1 ⟨rfl,I⟩; have T:=tt w1 I)
  | (go_at_call 134; refine T.mono ?_; rintro e M ⟨v2,rfl,a9,X,N⟩))
 go_returns
 refine⟨_,_,rfl,?_,?_,zp I (Cl _) N⟩
 . rw[q0.out.1]; exact aA.nil _
 . rw[q0.out.2]; exact X
theorem Xt (w:Cc) (N:aA w a (zn A)) (hd:aA w d (zn D)) (A0:0<=A) (D0:1<=D) (nA:(zn A).length<=aE) (nD:(zn D).length=1) (bf:D<=A) :
  Cb Ch 135 #[a,d] w fun e E=>∃q r,e = Cg (Ck #[q,r])/\aA E q (zn (A / D))/\aA E r (zn (A%D))/\zf w E:=by
 obtain⟨c,hc⟩:∃c,zI A D=c:=⟨_,rfl⟩
 have c0:0<=c:=by
  rw[<- hc]; unfold zI
  split
  . omega
  . rw[C8 B_]; omega
 have cc:Cb Ch 136 #[a,d] w fun e E=>e = Cg (Cz Cv c)/\zf w E:=by
  have:=xY w N hd A0 B_ nA (by unfold aE; omega);rw[hc]at this;exact this
 have T:zn D = [D]/\D<4294967296:=by
  match h:zn D,nD with
  | [x],_=>
   have e1:=zA (show 0<=D by omega);have e2:=yX D;rw[h]at e1 e2;simp[zj]at e1;subst e1;exact⟨rfl,(zU.1 e2).1.2⟩
 rw[T.1]at hd
 have tt:∀E,zf w E->Cb Ch 161 #[a,Cz Cw D] E fun e I=>∃q,e = Cg (Ck #[q,Cz Cw (A%D)])/\aA I q (zn (A / D))/\zf E I:=fun E h=>by
  have:=Wp E (N.ae h) nA D0 T.2;rw[zA A0]at this;exact this
 obtain⟨aa,ca,rfl⟩:=N.au;obtain⟨ad,cd,rfl⟩:=hd.au;obtain⟨od,-,ld,Z⟩:=hd.cells;simp only[List.length_cons,List.length_nil,Nat.zero_add]at ld Z cc|-;obtain⟨bd,ah,rfl,Y,J⟩:=Z B_;have g0:=J 0 C3;simp only[Nat.add_zero,List.getD_cons_zero]at g0;have m0:=Int.emod_nonneg A (show D≠0 by omega);have m1:=Int.emod_lt_of_pos A (show 0<D by omega);obtain⟨R,hR⟩:∃R,A%D=R:=⟨_,rfl⟩;rw[hR]at tt m0 m1;have HR:=C5 hR;have HD:=C5 T.2;clear N hd hc J Z od hR T
 go_enter Tryz.func135,Tryz.ntmps135
 go_wp2_with (first
  | (go_at_call 136; refine cc.mono ?_; rintro e w1 ⟨rfl,H⟩; have a9:=tt w1 H; have g1:=(H.cell (p:=⟨bd,ah,none⟩) Y).trans g0)
  | (go_at_call 161; refine a9.mono ?_; rintro e I ⟨q2,rfl,be,X⟩)
  | (go_at_call 133; refine(Yj _ (aA.one (x:=R) m0 (by have:=HD.out; omega)) (by unfold aE; simp)).mono ?_; rintro e w3 ⟨v3,rfl,M,b9⟩))
 go_returns
 have Z2:zf I w3:=((Cp I.heap.size I).alloc (Cl _) _).trans (b9.mono C4);refine⟨_,_,rfl,be.ae Z2,?_,zp (zp H (Cl _) X) (Cl _) Z2⟩;rw[HR.out];have:=ye (zU.2 ⟨⟨m0,by have:=HD.out; omega⟩,z4⟩:yn [R]);rw[<- this]at M;simpa[zj]using M
theorem KH (z:Int) (w:Cc) (z0 : -9223372036854775808<=z) (z1:z<=9223372036854775807) :
  Cb Ch 118 #[Cz Cv z] w fun e E=>∃v,e = Cg v/\az E v z/\zf w E:=by
 have I:fits z:=xO (by unfold zh; omega)
 rcases Int.lt_or_le z 0 with Y | Y
 focus
  have hd:decide (z<0)=true:=by simp[Y]
  have M:Hid (zv true (zj [(-z)%4294967296,(-z) / 4294967296])=z):=by show zv _ _=z; simp only[zv,zj,if_true,Bool.false_eq_true,if_false]; omega
  have J:=C5 (C6 (zK I) (zG I));clear I;obtain⟨m,hm⟩:∃m,-z=m:=⟨_,rfl⟩;have hw:IntKind.u64.wrap (-IntKind.u64.wrap z)=m:=by simp only[IntKind.wrap_u64]; omega
  rw[hm]at M;have m0:0<=m/\m<=9223372036854775808:=B_
  clear hm
  have Z:Cb Ch 94 #[Cx true,Cq (some ⟨w.heap.size+1,0,none⟩) 2 2] ((w.alloc (.cells #[Cx false,Cq none 0 0] 26)).alloc (.cells #[Cz Cw (m%4294967296),Cz Cw (m / 4294967296)] 172)) (fun e E=>∃v,e = Cg (Ck #[v,Cz Cv 0])/\az E v z/\zf ((w.alloc (.cells #[Cx false,Cq none 0 0] 26)).alloc (.cells #[Cz Cw (m%4294967296),Cz Cw (m / 4294967296)] 172)) E):=by
   have L:aA ((w.alloc (.cells #[Cx false,Cq none 0 0] 26)).alloc (.cells #[Cz Cw (m%4294967296),Cz Cw (m / 4294967296)] 172)) (Cq (some ⟨w.heap.size+1,0,none⟩) 2 2) [m%4294967296,m / 4294967296]:=aA.aY (l:= [m%4294967296,m / 4294967296]) (ai.dT w _ _ _) (by simp only[zU]; refine⟨⟨by omega,by omega⟩,⟨by omega,by omega⟩,z4⟩);have C:=xG true _ L (by unfold aE; simp);rw[M.out,J.out.1,J.out.2]at C;exact C
 rotate_left
 focus
  have hd:decide (z<0)=false:=by simp; omega
  have M:Hid (zv false (zj [z%4294967296,z / 4294967296])=z):=by show zv _ _=z; simp only[zv,zj,if_true,Bool.false_eq_true,if_false]; omega
  have J:=C5 (C6 (zK I) (zG I));clear I
  have Z:Cb Ch 94 #[Cx false,Cq (some ⟨w.heap.size+1,0,none⟩) 2 2] ((w.alloc (.cells #[Cx false,Cq none 0 0] 26)).alloc (.cells #[Cz Cw (z%4294967296),Cz Cw (z / 4294967296)] 172)) (fun e E=>∃v,e = Cg (Ck #[v,Cz Cv 0])/\az E v z/\zf ((w.alloc (.cells #[Cx false,Cq none 0 0] 26)).alloc (.cells #[Cz Cw (z%4294967296),Cz Cw (z / 4294967296)] 172)) E):=by
   have L:aA ((w.alloc (.cells #[Cx false,Cq none 0 0] 26)).alloc (.cells #[Cz Cw (z%4294967296),Cz Cw (z / 4294967296)] 172)) (Cq (some ⟨w.heap.size+1,0,none⟩) 2 2) [z%4294967296,z / 4294967296]:=aA.aY (l:= [z%4294967296,z / 4294967296]) (ai.dT w _ _ _) (by simp only[zU]; refine⟨⟨by omega,by omega⟩,⟨by omega,by omega⟩,z4⟩);have C:=xG false _ L (by unfold aE; simp);rw[M.out,J.out.1,J.out.2]at C;exact C
 rotate_left
 all_goals
  go_enter Tryz.func118,Tryz.ntmps118
  go_wp2_with fail
  refine(Z).mono ?_;rintro e w1 ⟨v1,rfl,H,st⟩;have X:=bA w st;have or:ai w1 w.heap.size 26 #[Cx false,Cq none 0 0]:=ai.aw st;clear st;have B:=X;clear X;obtain⟨N,T,fr,lr⟩:=or.s1;obtain⟨bb,ao,n,c,rfl⟩:=H.au;have HV:=C5 H;clear H
  go_wp2
  refine bodyPost_ret (by simp[results,Tryz.results118,go_sem,N,T,fr,lr]; rfl) rfl ?_;exact⟨_,rfl,(HV.out.aL or).ae ((Cp _ _).alloc (Cl _) _),zi⟩
theorem Ub (H:decide (x<0)=gx) (E:y=0\/decide (y<0)=gy) (h:gx=gy):zv gx (zh x+zh y)=x+y:=by
 have X:=zV x;have Y:=zV y;subst h;unfold zv
 cases gx
 . simp at H E; simp only[Bool.false_eq_true,if_false]; omega
 . simp at H E; simp only[if_true]; omega
theorem KI (H:decide (x<0)=gx) (E:y=0\/decide (y<0)=gy) (h:gx = !gy) (I:zh y<=zh x):zv gx (zh x-zh y)=x+y:=by
 have X:=zV x;have Y:=zV y;unfold zv
 cases gy
 . subst h; simp at H E; simp only[Bool.not_false,if_true]; omega
 . subst h; simp at H E; simp only[Bool.not_true,Bool.false_eq_true,if_false]; omega
theorem KJ (H:decide (x<0)=gx) (E:y=0\/decide (y<0)=gy) (h:gx = !gy) (I:zh x<zh y):zv gy (zh y-zh x)=x+y:=by
 have X:=zV x;have Y:=zV y;unfold zv
 cases gy
 . subst h; simp at H E; simp only[Bool.false_eq_true,if_false]; omega
 . subst h; simp at H E; simp only[if_true]; omega
theorem Xu {sb:Cd} (w:Cc) (ha:az w va x) (hb:aA w sb (zn (zh y))) (ci:y=0\/decide (y<0)=gy) (fx:fits x) (fy:fits y) :
  Cb Ch 180 #[va,.agg #[Cx gy,sb]] w fun e H=>∃v,e = Cg (Ck #[v,Cz Cv (qU (x+y))])/\az H v (xn (x+y))/\zf w H:=by
 obtain⟨aa,ca,rfl,pa⟩:=ha.parts;obtain⟨ab,cb,rfl⟩:=hb.au;have pb:=hb;unfold fits at fx fy;have nx:(zn (zh x)).length<=aE:=by unfold aE; omega
 have ny:(zn (zh y)).length<=aE:=by unfold aE; omega
 have vx:=zA (zt x);have vy:=zA (zt y);obtain⟨n,hn⟩:∃n,(zn (zh x)).length=n:=⟨_,rfl⟩;obtain⟨m,hm⟩:∃m,(zn (zh y)).length=m:=⟨_,rfl⟩;have dd:Hid ((zn (zh x)).length=n/\(zn (zh y)).length=m):=⟨hn,hm⟩;have HL:Hid (zj (zn (zh x))=zh x/\zj (zn (zh y))=zh y):=⟨vx,vy⟩;rw[hn]at pa|-;rw[hm]at pb|-;have X:=zV x;have Y:=zV y;obtain⟨gx,ce⟩:∃b,decide (x<0)=b:=⟨_,rfl⟩;rw[ce];have HS:Hid (decide (x<0)=gx/\(y=0\/decide (y<0)=gy)):=⟨ce,ci⟩;have HX:=C5 (C6 X Y);have HF:=C5 (C6 fx fy);clear ha hb hn hm ce ci X Y vx vy nx ny fx fy
 by_cases hs:gx=gy
 .
  subst hs
  have hz:∀l,zj l=zj (zn (zh x))+zj (zn (zh y))->zv gx (zj l)=x+y:=fun l h=>by
   rw[h,HL.out.1,HL.out.2];exact Ub HS.out.1 HS.out.2 rfl
  have Hz:=C5 hz;clear hz;obtain⟨c,hc⟩:∃c,zI (zh x) (zh y)=c:=⟨_,rfl⟩;have HC:=C5 hc;clear hc
  have b9:∀H,aA H (Cq aa n ca) (zn (zh x))->aA H (Cq ab m cb) (zn (zh y))->Cb Ch 136 #[Cq aa n ca,Cq ab m cb] H fun e w2=>e = Cg (Cz Cv c)/\zf H w2:=fun H h1 h2=>by
   have:=xY H h1 h2 (zt x) (zt y) (by have:=HF.out; unfold aE; omega) (by have:=HF.out; unfold aE; omega);rw[HC.out]at this;exact this
  go_enter Tryz.func180,Tryz.ntmps180
  go_wp2_with fail
  refine(b9 _ (pa.ae zi) (pb.ae zi)).mono ?_;rintro e w1 ⟨rfl,cg⟩;have st:zf _ w1:=cg;have Bn:=bA w st;have J:ai w1 w.heap.size 26 #[Cx gx,Cq aa n ca]:=ai.aw st;have I:ai w1 (w.heap.size+1) 26 #[Cx gx,Cq ab m cb]:=ai.aw st;have or:ai w1 (w.heap.size+1+1) 26 #[Cx false,Cq none 0 0]:=ai.aw st;clear st;have B:=Bn;clear Bn;obtain⟨ah,a9,fa,la⟩:=J.s1;obtain⟨T,M,fb,lb⟩:=I.s1;obtain⟨Z,N,fr,lr⟩:=or.s1;clear b9;go_wp2_with fail
  go_region_held3 (fun H=>H.cell? ⟨w.heap.size,0,none⟩=some (Cx gx)/\H.cell? ⟨w.heap.size,1,none⟩=some (Cq aa n ca)/\H.cell? ⟨w.heap.size+1,0,none⟩=some (Cx gx)/\H.cell? ⟨w.heap.size+1,1,none⟩=some (Cq ab m cb))
   ((refine⟨ai.c (t:=26) (cs:=#[Cx gx,Cq aa n ca]) ?_ 0 rfl,ai.c (t:=26) (cs:=#[Cx gx,Cq aa n ca]) ?_ 1 rfl,ai.c (t:=26) (cs:=#[Cx gx,Cq ab m cb]) ?_ 0 rfl,ai.c (t:=26) (cs:=#[Cx gx,Cq ab m cb]) ?_ 1 rfl⟩<;>(repeat' first | with_reducible assumption | (with_reducible refine ai.bO ?_; first | with_reducible rfl | (simp only[Co,World.size_setCell,World.size_drew]; done)) | with_reducible refine ai.alloc ?_ _ | with_reducible refine ai.drew ?_ | with_reducible refine ai.drewN ?_ _ | with_reducible apply ai.both | with_reducible refine ai.aG ?_ ?_ | (show _≠_; omega))))
   (first
    | ((go_at_call 159; refine(UU _ (pa.ae zi) (pb.ae zi) (by have:=HF.out; unfold aE; omega) (by have:=HF.out; unfold aE; omega)).mono ?_; rintro e E ⟨v1,l1,rfl,bi,bl,dc,be⟩; have d9:=C5 bl; clear bl; go_must (have st:zf _ E:=be; have Bn:=bA w st; have na:ai E w.heap.size 26 #[Cx gx,Cq aa n ca]:=ai.aw st; have nb:ai E (w.heap.size+1) 26 #[Cx gx,Cq ab m cb]:=ai.aw st; have nr:ai E (w.heap.size+1+1) 26 #[Cx false,Cq none 0 0]:=ai.aw st; clear B J I or ah a9 fa la T M fb lb Z N fr lr; clear st; have B:=Bn; clear Bn; have J:=na; clear na; have ah:Cn E ⟨w.heap.size,0,none⟩=some (Cx gx):=J.c 0 rfl; have a9:Cn E ⟨w.heap.size,1,none⟩=some (Cq aa n ca):=J.c 1 rfl; have fa:=J.fr; have la:=J.lt; have I:=nb; clear nb; have T:Cn E ⟨w.heap.size+1,0,none⟩=some (Cx gx):=I.c 0 rfl; have M:Cn E ⟨w.heap.size+1,1,none⟩=some (Cq ab m cb):=I.c 1 rfl; have fb:=I.fr; have lb:=I.lt; have or:=nr; clear nr; have Z:Cn E ⟨w.heap.size+1+1,0,none⟩=some (Cx false):=or.c 0 rfl; have N:Cn E ⟨w.heap.size+1+1,1,none⟩=some (Cq none 0 0):=or.c 1 rfl; have fr:=or.fr; have lr:=or.lt)))
    | ((go_at_call 94; refine(xG gx _ bi (by have:=HF.out; unfold aE; omega)).mono ?_; rintro e E ⟨v2,rfl,bf,be⟩; go_must (have st:zf _ E:=be; have Bn:=bA w st; have na:ai E w.heap.size 26 #[Cx gx,Cq aa n ca]:=ai.aw st; have nb:ai E (w.heap.size+1) 26 #[Cx gx,Cq ab m cb]:=ai.aw st; have nr:ai E (w.heap.size+1+1) 26 #[Cx false,Cq none 0 0]:=ai.aw st; clear B J I or ah a9 fa la T M fb lb Z N fr lr; clear st; have B:=Bn; clear Bn; have J:=na; clear na; have ah:Cn E ⟨w.heap.size,0,none⟩=some (Cx gx):=J.c 0 rfl; have a9:Cn E ⟨w.heap.size,1,none⟩=some (Cq aa n ca):=J.c 1 rfl; have fa:=J.fr; have la:=J.lt; have I:=nb; clear nb; have T:Cn E ⟨w.heap.size+1,0,none⟩=some (Cx gx):=I.c 0 rfl; have M:Cn E ⟨w.heap.size+1,1,none⟩=some (Cq ab m cb):=I.c 1 rfl; have fb:=I.fr; have lb:=I.lt; have or:=nr; clear nr; have Z:Cn E ⟨w.heap.size+1+1,0,none⟩=some (Cx false):=or.c 0 rfl; have N:Cn E ⟨w.heap.size+1+1,1,none⟩=some (Cq none 0 0):=or.c 1 rfl; have fr:=or.fr; have lr:=or.lt; obtain⟨bb,cx,n2,c2,rfl⟩:=bf.au))))
  have bt:=C5 bf;clear bf
  go_wp2
  refine bodyPost_ret (by simp[results,Tryz.results180,go_sem,ah,a9,fa,la,T,M,fb,lb,Z,N,fr,lr]; rfl) rfl ?_;have e:=Hz.out l1 d9.out;exact⟨_,Z9 rfl (by rw[e]),by rw[<- e]; exact bt.out.aL or,zi⟩
 .
  have bq:gx = !gy:=by cases gx<;>cases gy<;>simp_all
  obtain⟨c,hc⟩:∃c,zI (zh x) (zh y)=c:=⟨_,rfl⟩;have cc:=jf (zh x) (zh y);rw[hc]at cc;have CC:=C5 cc;have h0:=zt x;have cy:=zt y
  rcases Int.lt_or_le c 0 with cY | cY
  focus
   have bh:zh x<=zh y:=B_
   have hz:∀l,zj l=zh y-zh x->zv gy (zj l)=x+y:=fun l hl=>by
    rw[hl];exact KJ HS.out.1 HS.out.2 bq B_
   have bg:(zn (zh x)).length<=(zn (zh y)).length:=by
    rcases Nat.lt_or_ge (zn (zh y)).length (zn (zh x)).length with g | g
    . have:=z6 (zt y) (zt x) g; omega
    . exact g
   have Hz:=C5 hz;have HC:=C5 hc
   have mi:∀H,aA H (Cq aa n ca) (zn (zh x))->aA H (Cq ab m cb) (zn (zh y))->Cb Ch 160 #[Cq ab m cb,Cq aa n ca] H fun e w2=>∃v l,e = Cg v/\aA w2 v l/\Hid (zj l=zh y-zh x)/\l.length<=aE/\zf H w2:=fun H h1 h2=>by
    refine(Qh H h2 h1 (by have:=HF.out; unfold aE; omega) bg (by rw[HL.out.1,HL.out.2]; exact bh)).mono ?_;rintro e w2 ⟨v,l,e1,e2,e3,e4,e5⟩;rw[HL.out.1,HL.out.2]at e3;exact⟨v,l,e1,e2,e3,by have:=HF.out; unfold aE; omega,e5⟩
   have b9:∀H,aA H (Cq aa n ca) (zn (zh x))->aA H (Cq ab m cb) (zn (zh y))->Cb Ch 136 #[Cq aa n ca,Cq ab m cb] H fun e w2=>e = Cg (Cz Cv c)/\zf H w2:=fun H h1 h2=>by
    have:=xY H h1 h2 (zt x) (zt y) (by have:=HF.out; unfold aE; omega) (by have:=HF.out; unfold aE; omega);rw[HC.out]at this;exact this
   have cN:(gx==gy)=false:=by simp[hs]
   clear hz hc cc bh bg h0 cy bq hs
   go_enter Tryz.func180,Tryz.ntmps180
   go_wp2_with fail
   refine(b9 _ (pa.ae zi) (pb.ae zi)).mono ?_;rintro e w1 ⟨rfl,cg⟩;have st:zf _ w1:=cg;have Bn:=bA w st;have J:ai w1 w.heap.size 26 #[Cx gx,Cq aa n ca]:=ai.aw st;have I:ai w1 (w.heap.size+1) 26 #[Cx gy,Cq ab m cb]:=ai.aw st;have or:ai w1 (w.heap.size+1+1) 26 #[Cx false,Cq none 0 0]:=ai.aw st;clear st;have B:=Bn;clear Bn;obtain⟨ah,a9,fa,la⟩:=J.s1;obtain⟨T,M,fb,lb⟩:=I.s1;obtain⟨Z,N,fr,lr⟩:=or.s1;clear b9;go_wp2_with fail
   go_region_held3 (fun H=>H.cell? ⟨w.heap.size,0,none⟩=some (Cx gx)/\H.cell? ⟨w.heap.size,1,none⟩=some (Cq aa n ca)/\H.cell? ⟨w.heap.size+1,0,none⟩=some (Cx gy)/\H.cell? ⟨w.heap.size+1,1,none⟩=some (Cq ab m cb))
    ((refine⟨ai.c (t:=26) (cs:=#[Cx gx,Cq aa n ca]) ?_ 0 rfl,ai.c (t:=26) (cs:=#[Cx gx,Cq aa n ca]) ?_ 1 rfl,ai.c (t:=26) (cs:=#[Cx gy,Cq ab m cb]) ?_ 0 rfl,ai.c (t:=26) (cs:=#[Cx gy,Cq ab m cb]) ?_ 1 rfl⟩<;>(repeat' first | with_reducible assumption | (with_reducible refine ai.bO ?_; first | with_reducible rfl | (simp only[Co,World.size_setCell,World.size_drew]; done)) | with_reducible refine ai.alloc ?_ _ | with_reducible refine ai.drew ?_ | with_reducible refine ai.drewN ?_ _ | with_reducible apply ai.both | with_reducible refine ai.aG ?_ ?_ | (show _≠_; omega))))
    (first
     | ((go_at_call 160; refine(mi _ (pa.ae zi) (pb.ae zi)).mono ?_; rintro e E ⟨v1,l1,rfl,bi,bl,br,be⟩; go_must (have st:zf _ E:=be; have Bn:=bA w st; have na:ai E w.heap.size 26 #[Cx gx,Cq aa n ca]:=ai.aw st; have nb:ai E (w.heap.size+1) 26 #[Cx gy,Cq ab m cb]:=ai.aw st; have nr:ai E (w.heap.size+1+1) 26 #[Cx false,Cq none 0 0]:=ai.aw st; clear B J I or ah a9 fa la T M fb lb Z N fr lr; clear st; have B:=Bn; clear Bn; have J:=na; clear na; have ah:Cn E ⟨w.heap.size,0,none⟩=some (Cx gx):=J.c 0 rfl; have a9:Cn E ⟨w.heap.size,1,none⟩=some (Cq aa n ca):=J.c 1 rfl; have fa:=J.fr; have la:=J.lt; have I:=nb; clear nb; have T:Cn E ⟨w.heap.size+1,0,none⟩=some (Cx gy):=I.c 0 rfl; have M:Cn E ⟨w.heap.size+1,1,none⟩=some (Cq ab m cb):=I.c 1 rfl; have fb:=I.fr; have lb:=I.lt; have or:=nr; clear nr; have Z:Cn E ⟨w.heap.size+1+1,0,none⟩=some (Cx false):=or.c 0 rfl; have N:Cn E ⟨w.heap.size+1+1,1,none⟩=some (Cq none 0 0):=or.c 1 rfl; have fr:=or.fr; have lr:=or.lt)))
     | ((go_at_call 94; refine(xG gy _ bi br).mono ?_; rintro e E ⟨v2,rfl,bf,be⟩; go_must (have st:zf _ E:=be; have Bn:=bA w st; have na:ai E w.heap.size 26 #[Cx gx,Cq aa n ca]:=ai.aw st; have nb:ai E (w.heap.size+1) 26 #[Cx gy,Cq ab m cb]:=ai.aw st; have nr:ai E (w.heap.size+1+1) 26 #[Cx false,Cq none 0 0]:=ai.aw st; clear B J I or ah a9 fa la T M fb lb Z N fr lr; clear st; have B:=Bn; clear Bn; have J:=na; clear na; have ah:Cn E ⟨w.heap.size,0,none⟩=some (Cx gx):=J.c 0 rfl; have a9:Cn E ⟨w.heap.size,1,none⟩=some (Cq aa n ca):=J.c 1 rfl; have fa:=J.fr; have la:=J.lt; have I:=nb; clear nb; have T:Cn E ⟨w.heap.size+1,0,none⟩=some (Cx gy):=I.c 0 rfl; have M:Cn E ⟨w.heap.size+1,1,none⟩=some (Cq ab m cb):=I.c 1 rfl; have fb:=I.fr; have lb:=I.lt; have or:=nr; clear nr; have Z:Cn E ⟨w.heap.size+1+1,0,none⟩=some (Cx false):=or.c 0 rfl; have N:Cn E ⟨w.heap.size+1+1,1,none⟩=some (Cq none 0 0):=or.c 1 rfl; have fr:=or.fr; have lr:=or.lt; obtain⟨bb,cx,n2,c2,rfl⟩:=bf.au))))
  rotate_left
  focus
   have bh:zh y<=zh x:=B_
   have hz:∀l,zj l=zh x-zh y->zv gx (zj l)=x+y:=fun l hl=>by
    rw[hl];exact KI HS.out.1 HS.out.2 bq B_
   have bg:(zn (zh y)).length<=(zn (zh x)).length:=by
    rcases Nat.lt_or_ge (zn (zh x)).length (zn (zh y)).length with g | g
    . have:=z6 (zt x) (zt y) g; omega
    . exact g
   have Hz:=C5 hz;have HC:=C5 hc
   have mi:∀H,aA H (Cq aa n ca) (zn (zh x))->aA H (Cq ab m cb) (zn (zh y))->Cb Ch 160 #[Cq aa n ca,Cq ab m cb] H fun e w2=>∃v l,e = Cg v/\aA w2 v l/\Hid (zj l=zh x-zh y)/\l.length<=aE/\zf H w2:=fun H h1 h2=>by
    refine(Qh H h1 h2 (by have:=HF.out; unfold aE; omega) bg (by rw[HL.out.1,HL.out.2]; exact bh)).mono ?_;rintro e w2 ⟨v,l,e1,e2,e3,e4,e5⟩;rw[HL.out.1,HL.out.2]at e3;exact⟨v,l,e1,e2,e3,by have:=HF.out; unfold aE; omega,e5⟩
   have b9:∀H,aA H (Cq aa n ca) (zn (zh x))->aA H (Cq ab m cb) (zn (zh y))->Cb Ch 136 #[Cq aa n ca,Cq ab m cb] H fun e w2=>e = Cg (Cz Cv c)/\zf H w2:=fun H h1 h2=>by
    have:=xY H h1 h2 (zt x) (zt y) (by have:=HF.out; unfold aE; omega) (by have:=HF.out; unfold aE; omega);rw[HC.out]at this;exact this
   have cN:(gx==gy)=false:=by simp[hs]
   clear hz hc cc bh bg h0 cy bq hs
   go_enter Tryz.func180,Tryz.ntmps180
   go_wp2_with fail
   refine(b9 _ (pa.ae zi) (pb.ae zi)).mono ?_;rintro e w1 ⟨rfl,st⟩;have Bn:=bA w st;have J:ai w1 w.heap.size 26 #[Cx gx,Cq aa n ca]:=ai.aw st;have I:ai w1 (w.heap.size+1) 26 #[Cx gy,Cq ab m cb]:=ai.aw st;have or:ai w1 (w.heap.size+1+1) 26 #[Cx false,Cq none 0 0]:=ai.aw st;clear st;have B:=Bn;clear Bn;obtain⟨ah,a9,fa,la⟩:=J.s1;obtain⟨T,M,fb,lb⟩:=I.s1;obtain⟨Z,N,fr,lr⟩:=or.s1;clear b9;go_wp2_with fail
   go_region_held3 (fun H=>H.cell? ⟨w.heap.size,0,none⟩=some (Cx gx)/\H.cell? ⟨w.heap.size,1,none⟩=some (Cq aa n ca)/\H.cell? ⟨w.heap.size+1,0,none⟩=some (Cx gy)/\H.cell? ⟨w.heap.size+1,1,none⟩=some (Cq ab m cb))
    ((refine⟨ai.c (t:=26) (cs:=#[Cx gx,Cq aa n ca]) ?_ 0 rfl,ai.c (t:=26) (cs:=#[Cx gx,Cq aa n ca]) ?_ 1 rfl,ai.c (t:=26) (cs:=#[Cx gy,Cq ab m cb]) ?_ 0 rfl,ai.c (t:=26) (cs:=#[Cx gy,Cq ab m cb]) ?_ 1 rfl⟩<;>(repeat' first | with_reducible assumption | (with_reducible refine ai.bO ?_; first | with_reducible rfl | (simp only[Co,World.size_setCell,World.size_drew]; done)) | with_reducible refine ai.alloc ?_ _ | with_reducible refine ai.drew ?_ | with_reducible refine ai.drewN ?_ _ | with_reducible apply ai.both | with_reducible refine ai.aG ?_ ?_ | (show _≠_; omega))))
    (first
     | ((go_at_call 160; refine(mi _ (pa.ae zi) (pb.ae zi)).mono ?_; rintro e E ⟨v1,l1,rfl,bi,bl,br,be⟩; go_must (have st:zf _ E:=be; have Bn:=bA w st; have na:ai E w.heap.size 26 #[Cx gx,Cq aa n ca]:=ai.aw st; have nb:ai E (w.heap.size+1) 26 #[Cx gy,Cq ab m cb]:=ai.aw st; have nr:ai E (w.heap.size+1+1) 26 #[Cx false,Cq none 0 0]:=ai.aw st; clear B J I or ah a9 fa la T M fb lb Z N fr lr; clear st; have B:=Bn; clear Bn; have J:=na; clear na; have ah:Cn E ⟨w.heap.size,0,none⟩=some (Cx gx):=J.c 0 rfl; have a9:Cn E ⟨w.heap.size,1,none⟩=some (Cq aa n ca):=J.c 1 rfl; have fa:=J.fr; have la:=J.lt; have I:=nb; clear nb; have T:Cn E ⟨w.heap.size+1,0,none⟩=some (Cx gy):=I.c 0 rfl; have M:Cn E ⟨w.heap.size+1,1,none⟩=some (Cq ab m cb):=I.c 1 rfl; have fb:=I.fr; have lb:=I.lt; have or:=nr; clear nr; have Z:Cn E ⟨w.heap.size+1+1,0,none⟩=some (Cx false):=or.c 0 rfl; have N:Cn E ⟨w.heap.size+1+1,1,none⟩=some (Cq none 0 0):=or.c 1 rfl; have fr:=or.fr; have lr:=or.lt)))
     | ((go_at_call 94; refine(xG gx _ bi br).mono ?_; rintro e E ⟨v2,rfl,bf,be⟩; go_must (have st:zf _ E:=be; have Bn:=bA w st; have na:ai E w.heap.size 26 #[Cx gx,Cq aa n ca]:=ai.aw st; have nb:ai E (w.heap.size+1) 26 #[Cx gy,Cq ab m cb]:=ai.aw st; have nr:ai E (w.heap.size+1+1) 26 #[Cx false,Cq none 0 0]:=ai.aw st; clear B J I or ah a9 fa la T M fb lb Z N fr lr; clear st; have B:=Bn; clear Bn; have J:=na; clear na; have ah:Cn E ⟨w.heap.size,0,none⟩=some (Cx gx):=J.c 0 rfl; have a9:Cn E ⟨w.heap.size,1,none⟩=some (Cq aa n ca):=J.c 1 rfl; have fa:=J.fr; have la:=J.lt; have I:=nb; clear nb; have T:Cn E ⟨w.heap.size+1,0,none⟩=some (Cx gy):=I.c 0 rfl; have M:Cn E ⟨w.heap.size+1,1,none⟩=some (Cq ab m cb):=I.c 1 rfl; have fb:=I.fr; have lb:=I.lt; have or:=nr; clear nr; have Z:Cn E ⟨w.heap.size+1+1,0,none⟩=some (Cx false):=or.c 0 rfl; have N:Cn E ⟨w.heap.size+1+1,1,none⟩=some (Cq none 0 0):=or.c 1 rfl; have fr:=or.fr; have lr:=or.lt; obtain⟨bb,cx,n2,c2,rfl⟩:=bf.au))))
  rotate_left
  all_goals
   have bt:=C5 bf;clear bf
   go_wp2
   refine bodyPost_ret (by simp[results,Tryz.results180,go_sem,ah,a9,fa,la,T,M,fb,lb,Z,N,fr,lr]; rfl) rfl ?_;have ez:=Hz.out l1 bl.out;exact⟨_,Z9 rfl (by rw[ez]),by have:=bt.out; rw[ez]at this; exact this.aL or,zi⟩
theorem Hc {H:Cd} (w:Cc) (I:az w va x) (N:az w H y) (M:fits x) (T:fits y) :
  Cb Ch 180 #[va,H] w fun e E=>∃v,e = Cg (Ck #[v,Cz Cv (qU (x+y))])/\az E v (xn (x+y))/\zf w E:=by
 obtain⟨X,rfl,J⟩:=N;exact Xu w I J (.inr rfl) M T
end
section
open Go.RowKit Go.Shelf
variable {s:Nat}
attribute [local go_sem] Oper.semAt_some
theorem Z' {t:Int} (h0:0<=t) (H:t<18446744073709551616) (E:s<=31):bits .and Cu t (((2^s:Nat):Int)-1)=t%((2^s:Nat):Int):=by
 obtain⟨n,rfl⟩:=Int.eq_ofNat_of_zero_le h0;have p0:=Nat.one_le_two_pow (n:=s);have p1:=Nat.pow_le_pow_right (show 0<2 by omega) E;rw[show (((2^s:Nat):Int)-1)=((2^s-1:Nat):Int) by omega,bits_and_u64_nat _ _ B_ B_,Nat.and_two_pow_sub_one_eq_mod];rfl
theorem Wq (a:Option Addr) (c:Nat) (f:Cd) (w:Cc):Cb Ch 195 #[Cq a 0 c,f] w fun e E=>e = Cg (Cz Cv (-1))/\E=w:=by
 go_enter Tryz.func195,Tryz.ntmps195
 go_wp2
 go_loopw [8] (fun i wr=>i = Cz Cv 0/\wr=w) (fun _ _=>0)
 case atStart=>exact⟨rfl,rfl⟩
 case round=>
  obtain⟨rfl,rfl⟩:=hrel
  go_wp2
  go_returns
  exact⟨rfl,rfl⟩
theorem JO (a:Option Addr) (c:Nat) (f:Cd) (w:Cc):Cb Ch 189 #[Cq a 0 c,f] w fun e E=>e = Cg (Cx false)/\E=w:=by
 go_enter Tryz.func189,Tryz.ntmps189
 go_wp2_with (go_at_call 195; refine(Wq _ _ _ _).mono ?_; rintro e E ⟨rfl,rfl⟩)
 go_returns
 exact⟨rfl,rfl⟩
def UX (p:Addr) (x:Cd) (b:Bool) (W:Cc):Cc:=match b with | true=>W.setCell p x | false=>W
theorem vZ {p z:Addr} {x:Cd} {b:Bool} {W:Cc} (E:z.block≠p.block):(UX p x b W).cell? z=W.cell? z:=by
 cases b
 . rfl
 . exact World.cell?_of_block (Below.heap_setCell _ _ _ _ E)
theorem Ws {a:Cd} {A:List Int} (w:Cc) (ha:aA w a A) (nA:A.length<=aE) (hs:s<=31) :
  Cb Ch 165 #[a,Cz Cv s] w fun e w'=>∃q qs,e = Cg (Ck #[q,Cx (decide (0<zj A%(2^s:Nat)))])/\aA w' q qs/\zj qs=zj A / (2^s:Nat)/\yn qs/\qs.length=A.length/\zf w w':=by
 obtain⟨aa,ca,rfl⟩:=ha.au;obtain⟨oa,-,la,fa⟩:=ha.cells;obtain⟨len,bf⟩:∃n,A.length=n:=⟨_,rfl⟩;have HA:=C5 ha;rw[bf]at la fa nA|-;have cN:=xE len (by unfold aE at nA; omega);have bh:Fence.wide.round=none:=rfl;obtain⟨d,hd⟩:∃P,((2^s:Nat):Int)=P:=⟨_,rfl⟩;have d0:1<=d:=by have:=Nat.one_le_two_pow (n:=s); omega
 have d1:d<=2147483648:=by have:=Nat.pow_le_pow_right (show 0<2 by omega) hs; simp at this; omega
 have HD:Hid (((2^s:Nat):Int)=d):=hd;rw[hd];clear hd;have hq:(s:Int).tdiv 32=0:=Int.tdiv_eq_zero_of_lt B_ B_;have N:(s:Int).tmod 32=s:=Int.tmod_eq_of_lt B_ B_;have ek:(s:Int) / 32=0:=B_
 have eF:(s:Int)%32=s:=B_
 have em:wrap64 (len:Int)=len:=by unfold aE at nA; unfold wrap64; omega
 refine(callsIn_wide (n:=3)).1 ?_;refine callsIn_of_wp_marks Tryz.func165 rfl trivial ?_ bh;simp only[Tryz.ntmps165,List.size_toArray,List.length_cons,List.length_nil,Nat.reduceAdd,Nat.reduceSub,Array.replicate_succ,Array.replicate_zero,List.push_toArray,List.append_toArray,List.nil_append,List.cons_append]
 gi_wp2_with (first
  | (refine⟨trivial,?_⟩; gi_at_call 189; refine(callsIn_wide.2 (JO _ _ _ _)).mono ?_; rintro e w' ⟨rfl,rfl⟩)
  | (refine⟨trivial,?_⟩; gi_at_call 166; refine(YK Fence.wide 2 trivial bh _ _ _ _).mono ?_; rintro e w' ⟨rfl,rfl⟩))
 have b1:=Boxed.new w 3 (Cz Cv s)
 have b2:ai ((w.alloc (.cells #[Cz Cv s] 3)).alloc (.cells (madeCells #[Cz Cw 0] len) 172)) (w.heap.size+1) 172 (zH (List.replicate len 0)).toArray:=by
  have:=ai.dT w (.cells #[Cz Cv s] 3) 172 (madeCells #[Cz Cw 0] len);rw[yt]at this|-;exact this
 have b3:=Boxed.new ((w.alloc (.cells #[Cz Cv s] 3)).alloc (.cells (madeCells #[Cz Cw 0] len) 172)) 24 (Cq (some ⟨w.heap.size+1,0,none⟩) len len);have b4:=Boxed.new (((w.alloc (.cells #[Cz Cv s] 3)).alloc (.cells (madeCells #[Cz Cw 0] len) 172)).alloc (.cells #[Cq (some ⟨w.heap.size+1,0,none⟩) len len] 24)) 182 (Cz Cu 0);have b5:=Boxed.new ((((w.alloc (.cells #[Cz Cv s] 3)).alloc (.cells (madeCells #[Cz Cw 0] len) 172)).alloc (.cells #[Cq (some ⟨w.heap.size+1,0,none⟩) len len] 24)).alloc (.cells #[Cz Cu 0] 182)) 24 (Cq aa len ca);simp only[Co]at b3 b4 b5;have bi:Below w.heap.size w (((((w.alloc (.cells #[Cz Cv s] 3)).alloc (.cells (madeCells #[Cz Cw 0] len) 172)).alloc (.cells #[Cq (some ⟨w.heap.size+1,0,none⟩) len len] 24)).alloc (.cells #[Cz Cu 0] 182)).alloc (.cells #[Cq aa len ca] 24)):=(((((Cp _ w).alloc (Cl _) _).alloc C3 _).alloc (by simp; omega) _).alloc (by simp; omega) _).alloc (by simp; omega) _
 have cg:0<len->∃b o,aa=some ⟨b,o,none⟩/\b<w.heap.size/\Cells (((((w.alloc (.cells #[Cz Cv s] 3)).alloc (.cells (madeCells #[Cz Cw 0] len) 172)).alloc (.cells #[Cq (some ⟨w.heap.size+1,0,none⟩) len len] 24)).alloc (.cells #[Cz Cu 0] 182)).alloc (.cells #[Cq aa len ca] 24)) b o A:=fun h=>by
  obtain⟨b,o,e,hb,hc⟩:=fa h;exact⟨b,o,e,hb,hc.below bi hb⟩
 have SO:=fun pre=>Kz (n:=len) d0 (show d<4294967296 by omega) oa pre
 refine wpIn_rangeFunc_ownG bh (show 1<=3 by omega) (gf:=191) (lb:=#[Cj (some ⟨w.heap.size+1+1+1+1,0,none⟩)]) rfl trivial (enters_of Tryz.func191 B' rfl)
  (vz Fence.wide 2 trivial bh B_ (w.heap.size+1+1+1+1) w.heap.size aa ca len A bf nA _ C3 (by simp; omega) b5.cell cg) KD.trans (Wo (by simp; omega) C3) (Cp _ _) (fun _=>rfl)
  (fun(pre:List (Fin len)) W=>(ai W (w.heap.size+1) 172 (zH (j7 d A len pre).1).toArray/\W.cell? ⟨w.heap.size,0,none⟩=some (Cz Cv s)/\W.cell? ⟨w.heap.size+1+1,0,none⟩=some (Cq (some ⟨w.heap.size+1,0,none⟩) len len)/\W.cell? ⟨w.heap.size+1+1+1,0,none⟩=some (Cz Cu (j7 d A len pre).2)/\W.frozen? ⟨w.heap.size+1+1+1,0,none⟩=false)/\Below w.heap.size w W)
  (fun _ _ _=>False)
  (OwnFrom.and (Own.from (fun s A B row hs hg N=>⟨zZ hs.1 hg N,cell_kept hs.2.1 hg N,cell_kept hs.2.2.1 hg N,cell_kept hs.2.2.2.1 hg N,(frozen_kept hs.2.2.2.1 hg N).trans hs.2.2.2.2⟩) _) (ownFrom_below (Cl _) (by simp; omega)))
  (fun _ _ _ _ _ hs _ _=>hs)
  ⟨⟨((b2.alloc _).alloc _).alloc _,(((((b1.alloc _).alloc _).alloc _).alloc _)).cell,((b3.alloc _).alloc _).cell,(b4.alloc _).cell,(b4.alloc _).frozen⟩,bi⟩
  (fun x=>{ tmps:=#[Cq aa len ca,Cz Cv s,Cf,Cj (some ⟨w.heap.size,0,none⟩),Cq none 0 0,Cx false,Cz Cv 0,Cx false,Cj (some ⟨w.heap.size+1+1,0,none⟩),Cj (some ⟨w.heap.size+1+1+1,0,none⟩),Cz Cv ((x:Nat):Int),Cz Cw (A.getD x 0),Cz Cv s,Cz Cv 0,Cq aa len ca,Cz Cv len,Cz Cv 0,Cq aa len ca,Cz Cv 0,Cq aa 0 ca,Cx false,Cq aa len ca,Cz Cv len,Cz Cv 0,Cz Cv len,Cq (some ⟨w.heap.size+1,0,none⟩) len len,Cq aa len ca,Cz Cv 0,Cq aa len ca,.func (.func 191) #[] #[Cj (some ⟨w.heap.size+1+1+1+1,0,none⟩)],Cz Cv ((x:Nat):Int),Cz Cw (A.getD x 0),Cf,Cf,Cf,Cf,Cf,Cf,Cf,Cf,Cf,Cf,Cf,Cf,Cf,Cf,Cf,Cf,Cf,Cf,Cf,Cf,Cf,Cf,Cf,Cf,Cf],defers:= [] }) ?assign ?body ?done ?stop
 case assign=>
  intro l x W K E;dsimp only[Xn];obtain⟨u,hu⟩:∃u,A.getD (x:Nat) 0=u:=⟨_,rfl⟩;simp only[hu]at E|-;clear hu
  gi_wp2
  exact E
 case body=>
  rintro l pre x W ⟨⟨hb,ce,ci,ah,cy⟩,hB⟩ _;obtain⟨i,hi⟩:=x;have S1:=SO pre;obtain⟨u,hu⟩:∃u,A.getD i 0=u:=⟨_,rfl⟩;obtain⟨r,N⟩:∃r,(j7 d A len pre).2=r:=⟨_,rfl⟩;have u0:=zF oa i;rw[hu]at u0;rw[N]at ah S1;have r0:=S1.2.2.1;have r1:=S1.2.2.2;have dc:W.cell? ⟨w.heap.size+1,i,none⟩=some (Cz Cw ((j7 d A len pre).1.getD i 0)):=hb.c _ (by simpa using xy (j7 d A len pre).1 i B_);obtain⟨v,hv⟩:∃v,(j7 d A len pre).1.getD i 0=v:=⟨_,rfl⟩;rw[hv]at dc;have dl:W.frozen? ⟨w.heap.size+1,i,none⟩=false:=hb.fr _
  have z1:w.heap.size+1+1+1<W.heap.size:=by
   rcases Nat.lt_or_ge (w.heap.size+1+1+1) W.heap.size with h | h
   . exact h
   . simp[Cn,Array.getElem?_eq_none h]at ah
  obtain⟨T,hT⟩:∃T,r*4294967296+u=T:=⟨_,rfl⟩;have ec:bits .or Cu (r*4294967296) u=T:=by rw[<- hT]; exact jx (s:=32) r0 u0.1 (by simpa using u0.2) (by simp; omega)
  obtain⟨Q,Z⟩:∃Q,T / d=Q:=⟨_,rfl⟩;obtain⟨R,be⟩:∃R,T%d=R:=⟨_,rfl⟩
  have d9:0<=T/\T<9223372036854775808:=by
   have:=Int.mul_le_mul_of_nonneg_right (show r<=2147483647 by omega) (show (0:Int)<=4294967296 by omega);omega
  have Q0:0<=Q:=by rw[<- Z]; exact Int.ediv_nonneg d9.1 B_
  have Q1:Q<4294967296:=by
   rw[<- Z];refine Int.ediv_lt_of_lt_mul B_ ?_;omega
  have eW:T / 2^s=Q:=by rw[<- Z,<- HD.out]; simp
  have dP:bits .and Cu T (d-1)=R:=by rw[<- be,<- HD.out]; exact Z' d9.1 B_ hs
  have eM:IntKind.u64.wrap (2^s:Int)=d:=by
   have e:(2^s:Int)=d:=by rw[<- HD.out]; simp
   rw[e,wrap_u64 B_ B_]
  have HH:=C5 (C6 hb (C6 hu (C6 N (C6 hT (C6 Z be)))));dsimp only;rw[hu];clear hb hu N hv cg fa b1 b2 b3 b4 b5 bi cN S1 hT Z be
  gi_wp2_with fail
  have e1:(W.setCell ⟨w.heap.size+1+1+1,0,none⟩ (Cz Cu T)).cell? ⟨w.heap.size,0,none⟩=some (Cz Cv s):=(World.cell?_of_block (Below.heap_setCell _ _ _ _ (by dsimp only; omega))).trans ce;have e2:(W.setCell ⟨w.heap.size+1+1+1,0,none⟩ (Cz Cu T)).cell? ⟨w.heap.size+1+1,0,none⟩=some (Cq (some ⟨w.heap.size+1,0,none⟩) len len):=(World.cell?_of_block (Below.heap_setCell _ _ _ _ (by dsimp only; omega))).trans ci;have e3:(W.setCell ⟨w.heap.size+1+1+1,0,none⟩ (Cz Cu T)).cell? ⟨w.heap.size+1+1+1,0,none⟩=some (Cz Cu T):=World.cell?_setCell_same' _ _ _ (by rw[ah]; rfl);have e4:(W.setCell ⟨w.heap.size+1+1+1,0,none⟩ (Cz Cu T)).cell? ⟨w.heap.size+1,i,none⟩=some (Cz Cw v):=(World.cell?_of_block (Below.heap_setCell _ _ _ _ (by dsimp only; omega))).trans dc;have e5:(W.setCell ⟨w.heap.size+1+1+1,0,none⟩ (Cz Cu T)).frozen? ⟨w.heap.size+1,i,none⟩=false:=(World.frozen?_setCell _ _ _ _).trans dl;have e6:(W.setCell ⟨w.heap.size+1+1+1,0,none⟩ (Cz Cu T)).frozen? ⟨w.heap.size+1+1+1,0,none⟩=false:=(World.frozen?_setCell _ _ _ _).trans cy;obtain⟨W1,bl⟩:∃X,W.setCell ⟨w.heap.size+1+1+1,0,none⟩ (Cz Cu T)=X:=⟨_,rfl⟩;rw[bl]at e1 e2 e3 e4 e5 e6|-;have bq:=C5 bl;clear bl
  refine qz (fun D _ I=>∃m,I=(UX ⟨w.heap.size+1,i,none⟩ (Cz Cw Q) (D 8) W1).drewN m)
   (aj.inl [8]) (aj.ge []) aj.aU (fun _=>aj.Any) (fun _ _=>False) (aj.pl []) (aj.pl [])
   B' B' B' B' (aj.bX _) (fun v=> ?_) (fun _ _ _ _ _ h=>h) (fun _ _ _ _ _ _ _ _ _ _ _ _ _=>aj.none_) (fun _ _ _ _ h=>h.elim) (fun a9 Q' b9 hQ=> ?_)
  . exact⟨1,rfl⟩
  apply aj.RP rfl rfl rfl 37 rfl rfl
  .
   intro D v' I hc H hf K E;obtain⟨m,rfl⟩:=H;have c1:=(vZ (p:=⟨w.heap.size+1,i,none⟩) (x:=(Cz Cw Q)) (b:=D 8) (W:=W1) (z:=⟨w.heap.size+1+1,0,none⟩) (by dsimp only; omega));rw[e2]at c1;go_step;exact E.out
  . rfl
  refine aj.aK 38 ?_;apply aj.RP rfl rfl rfl 39 rfl rfl
  .
   intro D v' I hc H hf K E;obtain⟨m,rfl⟩:=H;have c1:=(vZ (p:=⟨w.heap.size+1,i,none⟩) (x:=(Cz Cw Q)) (b:=D 8) (W:=W1) (z:=⟨w.heap.size+1+1+1,0,none⟩) (by dsimp only; omega));rw[e3]at c1;go_step;exact E.out
  . rfl
  apply aj.RP rfl rfl rfl 40 rfl rfl
  .
   intro D v' I hc H hf K E;obtain⟨m,rfl⟩:=H;have c1:=(vZ (p:=⟨w.heap.size+1,i,none⟩) (x:=(Cz Cw Q)) (b:=D 8) (W:=W1) (z:=⟨w.heap.size,0,none⟩) (by dsimp only; omega));rw[e1]at c1;go_step;exact E.out
  . rfl
  repeat refine aj.aK _ ?_
  refine aj.dE (fun D v' I hc H hf K E=> ?_) (fun _ _=>aj.aD (b:=⟨_,[]⟩) rfl ?_)
  .
   obtain⟨m,rfl⟩:=H;have br:D 8=false:=hc.1;rw[br];have c1:((UX ⟨w.heap.size+1,i,none⟩ (Cz Cw Q) false W1).drewN m).cell? ⟨w.heap.size+1,i,none⟩=_:=e4;have c2:((UX ⟨w.heap.size+1,i,none⟩ (Cz Cw Q) false W1).drewN m).frozen? ⟨w.heap.size+1,i,none⟩=_:=e5;go_step;exact E.out Cf _ aj.any ⟨m,rfl⟩ aj.none_ trivial
  refine aj.aH (fun D v' I hd H hf=> ?_);obtain⟨m,J⟩:=H;rw[hd 8 C0]at J;replace J:I=(W1.setCell ⟨w.heap.size+1,i,none⟩ (Cz Cw Q)).drewN m:=J;clear hd hf;refine hQ _ _ ?_;clear hQ b9 Q' a9;have f1:I.cell? ⟨w.heap.size,0,none⟩=some (Cz Cv s):=by rw[J]; exact(World.cell?_of_block (Below.heap_setCell _ _ _ _ (by dsimp only; omega))).trans e1
  have f3:I.cell? ⟨w.heap.size+1+1+1,0,none⟩=some (Cz Cu T):=by rw[J]; exact(World.cell?_of_block (Below.heap_setCell _ _ _ _ (by dsimp only; omega))).trans e3
  have f6:I.frozen? ⟨w.heap.size+1+1+1,0,none⟩=false:=by rw[J]; exact(World.frozen?_setCell _ _ _ _).trans e6
  have bg:=C5 J;clear J e1 e2 e3 e4 e5 e6
  gi_wp2_with fail
  refine qz (fun D _ Y=>∃m,Y=(UX ⟨w.heap.size+1+1+1,0,none⟩ (Cz Cu R) (D 6) I).drewN m)
   (aj.inl [6]) (aj.ge []) aj.aU (fun _=>aj.Any) (fun _ _=>False) (aj.pl []) (aj.pl [(0,[6])])
   B' B' B' B' (aj.bX _) (fun v=> ?_) (fun _ _ _ _ _ h=>h) (fun _ _ _ _ _ _ _ _ _ _ _ _ _=>aj.none_) (fun _ _ _ _ h=>h.elim) (fun a9 Q' b9 hQ=> ?_)
  . exact⟨1,rfl⟩
  apply aj.RP rfl rfl rfl 45 rfl rfl
  .
   intro D v' Y hc H hf K E;obtain⟨m2,rfl⟩:=H;have cY:D 6=false:=hc.2 6 C0;have c1:(UX ⟨w.heap.size+1+1+1,0,none⟩ (Cz Cu R) (D 6) I).cell? ⟨w.heap.size+1+1+1,0,none⟩=some (Cz Cu T):=by rw[cY]; exact f3
   clear cY;go_step;exact E.out
  . rfl
  apply aj.RP rfl rfl rfl 46 rfl rfl
  .
   intro D v' Y hc H hf K E;obtain⟨m2,rfl⟩:=H;have c1:=(vZ (p:=⟨w.heap.size+1+1+1,0,none⟩) (x:=(Cz Cu R)) (b:=D 6) (W:=I) (z:=⟨w.heap.size,0,none⟩) (by dsimp only; omega));rw[f1]at c1;go_step;exact E.out
  . rfl
  apply aj.RP rfl rfl rfl 47 rfl rfl
  .
   intro D v' Y hc H hf K E;obtain⟨m2,rfl⟩:=H;go_step;exact E.out
  . rfl
  apply aj.RP rfl rfl rfl 48 rfl rfl
  .
   intro D v' Y hc H hf K E;obtain⟨m2,rfl⟩:=H;go_step;exact E.out
  . rfl
  apply aj.RP rfl rfl rfl 49 rfl rfl
  .
   intro D v' Y hc H hf K E;obtain⟨m2,rfl⟩:=H;go_step;exact E.out
  . rfl
  apply aj.RP rfl rfl rfl 50 rfl rfl
  .
   intro D v' Y hc H hf K E;obtain⟨m2,rfl⟩:=H;go_step;exact E.out
  . rfl
  refine aj.aB rfl (by intro t ht; cases ht) rfl (fun D v' Y hc H hf K E=> ?_) (fun _ _=>aj.aD (b:=⟨_,[]⟩) rfl ?_)
  .
   obtain⟨m2,rfl⟩:=H;have br:D 6=false:=hc.1;rw[br];have c1:((UX ⟨w.heap.size+1+1+1,0,none⟩ (Cz Cu R) false I).drewN m2).cell? ⟨w.heap.size+1+1+1,0,none⟩=_:=f3;have c2:((UX ⟨w.heap.size+1+1+1,0,none⟩ (Cz Cu R) false I).drewN m2).frozen? ⟨w.heap.size+1+1+1,0,none⟩=_:=f6;go_step;exact E.out Cf _ aj.any ⟨m2,rfl⟩ aj.none_ trivial
  refine aj.aH (fun D v' Y hd H hf=> ?_);obtain⟨m2,M⟩:=H;rw[hd 6 C0]at M;replace M:Y=(I.setCell ⟨w.heap.size+1+1+1,0,none⟩ (Cz Cu R)).drewN m2:=M;clear hd hf;refine hQ _ _ ?_;clear hQ b9 Q' a9
  gi_wp2
  obtain⟨dx,hu,N,hT,Z,be⟩:=HH.out;have dy:=(SO pre).1;have SN:=Zw d A len pre ⟨i,hi⟩;have K1:KeepsOthers W W1:=by rw[<- bq.out]; exact KeepsOthers.setCell W ⟨w.heap.size+1+1+1,0,none⟩ (Cz Cu T)
  have K2:KeepsOthers W1 I:=by
   rw[bg.out];have:=KeepsOthers.setCell W1 ⟨w.heap.size+1,i,none⟩ (Cz Cw Q);exact⟨this.size,this.same⟩
  have K3:KeepsOthers I Y:=by
   rw[M];have:=KeepsOthers.setCell I ⟨w.heap.size+1+1+1,0,none⟩ (Cz Cu R);exact⟨this.size,this.same⟩
  have k1:KeepsOthers W Y:=(K1.trans K2).trans K3;have q1:∀k,k≠w.heap.size+1+1+1->W1.heap[k]? = W.heap[k]? :=fun k h=>by rw[<- bq.out]; exact Below.heap_setCell _ _ _ _ h
  have q2:∀k,k≠w.heap.size+1->I.heap[k]? = W1.heap[k]? :=fun k h=>by rw[bg.out]; exact Below.heap_setCell _ _ _ _ h
  have q3:∀k,k≠w.heap.size+1+1+1->Y.heap[k]? = I.heap[k]? :=fun k h=>by rw[M]; exact Below.heap_setCell _ _ _ _ h
  have k3:∀k,k≠w.heap.size+1->k≠w.heap.size+1+1+1->Y.heap[k]? = W.heap[k]? :=fun k h1 h2=>(q3 k h2).trans ((q2 k h1).trans (q1 k h2))
  have k2:KD w.heap.size (w.heap.size+1+1+1+1) W Y:=by
   refine⟨?_,k3 _ B_ B_⟩;rw[M];refine yD (Below.setCell (p:=⟨w.heap.size+1+1+1,0,none⟩) ?_ (show w.heap.size<=w.heap.size+1+1+1 by omega) _) m2;rw[bg.out];refine yD (Below.setCell (p:=⟨w.heap.size+1,i,none⟩) ?_ (show w.heap.size<=w.heap.size+1 by omega) _) m;rw[<- bq.out];exact(Cp w.heap.size W).setCell (p:=⟨w.heap.size+1+1+1,0,none⟩) (show w.heap.size<=w.heap.size+1+1+1 by omega) _
  refine⟨k1.from _,k2,⟨?_,?_,?_,?_,?_⟩,hB.trans k2.1⟩
  .
   rw[SN];have dk:ai W1 (w.heap.size+1) 172 (zH (j7 d A len pre).1).toArray:=(q1 _ B_).trans dx;have cx:=(dk.bI i (Cz Cw Q)).drewN m;rw[<- bg.out]at cx;have dd:ai Y (w.heap.size+1) 172 _:=(q3 _ B_).trans cx;dsimp only[jr];rw[N,hu,hT,Z];rw[show (zH (j7 d A len pre).1).toArray.setIfInBounds i (Cz Cw Q)=(zH ((j7 d A len pre).1.set i Q)).toArray by simp[zH,List.map_set]]at dd;exact dd
  . exact(World.cell?_of_block (a:=⟨w.heap.size,0,none⟩) (k3 w.heap.size B_ B_)).trans ce
  . exact(World.cell?_of_block (a:=⟨w.heap.size+1+1,0,none⟩) (k3 (w.heap.size+1+1) B_ B_)).trans ci
  .
   rw[SN,M];dsimp only[jr];rw[N,hu,hT,be];exact World.cell?_setCell_same' _ _ _ (by rw[f3]; rfl)
  .
   rw[M];exact(World.frozen?_setCell _ _ _ _).trans f6
 case done=>
  rintro D ys W hD rfl ⟨⟨hb,ce,ci,ah,cy⟩,hB⟩ E;have er:D<W.heap.size:=(Array.getElem?_eq_some_iff.1 E).1;obtain⟨qs,f1,f2,f3⟩:=Ym (d:=d) bf d0 len (Cl _);rw[Nat.sub_self,List.replicate_zero,List.nil_append]at f1;rw[Nat.sub_self,List.drop_zero]at f3;have S1:=SO (yA len len (Cl _));obtain⟨r,N⟩:∃r,(j7 d A len (yA len len (Cl _))).2=r:=⟨_,rfl⟩;rw[N]at ah f3 S1;rw[f1]at hb S1;have QR:=jc f3 S1.2.2.1 S1.2.2.2
  have LQ:aA W (Cq (some ⟨w.heap.size+1,0,none⟩) len len) qs:=by
   have:=aA.aY hb S1.2.1;rw[f2]at this;exact this
  have HQ:=C5 (C6 QR (C6 S1.2.1 f2));have HB:=C5 hB;have HK:=C5 E;clear hb N f1 f3 S1 QR hB E cg fa b1 b2 b3 b4 b5 bi cN SO
  gi_wp2_with fail
  refine wpIn_wide.2 ?_;go_wp2_with fail
  go_quiet (fail)
  gi_wp2
  have bt:(W.drewN nq).heap[D]? = some (.deferred (some [])):=HK.out;refine⟨by simp,.inl ⟨_,_,rfl,run_takeDeferred bt,?_⟩⟩;refine⟨Ck #[Cq (some ⟨w.heap.size+1,0,none⟩) len len,Cx (decide (0<r))],?_,Cq (some ⟨w.heap.size+1,0,none⟩) len len,qs,?_,?_,?_,?_,?_,?_⟩
  . simp[results,Tryz.f165,go_sem]
  . rw[HQ.out.1.2]
  . exact jA (A:=W.drewN nq) LQ (grownBy_putObj' _ D (.deferred none)) (fun r e=>by cases e; exact⟨_,bt,rfl⟩)
  . exact HQ.out.1.1.symm
  . exact HQ.out.2.1
  . exact HQ.out.2.2
  . exact(zp (W:=W.drewN nq) (yD HB.out nq) (Cl _) (Cp _ _)).trans (belowK_b (w:=w) (Cl _) _ D _ _ (by simp at hD; omega) bt rfl rfl)
 case stop=>
  rintro D c pre W _ _ h _;exact h.elim
end
section
open Go.RowKit
variable {P:Int} {n:Nat} {x:Cd} {W w1:Cc}
def bT (w1 W:Cc) (x:Cd) (n:Nat) (P:Int):Prop:=∃g cap post L,x = Cq (some ⟨g,0,none⟩) n cap/\w1.heap.size<=g/\n<=cap/\yn L/\L.length=n/\zj L=P/\ai W g 172 (xC [] L post)
theorem bT.ae {E:Cc} (h:bT w1 W x n P) (Y:zf W E):bT w1 E x n P:=by
 obtain⟨g,cap,post,L,N,X,H,J,T,M,I⟩:=h;exact⟨g,cap,post,L,N,X,H,J,T,M,I.ae Y⟩
def vE:Cd->Nat
 | Cq (some p) _ _=>p.block
 | _=>0
theorem bT.lt (h:bT w1 W x n P):vE x<W.heap.size:=by
 obtain⟨g,cap,post,L,rfl,-,-,-,-,-,E⟩:=h;exact E.lt
theorem bT.ge (h:bT w1 W x n P):w1.heap.size<=vE x:=by
 obtain⟨g,cap,post,L,rfl,h,-⟩:=h;exact h
def Wt (n:Nat) (x:Cd):Prop:=∃g cap,x = Cq (some ⟨g,0,none⟩) n cap/\n<=cap
theorem bT.fo (h:bT w1 W x n P):Wt n x:=by
 obtain⟨g,cap,post,L,rfl,-,h,-⟩:=h;exact⟨g,cap,rfl,h⟩
theorem bT.mono {E:Cc} (h:bT w1 W x n P) (hw:E.heap.size<=w1.heap.size):bT E W x n P:=by
 obtain⟨g,cap,post,L,J,I,H⟩:=h;exact⟨g,cap,post,L,J,Nat.le_trans hw I,H⟩
theorem YM {a d:Cd} {A D:Int} {m:Nat} (w:Cc) (ha:aA w a (zn A)) (hd:aA w d (zn D)) (A0:0<=A) (D0:1<=D) (fY:(zn A).length<=1000000) (nD:(zn D).length=m+2) (gF:D<=A) :
  Cb Ch 135 #[a,d] w fun e X=>∃q r,e = Cg (Ck #[q,r])/\aA X q (zn (A / D))/\aA X r (zn (A%D))/\zf w X:=by
 have nA:(zn A).length<=aE:=by unfold aE; omega
 have er:m+2<=(zn A).length:=by
  rcases Nat.lt_or_ge (zn A).length (m+2)with h | h
  . have:=z6 A0 (show 0<=D by omega) B_; omega
  . exact h
 obtain⟨K,hK⟩:∃K,(zn A).length+1=K+(m+2):=⟨(zn A).length+1-(m+2),by omega⟩;obtain⟨c,hc⟩:∃c,zI A D=c:=⟨_,rfl⟩
 have c0:0<=c:=by
  rw[<- hc]; unfold zI
  split
  . omega
  . rw[C8 B_]; omega
 have cc:Cb Ch 136 #[a,d] w fun e X=>e = Cg (Cz Cv c)/\zf w X:=by
  have:=xY w ha hd A0 B_ nA B_;rw[hc]at this;exact this
 have vD:=zA (show 0<=D by omega);have vA:=zA A0;have oD:=yX D;have oA:=yX A;have tD:=kQ (xx D) nD;obtain⟨Dl,ci⟩:∃l,zn D=l:=⟨_,rfl⟩;obtain⟨Al,dy⟩:∃l,zn A=l:=⟨_,rfl⟩;rw[ci]at hd vD oD tD nD;rw[dy]at ha vA oA nA fY hK er;obtain⟨t,ht⟩:∃t,Dl.getD (m+1) 0=t:=⟨_,rfl⟩;have t0:=zF oD (m+1);rw[ht]at t0 tD;have la:=hd;obtain⟨aa,ca,rfl⟩:=ha.au;obtain⟨ad,cd,rfl⟩:=hd.au;obtain⟨-,-,ld,fd⟩:=hd.cells;obtain⟨bd,f8,rfl,gi,gh⟩:=fd B_;have g0:=gh (m+1) B_;rw[ht]at g0;have lz:=fun X=>Ha t X B_ t0.2;have s0:∀sv:Nat,2147483648<=t*((2^sv:Nat):Int)->t*((2^sv:Nat):Int)<4294967296->sv<=31->Hid (2147483648<=t*((2^sv:Nat):Int)/\t*((2^sv:Nat):Int)<4294967296):=fun _ h1 h2 _=>⟨h1,h2⟩;have HA:=C5 ha;have HD:=C5 hd;obtain⟨nl,bt⟩:∃n,Al.length=n:=⟨_,rfl⟩;have Z:Hid (zj Dl=D/\zj Al=A/\yn Dl/\yn Al/\Dl.length=m+2/\Al.length=nl/\Dl.getD (m+1) 0=t):=⟨vD,vA,oD,oA,nD,bt,ht⟩;rw[bt]at nA fY er hK cc HA|-;rw[nD]at ld cc HD|-;have gG:=C5 ci;clear la ha hd fd gh vD vA oD oA nD bt ht ci dy hc tD t0;unfold aE at nA
 go_enter Tryz.func135,Tryz.ntmps135
 go_wp2_with (first
  | (go_at_call 136; refine cc.mono ?_; rintro e w1 ⟨rfl,Y⟩; have g1:=(Y.cell (p:=⟨bd,f8+(m+1),none⟩) gi).trans g0)
  | (go_at_call 162; refine(lz _).mono ?_; rintro e w2 ⟨sv,rfl,s1,s2,s3,rfl⟩; have b9:=s0 sv s2 s3 s1; clear s2 s3 s0 lz))
 obtain⟨P,hP⟩:∃P,((2^sv:Nat):Int)=P:=⟨_,rfl⟩;have P0:1<=P:=by have:=Nat.one_le_two_pow (n:=sv); omega
 have P1:P<=2147483648:=by have:=Nat.pow_le_pow_right (show 0<2 by omega) s1; simp at this; omega
 have PQ:P*((2^(32-sv):Nat):Int)=4294967296:=by
  rw[<- hP,<- Int.natCast_mul,<- Nat.pow_add,show sv+(32-sv)=32 by omega]; decide
 have HN:=C5 (fun(L:List Int) (oL:yn L) (lL:L.length=m+3) (hL:zj L=zj Dl*P)=>Xg Z.out.2.2.1 Z.out.2.2.2.2.1 oL lL hL P0 PQ (by rw[Z.out.2.2.2.2.2.2,<- hP]; exact b9.out.1) (by rw[Z.out.2.2.2.2.2.2,<- hP]; exact b9.out.2));have HP:=C5 (C6 hP PQ)
 have f9:∀w2,zf w1 w2->Cb Ch 163 #[Cq (some ⟨bd,f8,none⟩) (m+2) cd,Cz Cv sv] w2 fun e X=>∃x,e = Cg x/\bT w2 X x (m+3) (zj Dl*P)/\zf w2 X:=fun w2 hs=>by
  refine(UV w2 ((HD.out.ae Y).ae hs) (by have:=Z.out.2.2.2.2.1; unfold aE; omega) s1).mono ?_;rintro e X ⟨v,L,rfl,h1,h2,h3,h4,h5⟩;rw[Z.out.2.2.2.2.1]at h3 h4;obtain⟨g,cap,post,rfl,k1,k2,k3⟩:=kt h4 B_;exact⟨_,rfl,⟨g,cap,post,L,rfl,k1,k2,h1.ok,h3,by rw[h2,hP],k3⟩,h5⟩
 have fm:∀w2,zf w1 w2->Cb Ch 163 #[Cq aa nl ca,Cz Cv sv] w2 fun e X=>∃x,e = Cg x/\bT w2 X x (K+(m+2)) (zj Al*P)/\zf w2 X:=fun w2 hs=>by
  refine(UV w2 ((HA.out.ae Y).ae hs) (by have:=Z.out.2.2.2.2.2.1; unfold aE; omega) s1).mono ?_;rintro e X ⟨v,L,rfl,h1,h2,h3,h4,h5⟩;rw[Z.out.2.2.2.2.2.1]at h3 h4;rw[hK]at h3 h4;obtain⟨g,cap,post,rfl,k1,k2,k3⟩:=kt h4 B_;exact⟨_,rfl,⟨g,cap,post,L,rfl,k1,k2,h1.ok,h3,by rw[h2,hP],k3⟩,h5⟩
 have gn:=xE K B_;clear hP PQ b9 g0 g1 cc
 refine aj.aM (fun D v W=>zf w1 W/\(D 2=true->bT w1 W (v 2) (m+3) (zj Dl*P))/\(D 7=true->bT w1 W (v 7) (K+(m+2)) (zj Al*P))/\(D 2=true->D 7=true->vE (v 2)≠vE (v 7)))
  (aj.inl [2,7]) (aj.gv [(2,Wt (m+3)),(7,Wt (K+(m+2)))]) aj.aU (fun _=>aj.Any) (fun _ _=>False) (aj.pl [(10,[(2,some 43),(7,some 48)])]) (aj.pl [])
  B' B' B' (aj.bk _ (by intro p hp; simp only[List.mem_cons,List.not_mem_nil,or_false]at hp; rcases hp with rfl | rfl<;>exact⟨_,0,_,rfl,Cl _⟩)) (fun v=> ?_) (fun D v v' W hv T=> ?_) (fun _ _ _ _ _ _ _ _ _ _ _ _ _=>aj.none_) (fun _ _ _ _ h=>h.elim) (fun dx Q' eF hQ=> ?_)
 . exact⟨(Cp _ w1).drew,fun h=>Bool.noConfusion h,fun h=>Bool.noConfusion h,fun h=>Bool.noConfusion h⟩
 .
  refine⟨T.1,fun h=> ?_,fun h=> ?_,fun h h'=> ?_⟩
  . rw[<- hv 2 h]; exact T.2.1 h
  . rw[<- hv 7 h]; exact T.2.2.1 h
  . rw[<- hv 2 h,<- hv 7 h']; exact T.2.2.2 h h'
 repeat refine aj.aK _ ?_
 refine aj.aB rfl (by intro t ht; cases ht; exact Ca rfl) rfl (fun D v' J hc T hf K hK=> ?_) ?_
 .
  have Y:D 2=false:=hc.1;go_step;refine(f9 J T.1).mono ?_;rintro e W2 ⟨x,rfl,hr,hs⟩;refine hK.out x W2 aj.any ⟨T.1.trans (hs.mono T.1.size),?_,?_,?_⟩ aj.none_ hr.fo
  . intro _; exact hr.mono T.1.size
  . intro h; exact(T.2.2.1 h).ae hs
  . intro _ h; have:=(T.2.2.1 h).lt; have:=hr.ge; exact fun e=>by have e':vE x=vE (v' 7):=e; omega
 rintro _ ⟨g2,bf,rfl,gr⟩;refine aj.aD (b:=⟨#[_,_,_,_,_,_,_,_,_,_,_,_,_,_,_,_,_,_,_,_,_,_,_,_,_,_,_,_,_,_,_,_,_,_,_,_,_,_,_,_,_,_,_,_,_,_,_,_,_,_,_,_,_,_,_,_,_,_,_,_,_,_,_,_,_,_,_,_,_,_,_,_,_,_,_,_,_,_,_,_,_,_,_,_],[]⟩) rfl ?_
 repeat refine aj.aK _ ?_
 refine aj.aB rfl (by intro t ht; cases ht; exact Ca rfl) rfl (fun D v' J hc T hf K hK=> ?_) ?_
 .
  have Y:D 7=false:=hc.1;go_step;refine(fm J T.1).mono ?_;rintro e W2 ⟨x,rfl,hr,hs⟩;refine hK.out x W2 aj.any ⟨T.1.trans (hs.mono T.1.size),?_,?_,?_⟩ aj.none_ hr.fo
  . intro h; exact(T.2.1 h).ae hs
  . intro _; exact hr.mono T.1.size
  . intro h _; have:=(T.2.1 h).lt; have:=hr.ge; exact fun e=>by have e':vE (v' 2)=vE x:=e; omega
 rintro _ ⟨g7,M,rfl,gC⟩;refine aj.aD (b:=⟨#[_,_,_,_,_,_,_,_,_,_,_,_,_,_,_,_,_,_,_,_,_,_,_,_,_,_,_,_,_,_,_,_,_,_,_,_,_,_,_,_,_,_,_,_,_,_,_,_,_,_,_,_,_,_,_,_,_,_,_,_,_,_,_,_,_,_,_,_,_,_,_,_,_,_,_,_,_,_,_,_,_,_,_,_],[]⟩) rfl ?_
 repeat refine aj.aK _ ?_
 refine aj.aH (fun Dn v' J hd T hf=> ?_);obtain⟨ft,bi,bl,a9⟩:=T;replace bi:=bi (hd 2 C0);replace bl:=bl (hd 7 C0);replace a9:=a9 (hd 2 C0) (hd 7 C0);have e2:v' 2 = Cq (some ⟨g2,0,none⟩) (m+3) bf:=(hf (2,some 43) (by show (2,some 43)∈ [(2,some 43),(7,some 48)]; simp) rfl).2.1;have e7:v' 7 = Cq (some ⟨g7,0,none⟩) (K+(m+2)) M:=(hf (7,some 48) (by show (7,some 48)∈ [(2,some 43),(7,some 48)]; simp) rfl).2.1;rw[e2]at bi a9;rw[e7]at bl a9;replace a9:g2≠g7:=a9;clear hf hd e2 e7;obtain⟨gv,capv,gp,Lv,hx,gK,gB,ov,lv,vv,bv⟩:=bi;obtain⟨rfl⟩:g2=gv/\True:=by simp only[Value.slice.injEq,Option.some.injEq,Addr.mk.injEq]at hx; exact⟨hx.1.1,trivial⟩
 clear hx;obtain⟨gu,capu,H,Lu,hx,gI,gj,ou,lu,vu,bu⟩:=bl;obtain⟨rfl⟩:g7=gu/\True:=by simp only[Value.slice.injEq,Option.some.injEq,Addr.mk.injEq]at hx; exact⟨hx.1.1,trivial⟩
 clear hx gB gj;refine hQ _ _ ?_;clear hQ eF Q' dx f9 fm;have NT:=HN.out Lv ov lv vv;obtain⟨I,be⟩:∃l,Lv.take (m+2)=l:=⟨_,rfl⟩;rw[be]at NT;have bq:yn I:=by rw[<- be]; exact zY ov _
 have lV:I.length=m+2:=by rw[<- be,List.length_take]; omega
 have g9:Cells J g2 0 I:=fun t ht=>by
  rw[lV]at ht;rw[bv.cell,xe (j:=0) rfl B_,<- be];simp[List.getD,List.getElem?_take,ht]
 have gk:g2<J.heap.size:=bv.lt;have gH:g7<J.heap.size:=bu.lt;have vV:zj I<bp (m+2):=by have:=yF bq; rwa[lV]at this
 have start:zj (Lu.drop K)<zj I:=by
  refine Zn (la:=nl) (A:=A) (P:=P) ou lu hK (by rw[vu,Z.out.2.1]) ?_ A0 P0 P1 (by rw[NT.1]; exact NT.2.2);have:=yF Z.out.2.2.2.1;rw[Z.out.2.1,Z.out.2.2.2.2.2.1]at this;exact this
 have hB:Below w.heap.size w J:=zp Y (Cl _) ft;have HS:=C5 (C6 NT (C6 vu (C6 bq (C6 lV vV))));have b9:=C5 lu;have z1:=Y.size;clear be bv NT lv lu vv vu HN ov bq lV vV ft Y;go_wp2_with fail
 obtain⟨W3,bh⟩:∃W,J.alloc (.cells (madeCells #[Cz Cw 0] K) 172)=W:=⟨_,rfl⟩;have SW:zf J W3:=by rw[<- bh]; exact(Cp _ _).alloc (Cl _) _
 have K0:ai W3 J.heap.size 172 (zH (List.replicate K 0 ++ [])).toArray:=by
  have:=ai.new J 172 (madeCells #[Cz Cw 0] K);rw[bh,yt,<- List.append_nil (List.replicate K (0:Int))]at this;exact this
 have fX:ai W3 g7 172 (xC [] Lu H):=bu.ae SW;have fZ:Cells W3 g2 0 I:=g9.below SW gk;have BW:Below w.heap.size w W3:=zp hB (Cl _) SW;have gq:J.heap.size<W3.heap.size:=K0.lt;rw[bh];have z2:=hB.size;clear gn bu bh SW g9 hB
 go_loopw [12] (fun jv wr=>∃ (k:Nat) (E qs:List Int),k<=K/\jv = Cz Cv ((k:Int)-1)/\yn E/\E.length=K+(m+2)/\yn qs/\qs.length+k=K/\zj E+zj I*(bp k*zj qs)=zj Al*P/\zj (E.drop k)<zj I/\
   ai wr g7 172 (xC [] E H)/\ai wr J.heap.size 172 (zH (List.replicate k 0++qs)).toArray/\Cells wr g2 0 I/\Below w.heap.size w wr) (fun j _=>(intOf j+1).toNat)
 case atStart=>exact⟨K,Lu,[],Cl _,by go_num,ou,b9.out,z4,by simp,by simp[zj]; exact HS.out.2.1,start,fX,K0,fZ,BW⟩
 case round=>
  obtain⟨k,E,qs,hk,cY,oU,lU,oq,lq,vq,dq,cx,ah,d9,cN⟩:=hrel;clear start fX K0 fZ BW
  rcases Nat.eq_zero_or_pos k with rfl | hp
  .
   rename Cc=>w4;have fl:=cY.trans (show Value.int Cv (((0:Nat):Int)-1)=Value.int Cv (-1) from rfl);clear cY;subst fl;have ce:qs.length=K:=B_
   rw[jN,Int.one_mul]at vq;rw[List.drop_zero]at dq
   have fW:aA w4 (Cq (some ⟨J.heap.size,0,none⟩) K K) qs:=by
    have:=aA.aY ah oq;rw[List.replicate_zero,List.nil_append,ce]at this;exact this
   have ek:aA w4 (Cq (some ⟨g7,0,none⟩) (K+(m+2)) M) E:=by
    have:=aA.dM (w:=w4) (g:=g7) (cs:=zH E++H) (cap:=M) (o:=0) (l:=E) (by have h:=cx; unfold xC at h; exact h) oU (fun t ht=>by rw[Nat.zero_add,List.getElem?_append_left (by rw[yG]; exact ht)]; exact xy _ _ ht) B_;rw[lU]at this;exact this
   have e0:=zD oU;have DP:zj I=D*P:=by rw[HS.out.1.1,Z.out.1]
   have hP:=HP.out;obtain⟨W,hW⟩:∃W,A%D=W:=⟨_,rfl⟩
   have QR:A / D=zj qs/\zj E=W*P:=by
    have h1:=jc (A:=A*P) (D:=D*P) (q:=zj qs) (r:=zj E) (by rw[<- DP]; rw[Z.out.2.1]at vq; omega) e0 (by rw[<- DP]; exact dq);rw[Int.mul_ediv_mul_of_pos_left _ _ B_]at h1;have h2:=Int.mul_ediv_add_emod A D;have h3:A*P=(D*(A / D)+A%D)*P:=by rw[h2]
    rw[Int.add_mul,Int.mul_right_comm,hW,h1.1]at h3;rw[Z.out.2.1,DP]at vq;exact⟨h1.1,by omega⟩
   have tv:zj (zJ E) / ((2^sv:Nat):Int)=W:=by
    rw[jZ,QR.2,HP.out.1,Int.mul_ediv_cancel _ B_]
   have tl:(zJ E).length<=aE:=by have:=kl E; unfold aE; omega
   have lq:qs.length<=aE:=by unfold aE; omega
   have HE:=C5 (C6 QR.1 (C6 oq (C6 tv hW)));have HU:=C5 lU;have gJ:=C5 ce;clear oU lU oq ce vq dq cx ah d9 QR DP e0 HS b9 hP tv hW
   go_wp2_with (first
    | (go_at_call 133; refine(Yj _ ek (by have:=HU.out; unfold aE; omega)).mono ?_; clear ek; rintro e w5 ⟨v5,rfl,dl,fV⟩; have gd:=fW.ae fV; clear fW)
    | (go_at_call 165; refine(Ws _ dl tl s1).mono ?_; clear dl; rintro e w6 ⟨v6,l6,rfl,fe,br,gg,dP,f7⟩; rw[HE.out.2.2.1]at br; have dk:=gd.ae f7; clear gd; have eM:=C5 (C6 br gg); have gz:Hid (l6.length<=aE):=Nat.le_trans (Nat.le_of_eq dP) tl; clear br gg dP)
    | (go_at_call 133; refine(Yj _ dk lq).mono ?_; clear dk; rintro e w7 ⟨v7,rfl,gA,eW⟩; have g8:=fe.ae eW; clear fe)
    | (go_at_call 133; refine(Yj _ g8 gz.out).mono ?_; clear g8; rintro e w8 ⟨v8,rfl,gt,ec⟩))
   go_returns
   have cg:=HE.out;refine⟨_,_,rfl,?_,?_,zp (zp (zp (zp cN (Cl _) fV) (Cl _) f7) (Cl _) eW) (Cl _) ec⟩
   .
    rw[cg.1,ye cg.2.1];exact gA.ae ec
   .
    rw[cg.2.2.2];have:=ye eM.out.2;rw[eM.out.1]at this;rw[this];exact gt
  .
   obtain⟨j,rfl⟩:∃j,k=j+1:=⟨k-1,by omega⟩;subst cY;have gE:¬M=j:=B_
   have HU:=C5 (C6 oU (C6 lU (C6 oq (C6 lq (C6 vq dq)))));clear oU lU oq lq vq dq
   have dc:Cb Ch 164 #[Cq (some ⟨g7,j,none⟩) (j+(m+2)+1-j) (M-j),Cq (some ⟨g2,0,none⟩) (m+2) bf] wr fun e X=>∃ (x:Int) (Un:List Int),e = Cg (Cz Cw x)/\0<=x/\x<4294967296/\
     Hid (yn Un/\Un.length=K+(m+2)/\zj Un+zj I*(bp j*zj (x::qs))=zj Al*P/\zj (Un.drop j)<zj I)/\
     ai X g7 172 (xC [] Un H)/\wr.grownBy X (some g7):=by
    obtain⟨o1,o2,o3,o4,o5,o6⟩:=HU.out;have S:=Ye (m:=m) o1 B_ HS.out.2.2.2.2 o6;have lT:(E.take j).length=j:=by rw[List.length_take]; omega
    have gD:=HS.out.1.2.1
    have C:=Gk (m:=m) (pre:=zH (E.take j)) (post:=zH (E.drop (j+(m+3)))++H) (U:=(E.drop j).take (m+3)) (V:=I) (g:=g7) (j:=j) (b:=g2) (o:=0) (capu:=M-j) (capv:=bf) wr
     (by rw[<- Yh]; exact cx) (by rw[yG]; exact lT) (by rw[List.length_take,List.length_drop]; omega) (zY (xD o1 _) _) B_ d9 HS.out.2.2.2.1 HS.out.2.2.1 (Nat.lt_trans B_ ah.lt) B_ (by unfold aE; omega) gD S.1
    rw[show j+(m+2)+1-j=m+3 by omega];refine C.mono ?_;rintro e X ⟨U',rfl,k1,k2,k3,k4,k5⟩;rw[S.2.1]at k3|-;have p1:=xu (m+1);have em:0<zj I:=by rw[HS.out.1.1]; have:=HS.out.1.2.2; omega
    have e0:=Int.mul_ediv_add_emod (zj (E.drop j)) (zj I);have n0:=zD (xD o1 j);have q0:0<=zj (E.drop j) / zj I:=Int.ediv_nonneg n0 B_;have q1:zj (E.drop j) / zj I<4294967296:=Int.ediv_lt_of_lt_mul em (by have:=S.1; rw[S.2.1,Int.mul_comm]at this; exact this);have m1:=Int.emod_lt_of_pos (zj (E.drop j)) em;have N:=Yf (m:=m) (j:=j) (U:=E) (S:=U') (qs:=qs) (q:=zj (E.drop j) / zj I) (V:=zj I) k1 B_ S.2.2 o5 (by rw[k3,Int.mul_comm (zj (E.drop j) / zj I)]; omega) (by rw[k3]; exact m1);refine⟨_,E.take j++(U'++E.drop (j+(m+3))),rfl,q0,q1,⟨?_,?_,N.1,N.2⟩,?_,k5⟩
    . exact xv.2 ⟨zY o1 _,xv.2 ⟨k2,xD o1 _⟩⟩
    . rw[List.length_append,List.length_append,lT,k1,List.length_drop]; omega
    . rw[<- Xj]; exact k4
   go_wp2_with (go_at_call 164; refine dc.mono ?_; clear dc; rintro e wd ⟨x,Un,rfl,x0,x1,HN,dd,cy⟩; have bg:ai wd J.heap.size 172 (zH (List.replicate (j+1) 0++qs)).toArray:=(cy.block _ ah.lt (fun e=>by have:=Option.some.inj e; omega)).trans ah; have g2:wd.cell? ⟨J.heap.size,j,none⟩=some (Cz Cw 0):=bg.c _ (by simp[zH,List.getElem?_append,List.getElem?_replicate]); have g3:wd.frozen? ⟨J.heap.size,j,none⟩=false:=bg.fr _)
   go_roundw
   case rel=>
    obtain⟨o1,o2,o3,o4,o5,o6⟩:=HU.out;refine⟨j,Un,x::qs,by omega,rfl,HN.out.1,HN.out.2.1,zU.2 ⟨⟨x0,x1⟩,o3⟩,by rw[List.length_cons]; omega,HN.out.2.2.1,HN.out.2.2.2,dd.aG B_,bg.aR (Zp j _ qs),(d9.grown cy (Nat.lt_trans B_ ah.lt) B_).set B_,?_⟩;exact(cN.grown cy cN.size (fun k hk=>by have:=Option.some.inj hk; omega)).setCell (p:=⟨J.heap.size,j,none⟩) (show w.heap.size<=J.heap.size by omega) _
   case measure=>simp[intOf]
end
end Go.Proofs.YtffmbepfbienaaaGreat
