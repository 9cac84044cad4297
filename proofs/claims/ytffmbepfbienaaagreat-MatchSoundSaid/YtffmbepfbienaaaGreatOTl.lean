import Derived.Test.YtffmbepfbienaaaGreatORound
import Derived.Laws.CopyOwn
set_option linter.unusedVariables false
set_option linter.unusedSimpArgs false
set_option maxHeartbeats 6400000
set_option maxRecDepth 1000000
open Go.Value renaming slice->Ex,bool->Ez,int->Ey,pointer->Ek,tuple->Ev
open Go.IntKind renaming i64->Ew,u32->Eu,u64->Eg
open Go.Ending renaming returned->Eh
open Go.Proofs.Tryz renaming prog->Ed
open Go renaming Calls->Ee,World->Ef,Value->Ei,undef->En
open Nat renaming le_refl->Ep
open Go.World renaming cell?->Es,size_alloc->Et
open Go.RowKit.Below renaming refl->Fz
namespace Go.Proofs.YtffmbepfbienaaaGreat
section
open Go.RowKit
variable {gx gy:Bool} {A D x y:Int} {U:List Int} {post pre:List Ei} {j:Nat} {a d va:Ei}
theorem UA {E:List Int} (M:pre.length=j) (H:E.length=U.length) :
  ((xG pre U post).toList.take j++(zK E++(xG pre U post).toList.drop (j+(zK E).length))).toArray=xG pre E post:=by
 subst M;have J:(xG pre U post).toList.take pre.length=pre:=by simp[xG]
 have I:(xG pre U post).toList.drop (pre.length+(zK E).length)=post:=by
  simp only[xG];rw[List.drop_append,List.drop_of_length_le D6,Nat.add_sub_cancel_left,List.nil_append,List.drop_append,List.drop_of_length_le (by simp[zK,H])];simp[zK,H]
 rw[J,I,xG]
theorem BD:(Tryz.prog.info? 172).map (·.size)=some 1:=by kernel_rfl
theorem BE {g b o m capu capv:Nat} {V:List Int} (w:Ef) (hB:ai w g 172 (xG pre U post)) (hj:pre.length=j) (hU:U.length=m+3) (a9:yv U) (ey:m+3<=capu)
  (hV:Cells w b o V) (lV:V.length=m+2) (b9:yv V) (hb:b<w.heap.size) (eM:b≠g) (hn:m+3<=aD) (bi:2147483648<=V.getD (m+1) 0) (dc:zj U<zj V*4294967296) :
  Ee Ed 164 #[Ex (some ⟨g,j,none⟩) (m+3) capu,Ex (some ⟨b,o,none⟩) (m+2) capv] w fun e w'=>
   ∃N,e = Eh (Ey Eu (zj U / zj V))/\N.length=m+3/\yv N/\zj N=zj U%zj V/\ai w' g 172 (xG pre N post)/\w.grownBy w' (some g):=by
 unfold aD at hn;have hg:g<w.heap.size:=hB.lt;obtain⟨un,be⟩:∃x,U.getD (m+2) 0=x:=⟨_,rfl⟩;obtain⟨T,Y⟩:∃x,U.getD (m+1) 0=x:=⟨_,rfl⟩;obtain⟨v1,bg⟩:∃x,V.getD (m+1) 0=x:=⟨_,rfl⟩;have bu:=zI a9 (m+2);have br:=zI a9 (m+1);have cg:=zI b9 (m+1);have cu:w.cell? ⟨g,j+(m+2),none⟩=some (Ey Eu un):=by rw[<- be]; exact hB.c _ (xm hj D6)
 have dl:w.cell? ⟨g,j+(m+1),none⟩=some (Ey Eu T):=by rw[<- Y]; exact hB.c _ (xm hj D6)
 have d9:w.cell? ⟨b,o+(m+1),none⟩=some (Ey Eu v1):=by rw[<- bg]; exact hV _ D6
 have DM:=Yd a9 b9 hU lV D6 dc;rw[be,Y,bg]at DM;obtain⟨Q,hQ⟩:∃Q,zj U / zj V=Q:=⟨_,rfl⟩
 have hR:zj U%zj V=zj U-Q*zj V:=by
  have:=Int.mul_ediv_add_emod (zj U) (zj V);rw[hQ,Int.mul_comm]at this;omega
 rw[hQ]at DM;rw[hQ,hR];obtain⟨Q0,Q1,Q2,Q3,Q4,Q5,Q6⟩:=DM;rw[be]at bu;rw[Y]at br;rw[bg]at cg bi;have HQ:Hid (Q*zj V<=zj U/\zj U-Q*zj V<zj V/\0<zj V):=⟨Q4,Q5,Q6⟩;have HB:=E7 hB;have HV:=E7 hV;have Z:Hid (pre.length=j/\U.length=m+3/\V.length=m+2/\yv U/\yv V):=⟨hj,hU,lV,a9,b9⟩
 have bh:un<v1->Q<=(un*4294967296+T) / v1:=fun _=>by
  have e:=Int.mul_ediv_add_emod (un*4294967296+T) v1;have:=Int.emod_lt_of_pos (un*4294967296+T) (show 0<v1 by omega);exact X_ (by rw[Int.mul_comm]; exact e) this Q2 D6
 clear be Y bg hU lV hj dc hB hV Q2 Q3 Q4 Q5 Q6 hR hQ a9 b9
 go_enter Tryz.func164,Tryz.ntmps164
 go_wp2_with fail
 go_quiet (fail)
 go_upto_if 19 with fail
 go_cut [6] (fun q wx=>∃H:Int,q = Ey Eu H/\Q<=H/\0<=H/\H<4294967296/\∃n,wx=w.drewN n)
 case first=>
  rcases Int.lt_or_le un v1 with h1 | h1
  .
   have gl:=bh h1;have hd:decide (un<v1)=true:=E' h1;have g0:0<=(un*4294967296+T) / v1:=Int.ediv_nonneg D6 D6;have g1:(un*4294967296+T) / v1<4294967296:=Int.ediv_lt_of_lt_mul D6 D6;have G:=E7 (E8 gl (E8 g0 g1));have i1:(0:Int)<=(m:Int)+2:=D6
   have i2:(m:Int)+2<(m:Int)+3:=D6
   have i3:((m:Int)+2).toNat=m+2:=D6
   have i4:(0:Int)<=(m:Int)+1:=D6
   have i5:(m:Int)+1<(m:Int)+3:=D6
   have i6:((m:Int)+1).toNat=m+1:=D6
   have i7:(m:Int)+1<(m:Int)+2:=D6
   have i8:IntKind.i64.wrap ((m:Int)+2-1)=(m:Int)+1:=by rw[IntKind.wrap_i64]; omega
   have i9:wrap64 ((m:Int)+2-1)=(m:Int)+1:=by unfold wrap64; omega
   clear bh gl g0 g1;go_wp2_with fail
   go_region_held3 (fun w'=>w'.cell? ⟨g,j+(m+2),none⟩=some (Ey Eu un)/\w'.cell? ⟨g,j+(m+1),none⟩=some (Ey Eu T)/\w'.cell? ⟨b,o+(m+1),none⟩=some (Ey Eu v1))
    (first | exact⟨cu,dl,d9⟩)
    (first | ((go_at_call 186; refine(Bx un T v1 _ bu.1 h1 br cg.2).mono ?_; rintro e wv ⟨rfl,n3,rfl⟩)))
   go_wp2_with fail
   go_meet
   exact⟨_,rfl,G.out.1,G.out.2.1,G.out.2.2,(by first | exact⟨_,rfl⟩ | exact kO _ _ _ | exact⟨_,rfl⟩)⟩
  .
   have hd:decide (un<v1)=false:=Ea D6;clear bh;go_wp2_with fail
   go_meet
   exact⟨_,rfl,by omega,by omega,by omega,(by first | exact⟨_,rfl⟩ | exact kO _ _ _)⟩
 case rest=>
  obtain⟨H,rfl,a1,a2,a3,nn,rfl⟩:=hcut;have eW:ai (w.drewN nn) g 172 (xG pre U post):=HB.out.drewN nn;clear bh cu dl d9 bu br cg bi;go_wp2_with fail
  go_loopw [6,7] (fun q r wr=>∃H:Int,q = Ey Eu H/\Q<=H/\0<=H/\H<4294967296/\Below w.heap.size w wr) (fun q _ _=>(intOf q).toNat)
  case atStart=>exact⟨H,rfl,a1,a2,a3,yS (Fz _ _) nn⟩
  case round=>
   clear a1 a2 a3;obtain⟨H,rfl,a1,a2,a3,bf⟩:=hrel;have ah:ai wr g 172 (xG pre U post):=(bf.block g hg).trans HB.out
   have LU:aA wr (Ex (some ⟨g,j,none⟩) (m+3) capu) U:=by
    have e:=Z.out.2.1;have:=aA.dW (o:=j) (cap:=capu) (l:=U) (cs:=(xG pre U post).toList) (by simpa using ah) Z.out.2.2.2.1 (fun t ht=>by have:=xm (post:=post) Z.out.1 ht; simpa using this) D6;rw[e]at this;exact this
   have HW:=E7 ah;have HX:=E7 bf;have cl:=Yj wr LU (by rw[Z.out.2.1]; unfold aD; omega);rw[Z.out.2.1]at cl
   have sb:∀ (w1:Ef) (g2 M:Nat) (E:List Ei),zf wr w1->wr.heap.size<=g2->ai w1 g2 172 (xG [] U E)->Ee Ed 188 #[Ex (some ⟨g2,0,none⟩) (m+3) M,Ex (some ⟨b,o,none⟩) (m+2) capv,Ey Eu H] w1 fun e w'=>
     ∃ (N:List Int) (bw:Int),e = Eh (Ez (bw==0))/\Hid (0<=bw/\bw<=1/\N.length=m+3/\yv N/\zj N=zj U-H*zj V+bp (m+3)*bw)/\ai w' g2 172 (xG [] N E)/\w1.grownBy w' (some g2):=fun w1 g2 M E hs cn bt=>by
    have cx:b<wr.heap.size:=Nat.lt_of_lt_of_le hb bf.size
    have:=VD (q:=H) (m:=m+2) (capu:=M) (capv:=capv) (g:=g2) (j:=0) (b:=b) (o:=o) (pre:= []) (post:=E) (U:=U) (V:=V) w1 bt rfl Z.out.2.1 Z.out.2.2.2.1
     ((HV.out.below (bf.mono (Ep _)) hb).below hs cx) Z.out.2.2.1 Z.out.2.2.2.2 D6 (Nat.lt_of_lt_of_le cx hs.size) D6 (by unfold aD; omega) a2 a3
    refine this.mono ?_;rintro e w' ⟨N,bw,rfl,k1,k2,k3,k4,k5,k6,k7⟩;exact⟨N,bw,rfl,⟨k1,k2,k3,k4,k5⟩,k6,k7⟩
   have cZ:g<wr.heap.size:=ah.lt;clear LU ah
   go_upto_if 43 with(first
    | (go_at_call 134; refine cl.mono ?_; clear cl; rintro e w1 ⟨vc,rfl,dx,eS,J⟩; obtain⟨g2,M,E,rfl,cn,er,bt⟩:=vF dx D6; have dt:=sb w1 g2 M E J cn bt)
    | (go_at_call 188; refine dt.mono ?_; clear sb dt; rintro e w2 ⟨N,bw,rfl,ce,cN,I⟩))
   rcases Int.decEq bw 0 with ci | ci
   rotate_left
   .
    subst ci;obtain⟨k1,k2,k3,k4,k5⟩:=ce.out
    have hq:H=Q:=by
     have L0:=zG k4;rw[Int.mul_zero,Int.add_zero]at k5
     rcases Int.lt_or_le Q H with h | h
     .
      have e1:=Int.mul_le_mul_of_nonneg_right (show Q+1<=H by omega) (show 0<=zj V by have:=HQ.out.2.2; omega);rw[Int.add_mul,Int.one_mul]at e1;have:=HQ.out.2.1;omega
     . omega
    subst hq;have dy:ai w2 g 172 (xG pre U post):=(I.block g (Nat.lt_of_lt_of_le cZ J.size) (fun e=>by have:=Option.some.inj e; omega)).trans ((J.block g cZ).trans HW.out)
    have bl:∀i v,(zK N)[i]? = some v->w2.cell? ((⟨g2,0,none⟩:Addr).add i)=some v:=fun i v hv=>by
     have hi:i<N.length:=by have:=(List.getElem?_eq_some_iff.1 hv).1; simpa[zK]using this
     rw[xS N i hi]at hv;have:=cN.c _ (xm (j:=0) (pre:= []) rfl hi);rw[Addr.add_lit,this];exact hv
    have SC:=E7 (UA (post:=post) Z.out.1 (k3.trans Z.out.2.1.symm));have HS:=E7 bl;have HK:=E7 dy;have dk:j+(zK N).length<=(xG pre U post).size:=by simp[xG,zK,k3,Z.out.1,Z.out.2.1]
    have ed:(zK N).length=Nat.min (m+3) (m+3):=by simp[zK,k3]
    clear bl dy k1 k2 k5
    go_wp2_with ((with_reducible show wpList _ _ _ _ _ _); refine wpList_copy_own rfl (.tmp 44) (.tmp 45) 24 24 rfl 172 Tryz.underlying24 BD g j (m+3) capu ⟨g2,0,none⟩ (m+3) M rfl rfl (xG pre U post) 172 HK.out (zK N) ed HS.out dk (by intro v hv; obtain⟨z,_,rfl⟩:=List.mem_map.1 hv; rfl) ?_)
    go_returns
    have k5:=ce.out.2.2.2.2;rw[Int.mul_zero,Int.add_zero]at k5;have em:=HX.out.size;have ek:=J.size
    have ec:∀X:Array Ei,ai (w2.setRow g X) g 172 X:=fun X=>by
     have h:=HK.out;unfold ai at h|-
     show (w2.heap.modify g _)[g]? = _
     rw[Array.getElem?_modify,h];simp
    refine⟨N,rfl,k3,k4,k5,?_,⟨?_,?_,?_,?_,?_⟩⟩
    .
     have cy:=SC.out;rw[yF,k3]at cy;rw[cy];exact ec _
    . exact I.os.trans (J.os.trans HX.out.os)
    . exact I.tape.trans (J.tape.trans HX.out.tape)
    . exact I.output.trans (J.output.trans HX.out.output)
    .
     have:=I.size;simp only[World.setRow,Array.size_modify]at *;omega
    .
     intro k hk dP;rw[setRow_other w2 g k _ (fun e=>dP (by rw[e]))];exact(I.block k D6 (fun e=>by have:=Option.some.inj e; omega)).trans ((J.block k D6).trans (HX.out.block k hk))
   .
    have h0:(bw==0)=false:=by simp[ci]
    obtain⟨k1,k2,k3,k4,k5⟩:=ce.out
    have hq:Q<H:=by
     have L1:=yO k4;rw[k3]at L1
     rcases Int.lt_or_le Q H with h | h
     . exact h
     .
      have e1:=Int.mul_le_mul_of_nonneg_right h (show 0<=zj V by have:=HQ.out.2.2; omega);have:=HQ.out.1;rw[show bw=1 by omega,Int.mul_one]at k5;omega
    clear k1 k2 k3 k4 k5;have e9:(H-1)%4294967296=H-1:=Int.emod_eq_of_lt D6 D6
    go_wp2
    go_roundw
    case rel=>exact⟨H-1,by first | rfl | rw[e9],by omega,by omega,by omega,(zA HX.out (Ep _) J).grown I (by have:=J.size; have:=HX.out.size; omega) (fun k hk=>by cases hk; have:=HX.out.size; omega)⟩
    case measure=>(try rw[e9]); simp[intOf]; omega
theorem JB (w:Ef) (M:aA w a (zp A)) (hd:aA w d (zp D)) (Y:0<=A) (D0:1<=D) (Z:(zp A).length<=aD) (nD:(zp D).length<=aD) (H:A<D) :
  Ee Ed 135 #[a,d] w fun e E=>∃q r,e = Eh (Ev #[q,r])/\aA E q (zp (A / D))/\aA E r (zp (A%D))/\zf w E:=by
 have hc:zM A D = -1:=by unfold zM; rw[E_ D6,E9 H]
 have cc:Ee Ed 136 #[a,d] w fun e E=>e = Eh (Ey Ew (-1))/\zf w E:=by
  have:=qK w M hd Y D6 Z nD;rw[hc]at this;exact this
 have tt:∀E,zf w E->Ee Ed 134 #[a] E fun e J=>∃v,e = Eh v/\J.ownsRow E.heap.size 172 1 v (zp A).length (zK (zp A))/\aA J v (zp A)/\zf E J:=fun E h=>Yj E (M.ae h) Z;have q0:Hid (A / D=0/\A%D=A):=⟨Int.ediv_eq_zero_of_lt Y H,Int.emod_eq_of_lt Y H⟩;obtain⟨aa,ca,rfl⟩:=M.ak;obtain⟨ad,cd,rfl⟩:=hd.ak;clear M hd hc
 go_enter Tryz.func135,Tryz.ntmps135
 go_wp2_with (first
  | (go_at_call 136; refine cc.mono ?_; rintro e w1 ⟨rfl,I⟩; have T:=tt w1 I)
  | (go_at_call 134; refine T.mono ?_; rintro e J ⟨v2,rfl,a9,N,X⟩))
 go_returns
 refine⟨_,_,rfl,?_,?_,zA I (Ep _) X⟩
 . rw[q0.out.1]; exact aA.nil _
 . rw[q0.out.2]; exact N
theorem Qo (w:Ef) (T:aA w a (zp A)) (hd:aA w d (zp D)) (A0:0<=A) (D0:1<=D) (nA:(zp A).length<=aD) (nD:(zp D).length=1) (bh:D<=A) :
  Ee Ed 135 #[a,d] w fun e E=>∃q r,e = Eh (Ev #[q,r])/\aA E q (zp (A / D))/\aA E r (zp (A%D))/\zf w E:=by
 obtain⟨c,hc⟩:∃c,zM A D=c:=⟨_,rfl⟩
 have c0:0<=c:=by
  rw[<- hc]; unfold zM
  split
  . omega
  . rw[E_ D6]; omega
 have cc:Ee Ed 136 #[a,d] w fun e E=>e = Eh (Ey Ew c)/\zf w E:=by
  have:=qK w T hd A0 D6 nA (by unfold aD; omega);rw[hc]at this;exact this
 have N:zp D = [D]/\D<4294967296:=by
  match h:zp D,nD with
  | [x],_=>
   have e1:=zE (show 0<=D by omega);have e2:=xr D;rw[h]at e1 e2;simp[zj]at e1;subst e1;exact⟨rfl,(zZ.1 e2).1.2⟩
 rw[N.1]at hd
 have tt:∀E,zf w E->Ee Ed 161 #[a,Ey Eu D] E fun e I=>∃q,e = Eh (Ev #[q,Ey Eu (A%D)])/\aA I q (zp (A / D))/\zf E I:=fun E h=>by
  have:=Hf E (T.ae h) nA D0 N.2;rw[zE A0]at this;exact this
 obtain⟨aa,ca,rfl⟩:=T.ak;obtain⟨ad,cd,rfl⟩:=hd.ak;obtain⟨od,-,ld,X⟩:=hd.cells;simp only[List.length_cons,List.length_nil,Nat.zero_add]at ld X cc|-;obtain⟨bd,bf,rfl,b9,M⟩:=X D6;have g0:=M 0 D9;simp only[Nat.add_zero,List.getD_cons_zero]at g0;have Y:=Int.emod_nonneg A (show D≠0 by omega);have m1:=Int.emod_lt_of_pos A (show 0<D by omega);obtain⟨R,Z⟩:∃R,A%D=R:=⟨_,rfl⟩;rw[Z]at tt Y m1;have HR:=E7 Z;have HD:=E7 N.2;clear T hd hc M X od Z N
 go_enter Tryz.func135,Tryz.ntmps135
 go_wp2_with (first
  | (go_at_call 136; refine cc.mono ?_; rintro e w1 ⟨rfl,H⟩; have bg:=tt w1 H; have g1:=(H.cell (p:=⟨bd,bf,none⟩) b9).trans g0)
  | (go_at_call 161; refine bg.mono ?_; rintro e I ⟨q2,rfl,be,a9⟩)
  | (go_at_call 133; refine(Y' _ (aA.one (x:=R) Y (by have:=HD.out; omega)) (by unfold aD; simp)).mono ?_; rintro e w3 ⟨v3,rfl,J,ah⟩))
 go_returns
 have Z2:zf I w3:=((Fz I.heap.size I).alloc (Ep _) _).trans (ah.mono E6);refine⟨_,_,rfl,be.ae Z2,?_,zA (zA H (Ep _) a9) (Ep _) Z2⟩;rw[HR.out];have:=yj (zZ.2 ⟨⟨Y,by have:=HD.out; omega⟩,z6⟩:yv [R]);rw[<- this]at J;simpa[zj]using J
theorem UB (z:Int) (w:Ef) (z0 : -9223372036854775808<=z) (z1:z<=9223372036854775807) :
  Ee Ed 118 #[Ey Ew z] w fun e E=>∃v,e = Eh v/\az E v z/\zf w E:=by
 have I:fits z:=xP (by unfold zi; omega)
 rcases Int.lt_or_le z 0 with h1 | h1
 focus
  have hd:decide (z<0)=true:=by simp[h1]
  have M:Hid (zv true (zj [(-z)%4294967296,(-z) / 4294967296])=z):=by show zv _ _=z; simp only[zv,zj,if_true,Bool.false_eq_true,if_false]; omega
  have J:=E7 (E8 (zQ I) (zJ I));clear I;obtain⟨m,Z⟩:∃m,-z=m:=⟨_,rfl⟩;have hw:IntKind.u64.wrap (-IntKind.u64.wrap z)=m:=by simp only[IntKind.wrap_u64]; omega
  rw[Z]at M;have m0:0<=m/\m<=9223372036854775808:=D6
  clear Z
  have Y:Ee Ed 94 #[Ez true,Ex (some ⟨w.heap.size+1,0,none⟩) 2 2] ((w.alloc (.cells #[Ez false,Ex none 0 0] 26)).alloc (.cells #[Ey Eu (m%4294967296),Ey Eu (m / 4294967296)] 172)) (fun e E=>∃v,e = Eh (Ev #[v,Ey Ew 0])/\az E v z/\zf ((w.alloc (.cells #[Ez false,Ex none 0 0] 26)).alloc (.cells #[Ey Eu (m%4294967296),Ey Eu (m / 4294967296)] 172)) E):=by
   have L:aA ((w.alloc (.cells #[Ez false,Ex none 0 0] 26)).alloc (.cells #[Ey Eu (m%4294967296),Ey Eu (m / 4294967296)] 172)) (Ex (some ⟨w.heap.size+1,0,none⟩) 2 2) [m%4294967296,m / 4294967296]:=aA.a_ (l:= [m%4294967296,m / 4294967296]) (ai.eh w _ _ _) (by simp only[zZ]; refine⟨⟨by omega,by omega⟩,⟨by omega,by omega⟩,z6⟩);have C:=xX true _ L (by unfold aD; simp);rw[M.out,J.out.1,J.out.2]at C;exact C
 rotate_left
 focus
  have hd:decide (z<0)=false:=by simp; omega
  have M:Hid (zv false (zj [z%4294967296,z / 4294967296])=z):=by show zv _ _=z; simp only[zv,zj,if_true,Bool.false_eq_true,if_false]; omega
  have J:=E7 (E8 (zQ I) (zJ I));clear I
  have Y:Ee Ed 94 #[Ez false,Ex (some ⟨w.heap.size+1,0,none⟩) 2 2] ((w.alloc (.cells #[Ez false,Ex none 0 0] 26)).alloc (.cells #[Ey Eu (z%4294967296),Ey Eu (z / 4294967296)] 172)) (fun e E=>∃v,e = Eh (Ev #[v,Ey Ew 0])/\az E v z/\zf ((w.alloc (.cells #[Ez false,Ex none 0 0] 26)).alloc (.cells #[Ey Eu (z%4294967296),Ey Eu (z / 4294967296)] 172)) E):=by
   have L:aA ((w.alloc (.cells #[Ez false,Ex none 0 0] 26)).alloc (.cells #[Ey Eu (z%4294967296),Ey Eu (z / 4294967296)] 172)) (Ex (some ⟨w.heap.size+1,0,none⟩) 2 2) [z%4294967296,z / 4294967296]:=aA.a_ (l:= [z%4294967296,z / 4294967296]) (ai.eh w _ _ _) (by simp only[zZ]; refine⟨⟨by omega,by omega⟩,⟨by omega,by omega⟩,z6⟩);have C:=xX false _ L (by unfold aD; simp);rw[M.out,J.out.1,J.out.2]at C;exact C
 rotate_left
 all_goals
  go_enter Tryz.func118,Tryz.ntmps118
  go_wp2_with fail
  refine(Y).mono ?_;rintro e w1 ⟨v1,rfl,H,st⟩;have X:=bA w st;have or:ai w1 w.heap.size 26 #[Ez false,Ex none 0 0]:=ai.aw st;clear st;have B:=X;clear X;obtain⟨N,T,fr,lr⟩:=or.s1;obtain⟨bb,ao,n,c,rfl⟩:=H.ak;have HV:=E7 H;clear H
  go_wp2
  refine bodyPost_ret (by simp[results,Tryz.results118,go_sem,N,T,fr,lr]; rfl) rfl ?_;exact⟨_,rfl,(HV.out.aN or).ae ((Fz _ _).alloc (Ep _) _),zh⟩
theorem Gc (H:decide (x<0)=gx) (E:y=0\/decide (y<0)=gy) (h:gx=gy):zv gx (zi x+zi y)=x+y:=by
 have X:=z4 x;have Y:=z4 y;subst h;unfold zv
 cases gx
 . simp at H E; simp only[Bool.false_eq_true,if_false]; omega
 . simp at H E; simp only[if_true]; omega
theorem UC (H:decide (x<0)=gx) (E:y=0\/decide (y<0)=gy) (h:gx = !gy) (I:zi y<=zi x):zv gx (zi x-zi y)=x+y:=by
 have X:=z4 x;have Y:=z4 y;unfold zv
 cases gy
 . subst h; simp at H E; simp only[Bool.not_false,if_true]; omega
 . subst h; simp at H E; simp only[Bool.not_true,Bool.false_eq_true,if_false]; omega
theorem UD (H:decide (x<0)=gx) (E:y=0\/decide (y<0)=gy) (h:gx = !gy) (I:zi x<zi y):zv gy (zi y-zi x)=x+y:=by
 have X:=z4 x;have Y:=z4 y;unfold zv
 cases gy
 . subst h; simp at H E; simp only[Bool.false_eq_true,if_false]; omega
 . subst h; simp at H E; simp only[if_true]; omega
theorem Qp {sb:Ei} (w:Ef) (ha:az w va x) (hb:aA w sb (zp (zi y))) (cy:y=0\/decide (y<0)=gy) (fx:fits x) (fy:fits y) :
  Ee Ed 180 #[va,.agg #[Ez gy,sb]] w fun e H=>∃v,e = Eh (Ev #[v,Ey Ew (jc (x+y))])/\az H v (xt (x+y))/\zf w H:=by
 obtain⟨aa,ca,rfl,pa⟩:=ha.parts;obtain⟨ab,cb,rfl⟩:=hb.ak;have pb:=hb;unfold fits at fx fy;have nx:(zp (zi x)).length<=aD:=by unfold aD; omega
 have ny:(zp (zi y)).length<=aD:=by unfold aD; omega
 have vx:=zE (zD x);have vy:=zE (zD y);obtain⟨n,hn⟩:∃n,(zp (zi x)).length=n:=⟨_,rfl⟩;obtain⟨m,hm⟩:∃m,(zp (zi y)).length=m:=⟨_,rfl⟩;have dc:Hid ((zp (zi x)).length=n/\(zp (zi y)).length=m):=⟨hn,hm⟩;have HL:Hid (zj (zp (zi x))=zi x/\zj (zp (zi y))=zi y):=⟨vx,vy⟩;rw[hn]at pa|-;rw[hm]at pb|-;have X:=z4 x;have Y:=z4 y;obtain⟨gx,bt⟩:∃b,decide (x<0)=b:=⟨_,rfl⟩;rw[bt];have HS:Hid (decide (x<0)=gx/\(y=0\/decide (y<0)=gy)):=⟨bt,cy⟩;have HX:=E7 (E8 X Y);have HF:=E7 (E8 fx fy);clear ha hb hn hm bt cy X Y vx vy nx ny fx fy
 by_cases hs:gx=gy
 .
  subst hs
  have hz:∀l,zj l=zj (zp (zi x))+zj (zp (zi y))->zv gx (zj l)=x+y:=fun l h=>by
   rw[h,HL.out.1,HL.out.2];exact Gc HS.out.1 HS.out.2 rfl
  have Hz:=E7 hz;clear hz;obtain⟨c,hc⟩:∃c,zM (zi x) (zi y)=c:=⟨_,rfl⟩;have HC:=E7 hc;clear hc
  have b9:∀H,aA H (Ex aa n ca) (zp (zi x))->aA H (Ex ab m cb) (zp (zi y))->Ee Ed 136 #[Ex aa n ca,Ex ab m cb] H fun e w2=>e = Eh (Ey Ew c)/\zf H w2:=fun H h1 h2=>by
   have:=qK H h1 h2 (zD x) (zD y) (by have:=HF.out; unfold aD; omega) (by have:=HF.out; unfold aD; omega);rw[HC.out]at this;exact this
  go_enter Tryz.func180,Tryz.ntmps180
  go_wp2_with fail
  refine(b9 _ (pa.ae zh) (pb.ae zh)).mono ?_;rintro e w1 ⟨rfl,cg⟩;have st:zf _ w1:=cg;have Bn:=bA w st;have I:ai w1 w.heap.size 26 #[Ez gx,Ex aa n ca]:=ai.aw st;have J:ai w1 (w.heap.size+1) 26 #[Ez gx,Ex ab m cb]:=ai.aw st;have or:ai w1 (w.heap.size+1+1) 26 #[Ez false,Ex none 0 0]:=ai.aw st;clear st;have B:=Bn;clear Bn;obtain⟨M,T,fa,la⟩:=I.s1;obtain⟨Z,a9,fb,lb⟩:=J.s1;obtain⟨N,ah,fr,lr⟩:=or.s1;clear b9;go_wp2_with fail
  go_region_held3 (fun H=>H.cell? ⟨w.heap.size,0,none⟩=some (Ez gx)/\H.cell? ⟨w.heap.size,1,none⟩=some (Ex aa n ca)/\H.cell? ⟨w.heap.size+1,0,none⟩=some (Ez gx)/\H.cell? ⟨w.heap.size+1,1,none⟩=some (Ex ab m cb))
   ((refine⟨ai.c (t:=26) (cs:=#[Ez gx,Ex aa n ca]) ?_ 0 rfl,ai.c (t:=26) (cs:=#[Ez gx,Ex aa n ca]) ?_ 1 rfl,ai.c (t:=26) (cs:=#[Ez gx,Ex ab m cb]) ?_ 0 rfl,ai.c (t:=26) (cs:=#[Ez gx,Ex ab m cb]) ?_ 1 rfl⟩<;>(repeat' first | with_reducible assumption | (with_reducible refine ai.bK ?_; first | with_reducible rfl | (simp only[Et,World.size_setCell,World.size_drew]; done)) | with_reducible refine ai.alloc ?_ _ | with_reducible refine ai.drew ?_ | with_reducible refine ai.drewN ?_ _ | with_reducible apply ai.both | with_reducible refine ai.aK ?_ ?_ | (show _≠_; omega))))
   (first
    | ((go_at_call 159; refine(GM _ (pa.ae zh) (pb.ae zh) (by have:=HF.out; unfold aD; omega) (by have:=HF.out; unfold aD; omega)).mono ?_; rintro e E ⟨v1,l1,rfl,bl,bh,dk,be⟩; have d9:=E7 bh; clear bh; go_must (have st:zf _ E:=be; have Bn:=bA w st; have na:ai E w.heap.size 26 #[Ez gx,Ex aa n ca]:=ai.aw st; have nb:ai E (w.heap.size+1) 26 #[Ez gx,Ex ab m cb]:=ai.aw st; have nr:ai E (w.heap.size+1+1) 26 #[Ez false,Ex none 0 0]:=ai.aw st; clear B I J or M T fa la Z a9 fb lb N ah fr lr; clear st; have B:=Bn; clear Bn; have I:=na; clear na; have M:Es E ⟨w.heap.size,0,none⟩=some (Ez gx):=I.c 0 rfl; have T:Es E ⟨w.heap.size,1,none⟩=some (Ex aa n ca):=I.c 1 rfl; have fa:=I.fr; have la:=I.lt; have J:=nb; clear nb; have Z:Es E ⟨w.heap.size+1,0,none⟩=some (Ez gx):=J.c 0 rfl; have a9:Es E ⟨w.heap.size+1,1,none⟩=some (Ex ab m cb):=J.c 1 rfl; have fb:=J.fr; have lb:=J.lt; have or:=nr; clear nr; have N:Es E ⟨w.heap.size+1+1,0,none⟩=some (Ez false):=or.c 0 rfl; have ah:Es E ⟨w.heap.size+1+1,1,none⟩=some (Ex none 0 0):=or.c 1 rfl; have fr:=or.fr; have lr:=or.lt)))
    | ((go_at_call 94; refine(xX gx _ bl (by have:=HF.out; unfold aD; omega)).mono ?_; rintro e E ⟨v2,rfl,bf,be⟩; go_must (have st:zf _ E:=be; have Bn:=bA w st; have na:ai E w.heap.size 26 #[Ez gx,Ex aa n ca]:=ai.aw st; have nb:ai E (w.heap.size+1) 26 #[Ez gx,Ex ab m cb]:=ai.aw st; have nr:ai E (w.heap.size+1+1) 26 #[Ez false,Ex none 0 0]:=ai.aw st; clear B I J or M T fa la Z a9 fb lb N ah fr lr; clear st; have B:=Bn; clear Bn; have I:=na; clear na; have M:Es E ⟨w.heap.size,0,none⟩=some (Ez gx):=I.c 0 rfl; have T:Es E ⟨w.heap.size,1,none⟩=some (Ex aa n ca):=I.c 1 rfl; have fa:=I.fr; have la:=I.lt; have J:=nb; clear nb; have Z:Es E ⟨w.heap.size+1,0,none⟩=some (Ez gx):=J.c 0 rfl; have a9:Es E ⟨w.heap.size+1,1,none⟩=some (Ex ab m cb):=J.c 1 rfl; have fb:=J.fr; have lb:=J.lt; have or:=nr; clear nr; have N:Es E ⟨w.heap.size+1+1,0,none⟩=some (Ez false):=or.c 0 rfl; have ah:Es E ⟨w.heap.size+1+1,1,none⟩=some (Ex none 0 0):=or.c 1 rfl; have fr:=or.fr; have lr:=or.lt; obtain⟨bb,cx,n2,c2,rfl⟩:=bf.ak))))
  have ci:=E7 bf;clear bf
  go_wp2
  refine bodyPost_ret (by simp[results,Tryz.results180,go_sem,M,T,fa,la,Z,a9,fb,lb,N,ah,fr,lr]; rfl) rfl ?_;have e:=Hz.out l1 d9.out;exact⟨_,YT rfl (by rw[e]),by rw[<- e]; exact ci.out.aN or,zh⟩
 .
  have br:gx = !gy:=by cases gx<;>cases gy<;>simp_all
  obtain⟨c,hc⟩:∃c,zM (zi x) (zi y)=c:=⟨_,rfl⟩;have cc:=jO (zi x) (zi y);rw[hc]at cc;have CC:=E7 cc;have h0:=zD x;have cn:=zD y
  rcases Int.lt_or_le c 0 with cN | cN
  focus
   have bi:zi x<=zi y:=D6
   have hz:∀l,zj l=zi y-zi x->zv gy (zj l)=x+y:=fun l hl=>by
    rw[hl];exact UD HS.out.1 HS.out.2 br D6
   have bg:(zp (zi x)).length<=(zp (zi y)).length:=by
    rcases Nat.lt_or_ge (zp (zi y)).length (zp (zi x)).length with g | g
    . have:=ye (zD y) (zD x) g; omega
    . exact g
   have Hz:=E7 hz;have HC:=E7 hc
   have mi:∀H,aA H (Ex aa n ca) (zp (zi x))->aA H (Ex ab m cb) (zp (zi y))->Ee Ed 160 #[Ex ab m cb,Ex aa n ca] H fun e w2=>∃v l,e = Eh v/\aA w2 v l/\Hid (zj l=zi y-zi x)/\l.length<=aD/\zf H w2:=fun H h1 h2=>by
    refine(Jy H h2 h1 (by have:=HF.out; unfold aD; omega) bg (by rw[HL.out.1,HL.out.2]; exact bi)).mono ?_;rintro e w2 ⟨v,l,e1,e2,e3,e4,e5⟩;rw[HL.out.1,HL.out.2]at e3;exact⟨v,l,e1,e2,e3,by have:=HF.out; unfold aD; omega,e5⟩
   have b9:∀H,aA H (Ex aa n ca) (zp (zi x))->aA H (Ex ab m cb) (zp (zi y))->Ee Ed 136 #[Ex aa n ca,Ex ab m cb] H fun e w2=>e = Eh (Ey Ew c)/\zf H w2:=fun H h1 h2=>by
    have:=qK H h1 h2 (zD x) (zD y) (by have:=HF.out; unfold aD; omega) (by have:=HF.out; unfold aD; omega);rw[HC.out]at this;exact this
   have cZ:(gx==gy)=false:=by simp[hs]
   clear hz hc cc bi bg h0 cn br hs
   go_enter Tryz.func180,Tryz.ntmps180
   go_wp2_with fail
   refine(b9 _ (pa.ae zh) (pb.ae zh)).mono ?_;rintro e w1 ⟨rfl,cg⟩;have st:zf _ w1:=cg;have Bn:=bA w st;have I:ai w1 w.heap.size 26 #[Ez gx,Ex aa n ca]:=ai.aw st;have J:ai w1 (w.heap.size+1) 26 #[Ez gy,Ex ab m cb]:=ai.aw st;have or:ai w1 (w.heap.size+1+1) 26 #[Ez false,Ex none 0 0]:=ai.aw st;clear st;have B:=Bn;clear Bn;obtain⟨M,T,fa,la⟩:=I.s1;obtain⟨Z,a9,fb,lb⟩:=J.s1;obtain⟨N,ah,fr,lr⟩:=or.s1;clear b9;go_wp2_with fail
   go_region_held3 (fun H=>H.cell? ⟨w.heap.size,0,none⟩=some (Ez gx)/\H.cell? ⟨w.heap.size,1,none⟩=some (Ex aa n ca)/\H.cell? ⟨w.heap.size+1,0,none⟩=some (Ez gy)/\H.cell? ⟨w.heap.size+1,1,none⟩=some (Ex ab m cb))
    ((refine⟨ai.c (t:=26) (cs:=#[Ez gx,Ex aa n ca]) ?_ 0 rfl,ai.c (t:=26) (cs:=#[Ez gx,Ex aa n ca]) ?_ 1 rfl,ai.c (t:=26) (cs:=#[Ez gy,Ex ab m cb]) ?_ 0 rfl,ai.c (t:=26) (cs:=#[Ez gy,Ex ab m cb]) ?_ 1 rfl⟩<;>(repeat' first | with_reducible assumption | (with_reducible refine ai.bK ?_; first | with_reducible rfl | (simp only[Et,World.size_setCell,World.size_drew]; done)) | with_reducible refine ai.alloc ?_ _ | with_reducible refine ai.drew ?_ | with_reducible refine ai.drewN ?_ _ | with_reducible apply ai.both | with_reducible refine ai.aK ?_ ?_ | (show _≠_; omega))))
    (first
     | ((go_at_call 160; refine(mi _ (pa.ae zh) (pb.ae zh)).mono ?_; rintro e E ⟨v1,l1,rfl,bl,bh,ce,be⟩; go_must (have st:zf _ E:=be; have Bn:=bA w st; have na:ai E w.heap.size 26 #[Ez gx,Ex aa n ca]:=ai.aw st; have nb:ai E (w.heap.size+1) 26 #[Ez gy,Ex ab m cb]:=ai.aw st; have nr:ai E (w.heap.size+1+1) 26 #[Ez false,Ex none 0 0]:=ai.aw st; clear B I J or M T fa la Z a9 fb lb N ah fr lr; clear st; have B:=Bn; clear Bn; have I:=na; clear na; have M:Es E ⟨w.heap.size,0,none⟩=some (Ez gx):=I.c 0 rfl; have T:Es E ⟨w.heap.size,1,none⟩=some (Ex aa n ca):=I.c 1 rfl; have fa:=I.fr; have la:=I.lt; have J:=nb; clear nb; have Z:Es E ⟨w.heap.size+1,0,none⟩=some (Ez gy):=J.c 0 rfl; have a9:Es E ⟨w.heap.size+1,1,none⟩=some (Ex ab m cb):=J.c 1 rfl; have fb:=J.fr; have lb:=J.lt; have or:=nr; clear nr; have N:Es E ⟨w.heap.size+1+1,0,none⟩=some (Ez false):=or.c 0 rfl; have ah:Es E ⟨w.heap.size+1+1,1,none⟩=some (Ex none 0 0):=or.c 1 rfl; have fr:=or.fr; have lr:=or.lt)))
     | ((go_at_call 94; refine(xX gy _ bl ce).mono ?_; rintro e E ⟨v2,rfl,bf,be⟩; go_must (have st:zf _ E:=be; have Bn:=bA w st; have na:ai E w.heap.size 26 #[Ez gx,Ex aa n ca]:=ai.aw st; have nb:ai E (w.heap.size+1) 26 #[Ez gy,Ex ab m cb]:=ai.aw st; have nr:ai E (w.heap.size+1+1) 26 #[Ez false,Ex none 0 0]:=ai.aw st; clear B I J or M T fa la Z a9 fb lb N ah fr lr; clear st; have B:=Bn; clear Bn; have I:=na; clear na; have M:Es E ⟨w.heap.size,0,none⟩=some (Ez gx):=I.c 0 rfl; have T:Es E ⟨w.heap.size,1,none⟩=some (Ex aa n ca):=I.c 1 rfl; have fa:=I.fr; have la:=I.lt; have J:=nb; clear nb; have Z:Es E ⟨w.heap.size+1,0,none⟩=some (Ez gy):=J.c 0 rfl; have a9:Es E ⟨w.heap.size+1,1,none⟩=some (Ex ab m cb):=J.c 1 rfl; have fb:=J.fr; have lb:=J.lt; have or:=nr; clear nr; have N:Es E ⟨w.heap.size+1+1,0,none⟩=some (Ez false):=or.c 0 rfl; have ah:Es E ⟨w.heap.size+1+1,1,none⟩=some (Ex none 0 0):=or.c 1 rfl; have fr:=or.fr; have lr:=or.lt; obtain⟨bb,cx,n2,c2,rfl⟩:=bf.ak))))
  rotate_left
  focus
   have bi:zi y<=zi x:=D6
   have hz:∀l,zj l=zi x-zi y->zv gx (zj l)=x+y:=fun l hl=>by
    rw[hl];exact UC HS.out.1 HS.out.2 br D6
   have bg:(zp (zi y)).length<=(zp (zi x)).length:=by
    rcases Nat.lt_or_ge (zp (zi x)).length (zp (zi y)).length with g | g
    . have:=ye (zD x) (zD y) g; omega
    . exact g
   have Hz:=E7 hz;have HC:=E7 hc
   have mi:∀H,aA H (Ex aa n ca) (zp (zi x))->aA H (Ex ab m cb) (zp (zi y))->Ee Ed 160 #[Ex aa n ca,Ex ab m cb] H fun e w2=>∃v l,e = Eh v/\aA w2 v l/\Hid (zj l=zi x-zi y)/\l.length<=aD/\zf H w2:=fun H h1 h2=>by
    refine(Jy H h1 h2 (by have:=HF.out; unfold aD; omega) bg (by rw[HL.out.1,HL.out.2]; exact bi)).mono ?_;rintro e w2 ⟨v,l,e1,e2,e3,e4,e5⟩;rw[HL.out.1,HL.out.2]at e3;exact⟨v,l,e1,e2,e3,by have:=HF.out; unfold aD; omega,e5⟩
   have b9:∀H,aA H (Ex aa n ca) (zp (zi x))->aA H (Ex ab m cb) (zp (zi y))->Ee Ed 136 #[Ex aa n ca,Ex ab m cb] H fun e w2=>e = Eh (Ey Ew c)/\zf H w2:=fun H h1 h2=>by
    have:=qK H h1 h2 (zD x) (zD y) (by have:=HF.out; unfold aD; omega) (by have:=HF.out; unfold aD; omega);rw[HC.out]at this;exact this
   have cZ:(gx==gy)=false:=by simp[hs]
   clear hz hc cc bi bg h0 cn br hs
   go_enter Tryz.func180,Tryz.ntmps180
   go_wp2_with fail
   refine(b9 _ (pa.ae zh) (pb.ae zh)).mono ?_;rintro e w1 ⟨rfl,st⟩;have Bn:=bA w st;have I:ai w1 w.heap.size 26 #[Ez gx,Ex aa n ca]:=ai.aw st;have J:ai w1 (w.heap.size+1) 26 #[Ez gy,Ex ab m cb]:=ai.aw st;have or:ai w1 (w.heap.size+1+1) 26 #[Ez false,Ex none 0 0]:=ai.aw st;clear st;have B:=Bn;clear Bn;obtain⟨M,T,fa,la⟩:=I.s1;obtain⟨Z,a9,fb,lb⟩:=J.s1;obtain⟨N,ah,fr,lr⟩:=or.s1;clear b9;go_wp2_with fail
   go_region_held3 (fun H=>H.cell? ⟨w.heap.size,0,none⟩=some (Ez gx)/\H.cell? ⟨w.heap.size,1,none⟩=some (Ex aa n ca)/\H.cell? ⟨w.heap.size+1,0,none⟩=some (Ez gy)/\H.cell? ⟨w.heap.size+1,1,none⟩=some (Ex ab m cb))
    ((refine⟨ai.c (t:=26) (cs:=#[Ez gx,Ex aa n ca]) ?_ 0 rfl,ai.c (t:=26) (cs:=#[Ez gx,Ex aa n ca]) ?_ 1 rfl,ai.c (t:=26) (cs:=#[Ez gy,Ex ab m cb]) ?_ 0 rfl,ai.c (t:=26) (cs:=#[Ez gy,Ex ab m cb]) ?_ 1 rfl⟩<;>(repeat' first | with_reducible assumption | (with_reducible refine ai.bK ?_; first | with_reducible rfl | (simp only[Et,World.size_setCell,World.size_drew]; done)) | with_reducible refine ai.alloc ?_ _ | with_reducible refine ai.drew ?_ | with_reducible refine ai.drewN ?_ _ | with_reducible apply ai.both | with_reducible refine ai.aK ?_ ?_ | (show _≠_; omega))))
    (first
     | ((go_at_call 160; refine(mi _ (pa.ae zh) (pb.ae zh)).mono ?_; rintro e E ⟨v1,l1,rfl,bl,bh,ce,be⟩; go_must (have st:zf _ E:=be; have Bn:=bA w st; have na:ai E w.heap.size 26 #[Ez gx,Ex aa n ca]:=ai.aw st; have nb:ai E (w.heap.size+1) 26 #[Ez gy,Ex ab m cb]:=ai.aw st; have nr:ai E (w.heap.size+1+1) 26 #[Ez false,Ex none 0 0]:=ai.aw st; clear B I J or M T fa la Z a9 fb lb N ah fr lr; clear st; have B:=Bn; clear Bn; have I:=na; clear na; have M:Es E ⟨w.heap.size,0,none⟩=some (Ez gx):=I.c 0 rfl; have T:Es E ⟨w.heap.size,1,none⟩=some (Ex aa n ca):=I.c 1 rfl; have fa:=I.fr; have la:=I.lt; have J:=nb; clear nb; have Z:Es E ⟨w.heap.size+1,0,none⟩=some (Ez gy):=J.c 0 rfl; have a9:Es E ⟨w.heap.size+1,1,none⟩=some (Ex ab m cb):=J.c 1 rfl; have fb:=J.fr; have lb:=J.lt; have or:=nr; clear nr; have N:Es E ⟨w.heap.size+1+1,0,none⟩=some (Ez false):=or.c 0 rfl; have ah:Es E ⟨w.heap.size+1+1,1,none⟩=some (Ex none 0 0):=or.c 1 rfl; have fr:=or.fr; have lr:=or.lt)))
     | ((go_at_call 94; refine(xX gx _ bl ce).mono ?_; rintro e E ⟨v2,rfl,bf,be⟩; go_must (have st:zf _ E:=be; have Bn:=bA w st; have na:ai E w.heap.size 26 #[Ez gx,Ex aa n ca]:=ai.aw st; have nb:ai E (w.heap.size+1) 26 #[Ez gy,Ex ab m cb]:=ai.aw st; have nr:ai E (w.heap.size+1+1) 26 #[Ez false,Ex none 0 0]:=ai.aw st; clear B I J or M T fa la Z a9 fb lb N ah fr lr; clear st; have B:=Bn; clear Bn; have I:=na; clear na; have M:Es E ⟨w.heap.size,0,none⟩=some (Ez gx):=I.c 0 rfl; have T:Es E ⟨w.heap.size,1,none⟩=some (Ex aa n ca):=I.c 1 rfl; have fa:=I.fr; have la:=I.lt; have J:=nb; clear nb; have Z:Es E ⟨w.heap.size+1,0,none⟩=some (Ez gy):=J.c 0 rfl; have a9:Es E ⟨w.heap.size+1,1,none⟩=some (Ex ab m cb):=J.c 1 rfl; have fb:=J.fr; have lb:=J.lt; have or:=nr; clear nr; have N:Es E ⟨w.heap.size+1+1,0,none⟩=some (Ez false):=or.c 0 rfl; have ah:Es E ⟨w.heap.size+1+1,1,none⟩=some (Ex none 0 0):=or.c 1 rfl; have fr:=or.fr; have lr:=or.lt; obtain⟨bb,cx,n2,c2,rfl⟩:=bf.ak))))
  rotate_left
  all_goals
   have ci:=E7 bf;clear bf
   go_wp2
   refine bodyPost_ret (by simp[results,Tryz.results180,go_sem,M,T,fa,la,Z,a9,fb,lb,N,ah,fr,lr]; rfl) rfl ?_;have ez:=Hz.out l1 bh.out;exact⟨_,YT rfl (by rw[ez]),by have:=ci.out; rw[ez]at this; exact this.aN or,zh⟩
theorem C5 {H:Ei} (w:Ef) (T:az w va x) (J:az w H y) (N:fits x) (M:fits y) :
  Ee Ed 180 #[va,H] w fun e E=>∃v,e = Eh (Ev #[v,Ey Ew (jc (x+y))])/\az E v (xt (x+y))/\zf w E:=by
 obtain⟨X,rfl,I⟩:=J;exact Qp w T I (.inr rfl) N M
end
section
open Go.RowKit Go.Shelf
variable {s:Nat}
attribute [local go_sem] Oper.semAt_some
theorem YV {t:Int} (h0:0<=t) (H:t<18446744073709551616) (E:s<=31):bits .and Eg t (((2^s:Nat):Int)-1)=t%((2^s:Nat):Int):=by
 obtain⟨n,rfl⟩:=Int.eq_ofNat_of_zero_le h0;have p0:=Nat.one_le_two_pow (n:=s);have p1:=Nat.pow_le_pow_right (show 0<2 by omega) E;rw[show (((2^s:Nat):Int)-1)=((2^s-1:Nat):Int) by omega,bits_and_u64_nat _ _ D6 D6,Nat.and_two_pow_sub_one_eq_mod];rfl
theorem Hg (a:Option Addr) (c:Nat) (f:Ei) (w:Ef):Ee Ed 195 #[Ex a 0 c,f] w fun e E=>e = Eh (Ey Ew (-1))/\E=w:=by
 go_enter Tryz.func195,Tryz.ntmps195
 go_wp2
 go_loopw [8] (fun i wr=>i = Ey Ew 0/\wr=w) (fun _ _=>0)
 case atStart=>exact⟨rfl,rfl⟩
 case round=>
  obtain⟨rfl,rfl⟩:=hrel
  go_wp2
  go_returns
  exact⟨rfl,rfl⟩
theorem VI (a:Option Addr) (c:Nat) (f:Ei) (w:Ef):Ee Ed 189 #[Ex a 0 c,f] w fun e E=>e = Eh (Ez false)/\E=w:=by
 go_enter Tryz.func189,Tryz.ntmps189
 go_wp2_with (go_at_call 195; refine(Hg _ _ _ _).mono ?_; rintro e E ⟨rfl,rfl⟩)
 go_returns
 exact⟨rfl,rfl⟩
def GP (p:Addr) (x:Ei) (b:Bool) (W:Ef):Ef:=match b with | true=>W.setCell p x | false=>W
theorem ZS {p z:Addr} {x:Ei} {b:Bool} {W:Ef} (E:z.block≠p.block):(GP p x b W).cell? z=W.cell? z:=by
 cases b
 . rfl
 . exact World.cell?_of_block (Below.heap_setCell _ _ _ _ E)
theorem Hh {a:Ei} {A:List Int} (w:Ef) (ha:aA w a A) (nA:A.length<=aD) (hs:s<=31) :
  Ee Ed 165 #[a,Ey Ew s] w fun e w'=>∃q qs,e = Eh (Ev #[q,Ez (decide (0<zj A%(2^s:Nat)))])/\aA w' q qs/\zj qs=zj A / (2^s:Nat)/\yv qs/\qs.length=A.length/\zf w w':=by
 obtain⟨aa,ca,rfl⟩:=ha.ak;obtain⟨oa,-,la,fa⟩:=ha.cells;obtain⟨len,a9⟩:∃n,A.length=n:=⟨_,rfl⟩;have HA:=E7 ha;rw[a9]at la fa nA|-;have dc:=xK len (by unfold aD at nA; omega);have bg:Fence.wide.round=none:=rfl;obtain⟨d,hd⟩:∃P,((2^s:Nat):Int)=P:=⟨_,rfl⟩;have d0:1<=d:=by have:=Nat.one_le_two_pow (n:=s); omega
 have d1:d<=2147483648:=by have:=Nat.pow_le_pow_right (show 0<2 by omega) hs; simp at this; omega
 have HD:Hid (((2^s:Nat):Int)=d):=hd;rw[hd];clear hd;have hq:(s:Int).tdiv 32=0:=Int.tdiv_eq_zero_of_lt D6 D6;have N:(s:Int).tmod 32=s:=Int.tmod_eq_of_lt D6 D6;have ec:(s:Int) / 32=0:=D6
 have eM:(s:Int)%32=s:=D6
 have ey:wrap64 (len:Int)=len:=by unfold aD at nA; unfold wrap64; omega
 refine(callsIn_wide (n:=3)).1 ?_;refine callsIn_of_wp_marks Tryz.func165 rfl trivial ?_ bg;simp only[Tryz.ntmps165,List.size_toArray,List.length_cons,List.length_nil,Nat.reduceAdd,Nat.reduceSub,Array.replicate_succ,Array.replicate_zero,List.push_toArray,List.append_toArray,List.nil_append,List.cons_append]
 gi_wp2_with (first
  | (refine⟨trivial,?_⟩; gi_at_call 189; refine(callsIn_wide.2 (VI _ _ _ _)).mono ?_; rintro e w' ⟨rfl,rfl⟩)
  | (refine⟨trivial,?_⟩; gi_at_call 166; refine(XF Fence.wide 2 trivial bg _ _ _ _).mono ?_; rintro e w' ⟨rfl,rfl⟩))
 have b1:=Boxed.new w 3 (Ey Ew s)
 have b2:ai ((w.alloc (.cells #[Ey Ew s] 3)).alloc (.cells (madeCells #[Ey Eu 0] len) 172)) (w.heap.size+1) 172 (zK (List.replicate len 0)).toArray:=by
  have:=ai.eh w (.cells #[Ey Ew s] 3) 172 (madeCells #[Ey Eu 0] len);rw[yC]at this|-;exact this
 have b3:=Boxed.new ((w.alloc (.cells #[Ey Ew s] 3)).alloc (.cells (madeCells #[Ey Eu 0] len) 172)) 24 (Ex (some ⟨w.heap.size+1,0,none⟩) len len);have b4:=Boxed.new (((w.alloc (.cells #[Ey Ew s] 3)).alloc (.cells (madeCells #[Ey Eu 0] len) 172)).alloc (.cells #[Ex (some ⟨w.heap.size+1,0,none⟩) len len] 24)) 182 (Ey Eg 0);have b5:=Boxed.new ((((w.alloc (.cells #[Ey Ew s] 3)).alloc (.cells (madeCells #[Ey Eu 0] len) 172)).alloc (.cells #[Ex (some ⟨w.heap.size+1,0,none⟩) len len] 24)).alloc (.cells #[Ey Eg 0] 182)) 24 (Ex aa len ca);simp only[Et]at b3 b4 b5;have bh:Below w.heap.size w (((((w.alloc (.cells #[Ey Ew s] 3)).alloc (.cells (madeCells #[Ey Eu 0] len) 172)).alloc (.cells #[Ex (some ⟨w.heap.size+1,0,none⟩) len len] 24)).alloc (.cells #[Ey Eg 0] 182)).alloc (.cells #[Ex aa len ca] 24)):=(((((Fz _ w).alloc (Ep _) _).alloc D9 _).alloc (by simp; omega) _).alloc (by simp; omega) _).alloc (by simp; omega) _
 have bl:0<len->∃b o,aa=some ⟨b,o,none⟩/\b<w.heap.size/\Cells (((((w.alloc (.cells #[Ey Ew s] 3)).alloc (.cells (madeCells #[Ey Eu 0] len) 172)).alloc (.cells #[Ex (some ⟨w.heap.size+1,0,none⟩) len len] 24)).alloc (.cells #[Ey Eg 0] 182)).alloc (.cells #[Ex aa len ca] 24)) b o A:=fun h=>by
  obtain⟨b,o,e,hb,hc⟩:=fa h;exact⟨b,o,e,hb,hc.below bh hb⟩
 have SO:=fun pre=>Uy (n:=len) d0 (show d<4294967296 by omega) oa pre
 refine wpIn_rangeFunc_ownG bg (show 1<=3 by omega) (gf:=191) (lb:=#[Ek (some ⟨w.heap.size+1+1+1+1,0,none⟩)]) rfl trivial (enters_of Tryz.func191 D7 rfl)
  (ZB Fence.wide 2 trivial bg D6 (w.heap.size+1+1+1+1) w.heap.size aa ca len A a9 nA _ D9 (by simp; omega) b5.cell bl) KD.trans (He (by simp; omega) D9) (Fz _ _) (fun _=>rfl)
  (fun(pre:List (Fin len)) W=>(ai W (w.heap.size+1) 172 (zK (kW d A len pre).1).toArray/\W.cell? ⟨w.heap.size,0,none⟩=some (Ey Ew s)/\W.cell? ⟨w.heap.size+1+1,0,none⟩=some (Ex (some ⟨w.heap.size+1,0,none⟩) len len)/\W.cell? ⟨w.heap.size+1+1+1,0,none⟩=some (Ey Eg (kW d A len pre).2)/\W.frozen? ⟨w.heap.size+1+1+1,0,none⟩=false)/\Below w.heap.size w W)
  (fun _ _ _=>False)
  (OwnFrom.and (Own.from (fun s A B row hs hg N=>⟨z' hs.1 hg N,cell_kept hs.2.1 hg N,cell_kept hs.2.2.1 hg N,cell_kept hs.2.2.2.1 hg N,(frozen_kept hs.2.2.2.1 hg N).trans hs.2.2.2.2⟩) _) (ownFrom_below (Ep _) (by simp; omega)))
  (fun _ _ _ _ _ hs _ _=>hs)
  ⟨⟨((b2.alloc _).alloc _).alloc _,(((((b1.alloc _).alloc _).alloc _).alloc _)).cell,((b3.alloc _).alloc _).cell,(b4.alloc _).cell,(b4.alloc _).frozen⟩,bh⟩
  (fun x=>{ tmps:=#[Ex aa len ca,Ey Ew s,En,Ek (some ⟨w.heap.size,0,none⟩),Ex none 0 0,Ez false,Ey Ew 0,Ez false,Ek (some ⟨w.heap.size+1+1,0,none⟩),Ek (some ⟨w.heap.size+1+1+1,0,none⟩),Ey Ew ((x:Nat):Int),Ey Eu (A.getD x 0),Ey Ew s,Ey Ew 0,Ex aa len ca,Ey Ew len,Ey Ew 0,Ex aa len ca,Ey Ew 0,Ex aa 0 ca,Ez false,Ex aa len ca,Ey Ew len,Ey Ew 0,Ey Ew len,Ex (some ⟨w.heap.size+1,0,none⟩) len len,Ex aa len ca,Ey Ew 0,Ex aa len ca,.func (.func 191) #[] #[Ek (some ⟨w.heap.size+1+1+1+1,0,none⟩)],Ey Ew ((x:Nat):Int),Ey Eu (A.getD x 0),En,En,En,En,En,En,En,En,En,En,En,En,En,En,En,En,En,En,En,En,En,En,En,En,En],defers:= [] }) ?assign ?body ?done ?stop
 case assign=>
  intro l x W K E;dsimp only[Qi];obtain⟨u,hu⟩:∃u,A.getD (x:Nat) 0=u:=⟨_,rfl⟩;simp only[hu]at E|-;clear hu
  gi_wp2
  exact E
 case body=>
  rintro l pre x W ⟨⟨hb,cn,ci,b9,cy⟩,hB⟩ _;obtain⟨i,hi⟩:=x;have S1:=SO pre;obtain⟨u,hu⟩:∃u,A.getD i 0=u:=⟨_,rfl⟩;obtain⟨r,N⟩:∃r,(kW d A len pre).2=r:=⟨_,rfl⟩;have u0:=zI oa i;rw[hu]at u0;rw[N]at b9 S1;have r0:=S1.2.2.1;have r1:=S1.2.2.2;have cZ:W.cell? ⟨w.heap.size+1,i,none⟩=some (Ey Eu ((kW d A len pre).1.getD i 0)):=hb.c _ (by simpa using xS (kW d A len pre).1 i D6);obtain⟨v,hv⟩:∃v,(kW d A len pre).1.getD i 0=v:=⟨_,rfl⟩;rw[hv]at cZ;have dy:W.frozen? ⟨w.heap.size+1,i,none⟩=false:=hb.fr _
  have z1:w.heap.size+1+1+1<W.heap.size:=by
   rcases Nat.lt_or_ge (w.heap.size+1+1+1) W.heap.size with h | h
   . exact h
   . simp[Es,Array.getElem?_eq_none h]at b9
  obtain⟨T,hT⟩:∃T,r*4294967296+u=T:=⟨_,rfl⟩;have ek:bits .or Eg (r*4294967296) u=T:=by rw[<- hT]; exact j7 (s:=32) r0 u0.1 (by simpa using u0.2) (by simp; omega)
  obtain⟨Q,Z⟩:∃Q,T / d=Q:=⟨_,rfl⟩;obtain⟨R,be⟩:∃R,T%d=R:=⟨_,rfl⟩
  have dk:0<=T/\T<9223372036854775808:=by
   have:=Int.mul_le_mul_of_nonneg_right (show r<=2147483647 by omega) (show (0:Int)<=4294967296 by omega);omega
  have Q0:0<=Q:=by rw[<- Z]; exact Int.ediv_nonneg dk.1 D6
  have Q1:Q<4294967296:=by
   rw[<- Z];refine Int.ediv_lt_of_lt_mul D6 ?_;omega
  have ed:T / 2^s=Q:=by rw[<- Z,<- HD.out]; simp
  have dP:bits .and Eg T (d-1)=R:=by rw[<- be,<- HD.out]; exact YV dk.1 D6 hs
  have em:IntKind.u64.wrap (2^s:Int)=d:=by
   have e:(2^s:Int)=d:=by rw[<- HD.out]; simp
   rw[e,wrap_u64 D6 D6]
  have HH:=E7 (E8 hb (E8 hu (E8 N (E8 hT (E8 Z be)))));dsimp only;rw[hu];clear hb hu N hv bl fa b1 b2 b3 b4 b5 bh dc S1 hT Z be
  gi_wp2_with fail
  have e1:(W.setCell ⟨w.heap.size+1+1+1,0,none⟩ (Ey Eg T)).cell? ⟨w.heap.size,0,none⟩=some (Ey Ew s):=(World.cell?_of_block (Below.heap_setCell _ _ _ _ (by dsimp only; omega))).trans cn;have e2:(W.setCell ⟨w.heap.size+1+1+1,0,none⟩ (Ey Eg T)).cell? ⟨w.heap.size+1+1,0,none⟩=some (Ex (some ⟨w.heap.size+1,0,none⟩) len len):=(World.cell?_of_block (Below.heap_setCell _ _ _ _ (by dsimp only; omega))).trans ci;have e3:(W.setCell ⟨w.heap.size+1+1+1,0,none⟩ (Ey Eg T)).cell? ⟨w.heap.size+1+1+1,0,none⟩=some (Ey Eg T):=World.cell?_setCell_same' _ _ _ (by rw[b9]; rfl);have e4:(W.setCell ⟨w.heap.size+1+1+1,0,none⟩ (Ey Eg T)).cell? ⟨w.heap.size+1,i,none⟩=some (Ey Eu v):=(World.cell?_of_block (Below.heap_setCell _ _ _ _ (by dsimp only; omega))).trans cZ;have e5:(W.setCell ⟨w.heap.size+1+1+1,0,none⟩ (Ey Eg T)).frozen? ⟨w.heap.size+1,i,none⟩=false:=(World.frozen?_setCell _ _ _ _).trans dy;have e6:(W.setCell ⟨w.heap.size+1+1+1,0,none⟩ (Ey Eg T)).frozen? ⟨w.heap.size+1+1+1,0,none⟩=false:=(World.frozen?_setCell _ _ _ _).trans cy;obtain⟨W1,ce⟩:∃X,W.setCell ⟨w.heap.size+1+1+1,0,none⟩ (Ey Eg T)=X:=⟨_,rfl⟩;rw[ce]at e1 e2 e3 e4 e5 e6|-;have br:=E7 ce;clear ce
  refine jg (fun D _ I=>∃m,I=(GP ⟨w.heap.size+1,i,none⟩ (Ey Eu Q) (D 8) W1).drewN m)
   (aj.inl [8]) (aj.ge []) aj.aQ (fun _=>aj.Any) (fun _ _=>False) (aj.pl []) (aj.pl [])
   D7 D7 D7 D7 (aj.cC _) (fun v=> ?_) (fun _ _ _ _ _ h=>h) (fun _ _ _ _ _ _ _ _ _ _ _ _ _=>aj.none_) (fun _ _ _ _ h=>h.elim) (fun ah Q' bf hQ=> ?_)
  . exact⟨1,rfl⟩
  apply aj.RP rfl rfl rfl 37 rfl rfl
  .
   intro D v' I hc H hf K E;obtain⟨m,rfl⟩:=H;have c1:=(ZS (p:=⟨w.heap.size+1,i,none⟩) (x:=(Ey Eu Q)) (b:=D 8) (W:=W1) (z:=⟨w.heap.size+1+1,0,none⟩) (by dsimp only; omega));rw[e2]at c1;go_step;exact E.out
  . rfl
  refine aj.aG 38 ?_;apply aj.RP rfl rfl rfl 39 rfl rfl
  .
   intro D v' I hc H hf K E;obtain⟨m,rfl⟩:=H;have c1:=(ZS (p:=⟨w.heap.size+1,i,none⟩) (x:=(Ey Eu Q)) (b:=D 8) (W:=W1) (z:=⟨w.heap.size+1+1+1,0,none⟩) (by dsimp only; omega));rw[e3]at c1;go_step;exact E.out
  . rfl
  apply aj.RP rfl rfl rfl 40 rfl rfl
  .
   intro D v' I hc H hf K E;obtain⟨m,rfl⟩:=H;have c1:=(ZS (p:=⟨w.heap.size+1,i,none⟩) (x:=(Ey Eu Q)) (b:=D 8) (W:=W1) (z:=⟨w.heap.size,0,none⟩) (by dsimp only; omega));rw[e1]at c1;go_step;exact E.out
  . rfl
  repeat refine aj.aG _ ?_
  refine aj.dF (fun D v' I hc H hf K E=> ?_) (fun _ _=>aj.aB (b:=⟨_,[]⟩) rfl ?_)
  .
   obtain⟨m,rfl⟩:=H;have bt:D 8=false:=hc.1;rw[bt];have c1:((GP ⟨w.heap.size+1,i,none⟩ (Ey Eu Q) false W1).drewN m).cell? ⟨w.heap.size+1,i,none⟩=_:=e4;have c2:((GP ⟨w.heap.size+1,i,none⟩ (Ey Eu Q) false W1).drewN m).frozen? ⟨w.heap.size+1,i,none⟩=_:=e5;go_step;exact E.out En _ aj.any ⟨m,rfl⟩ aj.none_ trivial
  refine aj.aE (fun D v' I hd H hf=> ?_);obtain⟨m,J⟩:=H;rw[hd 8 D8]at J;replace J:I=(W1.setCell ⟨w.heap.size+1,i,none⟩ (Ey Eu Q)).drewN m:=J;clear hd hf;refine hQ _ _ ?_;clear hQ bf Q' ah;have f1:I.cell? ⟨w.heap.size,0,none⟩=some (Ey Ew s):=by rw[J]; exact(World.cell?_of_block (Below.heap_setCell _ _ _ _ (by dsimp only; omega))).trans e1
  have f3:I.cell? ⟨w.heap.size+1+1+1,0,none⟩=some (Ey Eg T):=by rw[J]; exact(World.cell?_of_block (Below.heap_setCell _ _ _ _ (by dsimp only; omega))).trans e3
  have f6:I.frozen? ⟨w.heap.size+1+1+1,0,none⟩=false:=by rw[J]; exact(World.frozen?_setCell _ _ _ _).trans e6
  have bi:=E7 J;clear J e1 e2 e3 e4 e5 e6
  gi_wp2_with fail
  refine jg (fun D _ Y=>∃m,Y=(GP ⟨w.heap.size+1+1+1,0,none⟩ (Ey Eg R) (D 6) I).drewN m)
   (aj.inl [6]) (aj.ge []) aj.aQ (fun _=>aj.Any) (fun _ _=>False) (aj.pl []) (aj.pl [(0,[6])])
   D7 D7 D7 D7 (aj.cC _) (fun v=> ?_) (fun _ _ _ _ _ h=>h) (fun _ _ _ _ _ _ _ _ _ _ _ _ _=>aj.none_) (fun _ _ _ _ h=>h.elim) (fun ah Q' bf hQ=> ?_)
  . exact⟨1,rfl⟩
  apply aj.RP rfl rfl rfl 45 rfl rfl
  .
   intro D v' Y hc H hf K E;obtain⟨m2,rfl⟩:=H;have cN:D 6=false:=hc.2 6 D8;have c1:(GP ⟨w.heap.size+1+1+1,0,none⟩ (Ey Eg R) (D 6) I).cell? ⟨w.heap.size+1+1+1,0,none⟩=some (Ey Eg T):=by rw[cN]; exact f3
   clear cN;go_step;exact E.out
  . rfl
  apply aj.RP rfl rfl rfl 46 rfl rfl
  .
   intro D v' Y hc H hf K E;obtain⟨m2,rfl⟩:=H;have c1:=(ZS (p:=⟨w.heap.size+1+1+1,0,none⟩) (x:=(Ey Eg R)) (b:=D 6) (W:=I) (z:=⟨w.heap.size,0,none⟩) (by dsimp only; omega));rw[f1]at c1;go_step;exact E.out
  . rfl
  apply aj.RP rfl rfl rfl 47 rfl rfl
  .
   intro D v' Y hc H hf K E;obtain⟨m2,rfl⟩:=H;go_step;exact E.out
  . rfl
  apply aj.RP rfl rfl rfl 48 rfl rfl
  .
   intro D v' Y hc H hf K E;obtain⟨m2,rfl⟩:=H;go_step;exact E.out
  . rfl
  apply aj.RP rfl rfl rfl 49 rfl rfl
  .
   intro D v' Y hc H hf K E;obtain⟨m2,rfl⟩:=H;go_step;exact E.out
  . rfl
  apply aj.RP rfl rfl rfl 50 rfl rfl
  .
   intro D v' Y hc H hf K E;obtain⟨m2,rfl⟩:=H;go_step;exact E.out
  . rfl
  refine aj.aC rfl (by intro t ht; cases ht) rfl (fun D v' Y hc H hf K E=> ?_) (fun _ _=>aj.aB (b:=⟨_,[]⟩) rfl ?_)
  .
   obtain⟨m2,rfl⟩:=H;have bt:D 6=false:=hc.1;rw[bt];have c1:((GP ⟨w.heap.size+1+1+1,0,none⟩ (Ey Eg R) false I).drewN m2).cell? ⟨w.heap.size+1+1+1,0,none⟩=_:=f3;have c2:((GP ⟨w.heap.size+1+1+1,0,none⟩ (Ey Eg R) false I).drewN m2).frozen? ⟨w.heap.size+1+1+1,0,none⟩=_:=f6;go_step;exact E.out En _ aj.any ⟨m2,rfl⟩ aj.none_ trivial
  refine aj.aE (fun D v' Y hd H hf=> ?_);obtain⟨m2,M⟩:=H;rw[hd 6 D8]at M;replace M:Y=(I.setCell ⟨w.heap.size+1+1+1,0,none⟩ (Ey Eg R)).drewN m2:=M;clear hd hf;refine hQ _ _ ?_;clear hQ bf Q' ah
  gi_wp2
  obtain⟨dt,hu,N,hT,Z,be⟩:=HH.out;have dx:=(SO pre).1;have SN:=Yn d A len pre ⟨i,hi⟩;have K1:KeepsOthers W W1:=by rw[<- br.out]; exact KeepsOthers.setCell W ⟨w.heap.size+1+1+1,0,none⟩ (Ey Eg T)
  have K2:KeepsOthers W1 I:=by
   rw[bi.out];have:=KeepsOthers.setCell W1 ⟨w.heap.size+1,i,none⟩ (Ey Eu Q);exact⟨this.size,this.same⟩
  have K3:KeepsOthers I Y:=by
   rw[M];have:=KeepsOthers.setCell I ⟨w.heap.size+1+1+1,0,none⟩ (Ey Eg R);exact⟨this.size,this.same⟩
  have k1:KeepsOthers W Y:=(K1.trans K2).trans K3;have q1:∀k,k≠w.heap.size+1+1+1->W1.heap[k]? = W.heap[k]? :=fun k h=>by rw[<- br.out]; exact Below.heap_setCell _ _ _ _ h
  have q2:∀k,k≠w.heap.size+1->I.heap[k]? = W1.heap[k]? :=fun k h=>by rw[bi.out]; exact Below.heap_setCell _ _ _ _ h
  have q3:∀k,k≠w.heap.size+1+1+1->Y.heap[k]? = I.heap[k]? :=fun k h=>by rw[M]; exact Below.heap_setCell _ _ _ _ h
  have k3:∀k,k≠w.heap.size+1->k≠w.heap.size+1+1+1->Y.heap[k]? = W.heap[k]? :=fun k h1 h2=>(q3 k h2).trans ((q2 k h1).trans (q1 k h2))
  have k2:KD w.heap.size (w.heap.size+1+1+1+1) W Y:=by
   refine⟨?_,k3 _ D6 D6⟩;rw[M];refine yS (Below.setCell (p:=⟨w.heap.size+1+1+1,0,none⟩) ?_ (show w.heap.size<=w.heap.size+1+1+1 by omega) _) m2;rw[bi.out];refine yS (Below.setCell (p:=⟨w.heap.size+1,i,none⟩) ?_ (show w.heap.size<=w.heap.size+1 by omega) _) m;rw[<- br.out];exact(Fz w.heap.size W).setCell (p:=⟨w.heap.size+1+1+1,0,none⟩) (show w.heap.size<=w.heap.size+1+1+1 by omega) _
  refine⟨k1.from _,k2,⟨?_,?_,?_,?_,?_⟩,hB.trans k2.1⟩
  .
   rw[SN];have dl:ai W1 (w.heap.size+1) 172 (zK (kW d A len pre).1).toArray:=(q1 _ D6).trans dt;have cx:=(dl.bH i (Ey Eu Q)).drewN m;rw[<- bi.out]at cx;have d9:ai Y (w.heap.size+1) 172 _:=(q3 _ D6).trans cx;dsimp only[j4];rw[N,hu,hT,Z];rw[show (zK (kW d A len pre).1).toArray.setIfInBounds i (Ey Eu Q)=(zK ((kW d A len pre).1.set i Q)).toArray by simp[zK,List.map_set]]at d9;exact d9
  . exact(World.cell?_of_block (a:=⟨w.heap.size,0,none⟩) (k3 w.heap.size D6 D6)).trans cn
  . exact(World.cell?_of_block (a:=⟨w.heap.size+1+1,0,none⟩) (k3 (w.heap.size+1+1) D6 D6)).trans ci
  .
   rw[SN,M];dsimp only[j4];rw[N,hu,hT,be];exact World.cell?_setCell_same' _ _ _ (by rw[f3]; rfl)
  .
   rw[M];exact(World.frozen?_setCell _ _ _ _).trans f6
 case done=>
  rintro D ys W hD rfl ⟨⟨hb,cn,ci,b9,cy⟩,hB⟩ E;have er:D<W.heap.size:=(Array.getElem?_eq_some_iff.1 E).1;obtain⟨qs,f1,f2,f3⟩:=Xf (d:=d) a9 d0 len (Ep _);rw[Nat.sub_self,List.replicate_zero,List.nil_append]at f1;rw[Nat.sub_self,List.drop_zero]at f3;have S1:=SO (yQ len len (Ep _));obtain⟨r,N⟩:∃r,(kW d A len (yQ len len (Ep _))).2=r:=⟨_,rfl⟩;rw[N]at b9 f3 S1;rw[f1]at hb S1;have QR:=jM f3 S1.2.2.1 S1.2.2.2
  have LQ:aA W (Ex (some ⟨w.heap.size+1,0,none⟩) len len) qs:=by
   have:=aA.a_ hb S1.2.1;rw[f2]at this;exact this
  have HQ:=E7 (E8 QR (E8 S1.2.1 f2));have HB:=E7 hB;have HK:=E7 E;clear hb N f1 f3 S1 QR hB E bl fa b1 b2 b3 b4 b5 bh dc SO
  gi_wp2_with fail
  refine wpIn_wide.2 ?_;go_wp2_with fail
  go_quiet (fail)
  gi_wp2
  have cg:(W.drewN nq).heap[D]? = some (.deferred (some [])):=HK.out;refine⟨by simp,.inl ⟨_,_,rfl,run_takeDeferred cg,?_⟩⟩;refine⟨Ev #[Ex (some ⟨w.heap.size+1,0,none⟩) len len,Ez (decide (0<r))],?_,Ex (some ⟨w.heap.size+1,0,none⟩) len len,qs,?_,?_,?_,?_,?_,?_⟩
  . simp[results,Tryz.f165,go_sem]
  . rw[HQ.out.1.2]
  . exact j_ (A:=W.drewN nq) LQ (grownBy_putObj' _ D (.deferred none)) (fun r e=>by cases e; exact⟨_,cg,rfl⟩)
  . exact HQ.out.1.1.symm
  . exact HQ.out.2.1
  . exact HQ.out.2.2
  . exact(zA (W:=W.drewN nq) (yS HB.out nq) (Ep _) (Fz _ _)).trans (belowK_b (w:=w) (Ep _) _ D _ _ (by simp at hD; omega) cg rfl rfl)
 case stop=>
  rintro D c pre W _ _ h _;exact h.elim
end
section
open Go.RowKit
variable {P:Int} {n:Nat} {x:Ei} {W w1:Ef}
def bQ (w1 W:Ef) (x:Ei) (n:Nat) (P:Int):Prop:=∃g cap post L,x = Ex (some ⟨g,0,none⟩) n cap/\w1.heap.size<=g/\n<=cap/\yv L/\L.length=n/\zj L=P/\ai W g 172 (xG [] L post)
theorem bQ.ae {E:Ef} (h:bQ w1 W x n P) (H:zf W E):bQ w1 E x n P:=by
 obtain⟨g,cap,post,L,X,J,Y,T,M,N,I⟩:=h;exact⟨g,cap,post,L,X,J,Y,T,M,N,I.ae H⟩
def ZC:Ei->Nat
 | Ex (some p) _ _=>p.block
 | _=>0
theorem bQ.lt (h:bQ w1 W x n P):ZC x<W.heap.size:=by
 obtain⟨g,cap,post,L,rfl,-,-,-,-,-,E⟩:=h;exact E.lt
theorem bQ.ge (h:bQ w1 W x n P):w1.heap.size<=ZC x:=by
 obtain⟨g,cap,post,L,rfl,h,-⟩:=h;exact h
def Hi (n:Nat) (x:Ei):Prop:=∃g cap,x = Ex (some ⟨g,0,none⟩) n cap/\n<=cap
theorem bQ.fM (h:bQ w1 W x n P):Hi n x:=by
 obtain⟨g,cap,post,L,rfl,-,h,-⟩:=h;exact⟨g,cap,rfl,h⟩
theorem bQ.mono {E:Ef} (h:bQ w1 W x n P) (hw:E.heap.size<=w1.heap.size):bQ E W x n P:=by
 obtain⟨g,cap,post,L,J,I,H⟩:=h;exact⟨g,cap,post,L,J,Nat.le_trans hw I,H⟩
theorem XH {a d:Ei} {A D:Int} {m:Nat} (w:Ef) (ha:aA w a (zp A)) (hd:aA w d (zp D)) (A0:0<=A) (D0:1<=D) (dt:(zp A).length<=1000000) (nD:(zp D).length=m+2) (gO:D<=A) :
  Ee Ed 135 #[a,d] w fun e X=>∃q r,e = Eh (Ev #[q,r])/\aA X q (zp (A / D))/\aA X r (zp (A%D))/\zf w X:=by
 have nA:(zp A).length<=aD:=by unfold aD; omega
 have dx:m+2<=(zp A).length:=by
  rcases Nat.lt_or_ge (zp A).length (m+2)with h | h
  . have:=ye A0 (show 0<=D by omega) D6; omega
  . exact h
 obtain⟨K,hK⟩:∃K,(zp A).length+1=K+(m+2):=⟨(zp A).length+1-(m+2),by omega⟩;obtain⟨c,hc⟩:∃c,zM A D=c:=⟨_,rfl⟩
 have c0:0<=c:=by
  rw[<- hc]; unfold zM
  split
  . omega
  . rw[E_ D6]; omega
 have cc:Ee Ed 136 #[a,d] w fun e X=>e = Eh (Ey Ew c)/\zf w X:=by
  have:=qK w ha hd A0 D6 nA D6;rw[hc]at this;exact this
 have vD:=zE (show 0<=D by omega);have vA:=zE A0;have oD:=xr D;have oA:=xr A;have tD:=Zj (xR D) nD;obtain⟨Dl,cN⟩:∃l,zp D=l:=⟨_,rfl⟩;obtain⟨Al,er⟩:∃l,zp A=l:=⟨_,rfl⟩;rw[cN]at hd vD oD tD nD;rw[er]at ha vA oA nA dt hK dx;obtain⟨t,ht⟩:∃t,Dl.getD (m+1) 0=t:=⟨_,rfl⟩;have t0:=zI oD (m+1);rw[ht]at t0 tD;have la:=hd;obtain⟨aa,ca,rfl⟩:=ha.ak;obtain⟨ad,cd,rfl⟩:=hd.ak;obtain⟨-,-,ld,fd⟩:=hd.cells;obtain⟨bd,fl,rfl,gI,gr⟩:=fd D6;have g0:=gr (m+1) D6;rw[ht]at g0;have lz:=fun X=>C3 t X D6 t0.2;have s0:∀sv:Nat,2147483648<=t*((2^sv:Nat):Int)->t*((2^sv:Nat):Int)<4294967296->sv<=31->Hid (2147483648<=t*((2^sv:Nat):Int)/\t*((2^sv:Nat):Int)<4294967296):=fun _ h1 h2 _=>⟨h1,h2⟩;have HA:=E7 ha;have HD:=E7 hd;obtain⟨nl,br⟩:∃n,Al.length=n:=⟨_,rfl⟩;have Z:Hid (zj Dl=D/\zj Al=A/\yv Dl/\yv Al/\Dl.length=m+2/\Al.length=nl/\Dl.getD (m+1) 0=t):=⟨vD,vA,oD,oA,nD,br,ht⟩;rw[br]at nA dt dx hK cc HA|-;rw[nD]at ld cc HD|-;have gN:=E7 cN;clear la ha hd fd gr vD vA oD oA nD br ht cN er hc tD t0;unfold aD at nA
 go_enter Tryz.func135,Tryz.ntmps135
 go_wp2_with (first
  | (go_at_call 136; refine cc.mono ?_; rintro e w1 ⟨rfl,Y⟩; have g1:=(Y.cell (p:=⟨bd,fl+(m+1),none⟩) gI).trans g0)
  | (go_at_call 162; refine(lz _).mono ?_; rintro e w2 ⟨sv,rfl,s1,s2,s3,rfl⟩; have ah:=s0 sv s2 s3 s1; clear s2 s3 s0 lz))
 obtain⟨P,hP⟩:∃P,((2^sv:Nat):Int)=P:=⟨_,rfl⟩;have P0:1<=P:=by have:=Nat.one_le_two_pow (n:=sv); omega
 have P1:P<=2147483648:=by have:=Nat.pow_le_pow_right (show 0<2 by omega) s1; simp at this; omega
 have PQ:P*((2^(32-sv):Nat):Int)=4294967296:=by
  rw[<- hP,<- Int.natCast_mul,<- Nat.pow_add,show sv+(32-sv)=32 by omega]; decide
 have HN:=E7 (fun(L:List Int) (oL:yv L) (lL:L.length=m+3) (hL:zj L=zj Dl*P)=>X' Z.out.2.2.1 Z.out.2.2.2.2.1 oL lL hL P0 PQ (by rw[Z.out.2.2.2.2.2.2,<- hP]; exact ah.out.1) (by rw[Z.out.2.2.2.2.2.2,<- hP]; exact ah.out.2));have HP:=E7 (E8 hP PQ)
 have fe:∀w2,zf w1 w2->Ee Ed 163 #[Ex (some ⟨bd,fl,none⟩) (m+2) cd,Ey Ew sv] w2 fun e X=>∃x,e = Eh x/\bQ w2 X x (m+3) (zj Dl*P)/\zf w2 X:=fun w2 hs=>by
  refine(GN w2 ((HD.out.ae Y).ae hs) (by have:=Z.out.2.2.2.2.1; unfold aD; omega) s1).mono ?_;rintro e X ⟨v,L,rfl,h1,h2,h3,h4,h5⟩;rw[Z.out.2.2.2.2.1]at h3 h4;obtain⟨g,cap,post,rfl,k1,k2,k3⟩:=vF h4 D6;exact⟨_,rfl,⟨g,cap,post,L,rfl,k1,k2,h1.ok,h3,by rw[h2,hP],k3⟩,h5⟩
 have gp:∀w2,zf w1 w2->Ee Ed 163 #[Ex aa nl ca,Ey Ew sv] w2 fun e X=>∃x,e = Eh x/\bQ w2 X x (K+(m+2)) (zj Al*P)/\zf w2 X:=fun w2 hs=>by
  refine(GN w2 ((HA.out.ae Y).ae hs) (by have:=Z.out.2.2.2.2.2.1; unfold aD; omega) s1).mono ?_;rintro e X ⟨v,L,rfl,h1,h2,h3,h4,h5⟩;rw[Z.out.2.2.2.2.2.1]at h3 h4;rw[hK]at h3 h4;obtain⟨g,cap,post,rfl,k1,k2,k3⟩:=vF h4 D6;exact⟨_,rfl,⟨g,cap,post,L,rfl,k1,k2,h1.ok,h3,by rw[h2,hP],k3⟩,h5⟩
 have gG:=xK K D6;clear hP PQ ah g0 g1 cc
 refine aj.aJ (fun D v W=>zf w1 W/\(D 2=true->bQ w1 W (v 2) (m+3) (zj Dl*P))/\(D 7=true->bQ w1 W (v 7) (K+(m+2)) (zj Al*P))/\(D 2=true->D 7=true->ZC (v 2)≠ZC (v 7)))
  (aj.inl [2,7]) (aj.gv [(2,Hi (m+3)),(7,Hi (K+(m+2)))]) aj.aQ (fun _=>aj.Any) (fun _ _=>False) (aj.pl [(10,[(2,some 43),(7,some 48)])]) (aj.pl [])
  D7 D7 D7 (aj.aY _ (by intro p hp; simp only[List.mem_cons,List.not_mem_nil,or_false]at hp; rcases hp with rfl | rfl<;>exact⟨_,0,_,rfl,Ep _⟩)) (fun v=> ?_) (fun D v v' W hv J=> ?_) (fun _ _ _ _ _ _ _ _ _ _ _ _ _=>aj.none_) (fun _ _ _ _ h=>h.elim) (fun dP Q' f9 hQ=> ?_)
 . exact⟨(Fz _ w1).drew,fun h=>Bool.noConfusion h,fun h=>Bool.noConfusion h,fun h=>Bool.noConfusion h⟩
 .
  refine⟨J.1,fun h=> ?_,fun h=> ?_,fun h h'=> ?_⟩
  . rw[<- hv 2 h]; exact J.2.1 h
  . rw[<- hv 7 h]; exact J.2.2.1 h
  . rw[<- hv 2 h,<- hv 7 h']; exact J.2.2.2 h h'
 repeat refine aj.aG _ ?_
 refine aj.aC rfl (by intro t ht; cases ht; exact Ec rfl) rfl (fun D v' I hc J hf K hK=> ?_) ?_
 .
  have Y:D 2=false:=hc.1;go_step;refine(fe I J.1).mono ?_;rintro e W2 ⟨x,rfl,hr,hs⟩;refine hK.out x W2 aj.any ⟨J.1.trans (hs.mono J.1.size),?_,?_,?_⟩ aj.none_ hr.fM
  . intro _; exact hr.mono J.1.size
  . intro h; exact(J.2.2.1 h).ae hs
  . intro _ h; have:=(J.2.2.1 h).lt; have:=hr.ge; exact fun e=>by have e':ZC x=ZC (v' 7):=e; omega
 rintro _ ⟨g2,bf,rfl,gC⟩;refine aj.aB (b:=⟨#[_,_,_,_,_,_,_,_,_,_,_,_,_,_,_,_,_,_,_,_,_,_,_,_,_,_,_,_,_,_,_,_,_,_,_,_,_,_,_,_,_,_,_,_,_,_,_,_,_,_,_,_,_,_,_,_,_,_,_,_,_,_,_,_,_,_,_,_,_,_,_,_,_,_,_,_,_,_,_,_,_,_,_,_],[]⟩) rfl ?_
 repeat refine aj.aG _ ?_
 refine aj.aC rfl (by intro t ht; cases ht; exact Ec rfl) rfl (fun D v' I hc J hf K hK=> ?_) ?_
 .
  have Y:D 7=false:=hc.1;go_step;refine(gp I J.1).mono ?_;rintro e W2 ⟨x,rfl,hr,hs⟩;refine hK.out x W2 aj.any ⟨J.1.trans (hs.mono J.1.size),?_,?_,?_⟩ aj.none_ hr.fM
  . intro h; exact(J.2.1 h).ae hs
  . intro _; exact hr.mono J.1.size
  . intro h _; have:=(J.2.1 h).lt; have:=hr.ge; exact fun e=>by have e':ZC (v' 2)=ZC x:=e; omega
 rintro _ ⟨g7,M,rfl,gA⟩;refine aj.aB (b:=⟨#[_,_,_,_,_,_,_,_,_,_,_,_,_,_,_,_,_,_,_,_,_,_,_,_,_,_,_,_,_,_,_,_,_,_,_,_,_,_,_,_,_,_,_,_,_,_,_,_,_,_,_,_,_,_,_,_,_,_,_,_,_,_,_,_,_,_,_,_,_,_,_,_,_,_,_,_,_,_,_,_,_,_,_,_],[]⟩) rfl ?_
 repeat refine aj.aG _ ?_
 refine aj.aE (fun Dn v' I hd J hf=> ?_);obtain⟨gk,bl,bh,b9⟩:=J;replace bl:=bl (hd 2 D8);replace bh:=bh (hd 7 D8);replace b9:=b9 (hd 2 D8) (hd 7 D8);have e2:v' 2 = Ex (some ⟨g2,0,none⟩) (m+3) bf:=(hf (2,some 43) (by show (2,some 43)∈ [(2,some 43),(7,some 48)]; simp) rfl).2.1;have e7:v' 7 = Ex (some ⟨g7,0,none⟩) (K+(m+2)) M:=(hf (7,some 48) (by show (7,some 48)∈ [(2,some 43),(7,some 48)]; simp) rfl).2.1;rw[e2]at bl b9;rw[e7]at bh b9;replace b9:g2≠g7:=b9;clear hf hd e2 e7;obtain⟨gv,capv,gJ,Lv,hx,gQ,gz,ov,lv,vv,bv⟩:=bl;obtain⟨rfl⟩:g2=gv/\True:=by simp only[Value.slice.injEq,Option.some.injEq,Addr.mk.injEq]at hx; exact⟨hx.1.1,trivial⟩
 clear hx;obtain⟨gu,capu,H,Lu,hx,gK,gH,ou,lu,vu,bu⟩:=bh;obtain⟨rfl⟩:g7=gu/\True:=by simp only[Value.slice.injEq,Option.some.injEq,Addr.mk.injEq]at hx; exact⟨hx.1.1,trivial⟩
 clear hx gz gH;refine hQ _ _ ?_;clear hQ f9 Q' dP fe gp;have NT:=HN.out Lv ov lv vv;obtain⟨T,bg⟩:∃l,Lv.take (m+2)=l:=⟨_,rfl⟩;rw[bg]at NT;have ce:yv T:=by rw[<- bg]; exact z8 ov _
 have lV:T.length=m+2:=by rw[<- bg,List.length_take]; omega
 have ec:Cells I g2 0 T:=fun t ht=>by
  rw[lV]at ht;rw[bv.cell,xm (j:=0) rfl D6,<- bg];simp[List.getD,List.getElem?_take,ht]
 have gE:g2<I.heap.size:=bv.lt;have gL:g7<I.heap.size:=bu.lt;have vV:zj T<bp (m+2):=by have:=yO ce; rwa[lV]at this
 have start:zj (Lu.drop K)<zj T:=by
  refine Yf (la:=nl) (A:=A) (P:=P) ou lu hK (by rw[vu,Z.out.2.1]) ?_ A0 P0 P1 (by rw[NT.1]; exact NT.2.2);have:=yO Z.out.2.2.2.1;rw[Z.out.2.1,Z.out.2.2.2.2.2.1]at this;exact this
 have hB:Below w.heap.size w I:=zA Y (Ep _) gk;have HS:=E7 (E8 NT (E8 vu (E8 ce (E8 lV vV))));have ah:=E7 lu;have z1:=Y.size;clear bg bv NT lv lu vv vu HN ov ce lV vV gk Y;go_wp2_with fail
 obtain⟨W3,bi⟩:∃W,I.alloc (.cells (madeCells #[Ey Eu 0] K) 172)=W:=⟨_,rfl⟩;have SW:zf I W3:=by rw[<- bi]; exact(Fz _ _).alloc (Ep _) _
 have K0:ai W3 I.heap.size 172 (zK (List.replicate K 0 ++ [])).toArray:=by
  have:=ai.new I 172 (madeCells #[Ey Eu 0] K);rw[bi,yC,<- List.append_nil (List.replicate K (0:Int))]at this;exact this
 have em:ai W3 g7 172 (xG [] Lu H):=bu.ae SW;have ek:Cells W3 g2 0 T:=ec.below SW gE;have BW:Below w.heap.size w W3:=zA hB (Ep _) SW;have gq:I.heap.size<W3.heap.size:=K0.lt;rw[bi];have z2:=hB.size;clear gG bu bi SW ec hB
 go_loopw [12] (fun jv wr=>∃ (k:Nat) (E qs:List Int),k<=K/\jv = Ey Ew ((k:Int)-1)/\yv E/\E.length=K+(m+2)/\yv qs/\qs.length+k=K/\zj E+zj T*(bp k*zj qs)=zj Al*P/\zj (E.drop k)<zj T/\
   ai wr g7 172 (xG [] E H)/\ai wr I.heap.size 172 (zK (List.replicate k 0++qs)).toArray/\Cells wr g2 0 T/\Below w.heap.size w wr) (fun j _=>(intOf j+1).toNat)
 case atStart=>exact⟨K,Lu,[],Ep _,by go_num,ou,ah.out,z6,by simp,by simp[zj]; exact HS.out.2.1,start,em,K0,ek,BW⟩
 case round=>
  obtain⟨k,E,qs,hk,d9,oU,lU,oq,lq,vq,dq,cg,a9,cZ,cx⟩:=hrel;clear start em K0 ek BW
  rcases Nat.eq_zero_or_pos k with rfl | hp
  .
   rename Ef=>w4;have ft:=d9.trans (show Value.int Ew (((0:Nat):Int)-1)=Value.int Ew (-1) from rfl);clear d9;subst ft;have bt:qs.length=K:=D6
   rw[kD,Int.one_mul]at vq;rw[List.drop_zero]at dq
   have dl:aA w4 (Ex (some ⟨I.heap.size,0,none⟩) K K) qs:=by
    have:=aA.a_ a9 oq;rw[List.replicate_zero,List.nil_append,bt]at this;exact this
   have eM:aA w4 (Ex (some ⟨g7,0,none⟩) (K+(m+2)) M) E:=by
    have:=aA.dW (w:=w4) (g:=g7) (cs:=zK E++H) (cap:=M) (o:=0) (l:=E) (by have h:=cg; unfold xG at h; exact h) oU (fun t ht=>by rw[Nat.zero_add,List.getElem?_append_left (by rw[yF]; exact ht)]; exact xS _ _ ht) D6;rw[lU]at this;exact this
   have e0:=zG oU;have DP:zj T=D*P:=by rw[HS.out.1.1,Z.out.1]
   have hP:=HP.out;obtain⟨W,hW⟩:∃W,A%D=W:=⟨_,rfl⟩
   have QR:A / D=zj qs/\zj E=W*P:=by
    have h1:=jM (A:=A*P) (D:=D*P) (q:=zj qs) (r:=zj E) (by rw[<- DP]; rw[Z.out.2.1]at vq; omega) e0 (by rw[<- DP]; exact dq);rw[Int.mul_ediv_mul_of_pos_left _ _ D6]at h1;have h2:=Int.mul_ediv_add_emod A D;have h3:A*P=(D*(A / D)+A%D)*P:=by rw[h2]
    rw[Int.add_mul,Int.mul_right_comm,hW,h1.1]at h3;rw[Z.out.2.1,DP]at vq;exact⟨h1.1,by omega⟩
   have tv:zj (zS E) / ((2^sv:Nat):Int)=W:=by
    rw[kR,QR.2,HP.out.1,Int.mul_ediv_cancel _ D6]
   have tl:(zS E).length<=aD:=by have:=vw E; unfold aD; omega
   have lq:qs.length<=aD:=by unfold aD; omega
   have HE:=E7 (E8 QR.1 (E8 oq (E8 tv hW)));have HU:=E7 lU;have gP:=E7 bt;clear oU lU oq bt vq dq cg a9 cZ QR DP e0 HS ah hP tv hW
   go_wp2_with (first
    | (go_at_call 133; refine(Y' _ eM (by have:=HU.out; unfold aD; omega)).mono ?_; clear eM; rintro e w5 ⟨v5,rfl,eW,dy⟩; have g8:=dl.ae dy; clear dl)
    | (go_at_call 165; refine(Hh _ eW tl s1).mono ?_; clear eW; rintro e w6 ⟨v6,l6,rfl,f7,ci,gd,dk,ed⟩; rw[HE.out.2.2.1]at ci; have gn:=g8.ae ed; clear g8; have gj:=E7 (E8 ci gd); have gF:Hid (l6.length<=aD):=Nat.le_trans (Nat.le_of_eq dk) tl; clear ci gd dk)
    | (go_at_call 133; refine(Y' _ gn lq).mono ?_; clear gn; rintro e w7 ⟨v7,rfl,gB,f8⟩; have g9:=f7.ae f8; clear f7)
    | (go_at_call 133; refine(Y' _ g9 gF.out).mono ?_; clear g9; rintro e w8 ⟨v8,rfl,gt,gi⟩))
   go_returns
   have cy:=HE.out;refine⟨_,_,rfl,?_,?_,zA (zA (zA (zA cx (Ep _) dy) (Ep _) ed) (Ep _) f8) (Ep _) gi⟩
   .
    rw[cy.1,yj cy.2.1];exact gB.ae gi
   .
    rw[cy.2.2.2];have:=yj gj.out.2;rw[gj.out.1]at this;rw[this];exact gt
  .
   obtain⟨j,rfl⟩:∃j,k=j+1:=⟨k-1,by omega⟩;subst d9;have gM:¬M=j:=D6
   have HU:=E7 (E8 oU (E8 lU (E8 oq (E8 lq (E8 vq dq)))));clear oU lU oq lq vq dq
   have dc:Ee Ed 164 #[Ex (some ⟨g7,j,none⟩) (j+(m+2)+1-j) (M-j),Ex (some ⟨g2,0,none⟩) (m+2) bf] wr fun e X=>∃ (x:Int) (Un:List Int),e = Eh (Ey Eu x)/\0<=x/\x<4294967296/\
     Hid (yv Un/\Un.length=K+(m+2)/\zj Un+zj T*(bp j*zj (x::qs))=zj Al*P/\zj (Un.drop j)<zj T)/\
     ai X g7 172 (xG [] Un H)/\wr.grownBy X (some g7):=by
    obtain⟨o1,o2,o3,o4,o5,o6⟩:=HU.out;have S:=Y6 (m:=m) o1 D6 HS.out.2.2.2.2 o6;have lT:(E.take j).length=j:=by rw[List.length_take]; omega
    have gD:=HS.out.1.2.1
    have C:=BE (m:=m) (pre:=zK (E.take j)) (post:=zK (E.drop (j+(m+3)))++H) (U:=(E.drop j).take (m+3)) (V:=T) (g:=g7) (j:=j) (b:=g2) (o:=0) (capu:=M-j) (capv:=bf) wr
     (by rw[<- Y9]; exact cg) (by rw[yF]; exact lT) (by rw[List.length_take,List.length_drop]; omega) (z8 (xJ o1 _) _) D6 cZ HS.out.2.2.2.1 HS.out.2.2.1 (Nat.lt_trans D6 a9.lt) D6 (by unfold aD; omega) gD S.1
    rw[show j+(m+2)+1-j=m+3 by omega];refine C.mono ?_;rintro e X ⟨U',rfl,k1,k2,k3,k4,k5⟩;rw[S.2.1]at k3|-;have p1:=xO (m+1);have eS:0<zj T:=by rw[HS.out.1.1]; have:=HS.out.1.2.2; omega
    have e0:=Int.mul_ediv_add_emod (zj (E.drop j)) (zj T);have n0:=zG (xJ o1 j);have q0:0<=zj (E.drop j) / zj T:=Int.ediv_nonneg n0 D6;have q1:zj (E.drop j) / zj T<4294967296:=Int.ediv_lt_of_lt_mul eS (by have:=S.1; rw[S.2.1,Int.mul_comm]at this; exact this);have m1:=Int.emod_lt_of_pos (zj (E.drop j)) eS;have N:=Y7 (m:=m) (j:=j) (U:=E) (S:=U') (qs:=qs) (q:=zj (E.drop j) / zj T) (V:=zj T) k1 D6 S.2.2 o5 (by rw[k3,Int.mul_comm (zj (E.drop j) / zj T)]; omega) (by rw[k3]; exact m1);refine⟨_,E.take j++(U'++E.drop (j+(m+3))),rfl,q0,q1,⟨?_,?_,N.1,N.2⟩,?_,k5⟩
    . exact xj.2 ⟨z8 o1 _,xj.2 ⟨k2,xJ o1 _⟩⟩
    . rw[List.length_append,List.length_append,lT,k1,List.length_drop]; omega
    . rw[<- Qc]; exact k4
   go_wp2_with (go_at_call 164; refine dc.mono ?_; clear dc; rintro e wd ⟨x,Un,rfl,x0,x1,HN,ey,cn⟩; have be:ai wd I.heap.size 172 (zK (List.replicate (j+1) 0++qs)).toArray:=(cn.block _ a9.lt (fun e=>by have:=Option.some.inj e; omega)).trans a9; have g2:wd.cell? ⟨I.heap.size,j,none⟩=some (Ey Eu 0):=be.c _ (by simp[zK,List.getElem?_append,List.getElem?_replicate]); have g3:wd.frozen? ⟨I.heap.size,j,none⟩=false:=be.fr _)
   go_roundw
   case rel=>
    obtain⟨o1,o2,o3,o4,o5,o6⟩:=HU.out;refine⟨j,Un,x::qs,by omega,rfl,HN.out.1,HN.out.2.1,zZ.2 ⟨⟨x0,x1⟩,o3⟩,by rw[List.length_cons]; omega,HN.out.2.2.1,HN.out.2.2.2,ey.aK D6,be.aW (Yh j _ qs),(cZ.grown cn (Nat.lt_trans D6 a9.lt) D6).set D6,?_⟩;exact(cx.grown cn cx.size (fun k hk=>by have:=Option.some.inj hk; omega)).setCell (p:=⟨I.heap.size,j,none⟩) (show w.heap.size<=I.heap.size by omega) _
   case measure=>simp[intOf]
end
end Go.Proofs.YtffmbepfbienaaaGreat
