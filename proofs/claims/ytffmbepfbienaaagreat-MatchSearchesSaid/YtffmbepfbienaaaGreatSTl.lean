import Derived.Test.YtffmbepfbienaaaGreatSRound
import Derived.Laws.CopyOwn
set_option linter.unusedVariables false
set_option linter.unusedSimpArgs false
set_option maxHeartbeats 6400000
set_option maxRecDepth 1000000
open Go.Value renaming slice->Ex,bool->Ez,int->Ey,pointer->Ek,tuple->Ev
open Go.IntKind renaming i64->Ew,u32->Eu,u64->Eg
open Go.Ending renaming returned->Eh
open Go.Proofs.Tryz renaming prog->Ec
open Go renaming Calls->Ed,World->Ee,Value->Ef,undef->Em
open Nat renaming le_refl->Eo
open Go.World renaming cell?->Er,size_alloc->Es
open Go.RowKit.Below renaming refl->Et
namespace Go.Proofs.YtffmbepfbienaaaGreat
section
open Go.RowKit
variable {gx gy:Bool} {A D x y:Int} {U:List Int} {post pre:List Ef} {j:Nat} {a d va:Ef}
theorem Uw {E:List Int} (J:pre.length=j) (H:E.length=U.length) :
  ((xP pre U post).toList.take j++(zI E++(xP pre U post).toList.drop (j+(zI E).length))).toArray=xP pre E post:=by
 subst J;have M:(xP pre U post).toList.take pre.length=pre:=by simp[xP]
 have I:(xP pre U post).toList.drop (pre.length+(zI E).length)=post:=by
  simp only[xP];rw[List.drop_append,List.drop_of_length_le D5,Nat.add_sub_cancel_left,List.nil_append,List.drop_append,List.drop_of_length_le (by simp[zI,H])];simp[zI,H]
 rw[M,I,xP]
theorem Be:(Tryz.prog.info? 172).map (·.size)=some 1:=by kernel_rfl
theorem Bf {g b o m capu capv:Nat} {V:List Int} (w:Ee) (hB:ai w g 172 (xP pre U post)) (hj:pre.length=j) (hU:U.length=m+3) (a9:yB U) (eM:m+3<=capu)
  (hV:Cells w b o V) (lV:V.length=m+2) (bg:yB V) (hb:b<w.heap.size) (em:b≠g) (hn:m+3<=zP) (bi:2147483648<=V.getD (m+1) 0) (ci:zo U<zo V*4294967296) :
  Ed Ec 164 #[Ex (some ⟨g,j,none⟩) (m+3) capu,Ex (some ⟨b,o,none⟩) (m+2) capv] w fun e w'=>
   ∃N,e = Eh (Ey Eu (zo U / zo V))/\N.length=m+3/\yB N/\zo N=zo U%zo V/\ai w' g 172 (xP pre N post)/\w.grownBy w' (some g):=by
 unfold zP at hn;have hg:g<w.heap.size:=hB.lt;obtain⟨un,be⟩:∃x,U.getD (m+2) 0=x:=⟨_,rfl⟩;obtain⟨cJ,T⟩:∃x,U.getD (m+1) 0=x:=⟨_,rfl⟩;obtain⟨Z,aX⟩:∃x,V.getD (m+1) 0=x:=⟨_,rfl⟩;have bu:=zG a9 (m+2);have br:=zG a9 (m+1);have ce:=zG bg (m+1);have cu:w.cell? ⟨g,j+(m+2),none⟩=some (Ey Eu un):=by rw[<- be]; exact hB.c _ (xu hj D5)
 have dx:w.cell? ⟨g,j+(m+1),none⟩=some (Ey Eu cJ):=by rw[<- T]; exact hB.c _ (xu hj D5)
 have co:w.cell? ⟨b,o+(m+1),none⟩=some (Ey Eu Z):=by rw[<- aX]; exact hV _ D5
 have DM:=Yp a9 bg hU lV D5 ci;rw[be,T,aX]at DM;obtain⟨Q,hQ⟩:∃Q,zo U / zo V=Q:=⟨_,rfl⟩
 have hR:zo U%zo V=zo U-Q*zo V:=by
  have:=Int.mul_ediv_add_emod (zo U) (zo V);rw[hQ,Int.mul_comm]at this;omega
 rw[hQ]at DM;rw[hQ,hR];obtain⟨Q0,Q1,Q2,Q3,Q4,Q5,Q6⟩:=DM;rw[be]at bu;rw[T]at br;rw[aX]at ce bi;have HQ:Hid (Q*zo V<=zo U/\zo U-Q*zo V<zo V/\0<zo V):=⟨Q4,Q5,Q6⟩;have HB:=E6 hB;have HV:=E6 hV;have Y:Hid (pre.length=j/\U.length=m+3/\V.length=m+2/\yB U/\yB V):=⟨hj,hU,lV,a9,bg⟩
 have b9:un<Z->Q<=(un*4294967296+cJ) / Z:=fun _=>by
  have e:=Int.mul_ediv_add_emod (un*4294967296+cJ) Z;have:=Int.emod_lt_of_pos (un*4294967296+cJ) (show 0<Z by omega);exact Qr (by rw[Int.mul_comm]; exact e) this Q2 D5
 clear be T aX hU lV hj ci hB hV Q2 Q3 Q4 Q5 Q6 hR hQ a9 bg
 go_enter Tryz.func164,Tryz.ntmps164
 go_wp2_with fail
 go_quiet (fail)
 go_upto_if 19 with fail
 go_cut [6] (fun q wx=>∃H:Int,q = Ey Eu H/\Q<=H/\0<=H/\H<4294967296/\∃n,wx=w.drewN n)
 case first=>
  rcases Int.lt_or_le un Z with h1 | h1
  .
   have gl:=b9 h1;have hd:decide (un<Z)=true:=E_ h1;have g0:0<=(un*4294967296+cJ) / Z:=Int.ediv_nonneg D5 D5;have g1:(un*4294967296+cJ) / Z<4294967296:=Int.ediv_lt_of_lt_mul D5 D5;have G:=E6 (E7 gl (E7 g0 g1));have i1:(0:Int)<=(m:Int)+2:=D5
   have i2:(m:Int)+2<(m:Int)+3:=D5
   have i3:((m:Int)+2).toNat=m+2:=D5
   have i4:(0:Int)<=(m:Int)+1:=D5
   have i5:(m:Int)+1<(m:Int)+3:=D5
   have i6:((m:Int)+1).toNat=m+1:=D5
   have i7:(m:Int)+1<(m:Int)+2:=D5
   have i8:IntKind.i64.wrap ((m:Int)+2-1)=(m:Int)+1:=by rw[IntKind.wrap_i64]; omega
   have i9:wrap64 ((m:Int)+2-1)=(m:Int)+1:=by unfold wrap64; omega
   clear b9 gl g0 g1;go_wp2_with fail
   go_region_held3 (fun w'=>w'.cell? ⟨g,j+(m+2),none⟩=some (Ey Eu un)/\w'.cell? ⟨g,j+(m+1),none⟩=some (Ey Eu cJ)/\w'.cell? ⟨b,o+(m+1),none⟩=some (Ey Eu Z))
    (first | exact⟨cu,dx,co⟩)
    (first | ((go_at_call 186; refine(H_ un cJ Z _ bu.1 h1 br ce.2).mono ?_; rintro e wv ⟨rfl,n3,rfl⟩)))
   go_wp2_with fail
   go_meet
   exact⟨_,rfl,G.out.1,G.out.2.1,G.out.2.2,(by first | exact⟨_,rfl⟩ | exact k9 _ _ _ | exact⟨_,rfl⟩)⟩
  .
   have hd:decide (un<Z)=false:=E' D5;clear b9;go_wp2_with fail
   go_meet
   exact⟨_,rfl,by omega,by omega,by omega,(by first | exact⟨_,rfl⟩ | exact k9 _ _ _)⟩
 case rest=>
  obtain⟨H,rfl,a1,a2,a3,nn,rfl⟩:=hcut;have eW:ai (w.drewN nn) g 172 (xP pre U post):=HB.out.drewN nn;clear b9 cu dx co bu br ce bi;go_wp2_with fail
  go_loopw [6,7] (fun q r wr=>∃H:Int,q = Ey Eu H/\Q<=H/\0<=H/\H<4294967296/\Below w.heap.size w wr) (fun q _ _=>(intOf q).toNat)
  case atStart=>exact⟨H,rfl,a1,a2,a3,yX (Et _ _) nn⟩
  case round=>
   clear a1 a2 a3;obtain⟨H,rfl,a1,a2,a3,aY⟩:=hrel;have ah:ai wr g 172 (xP pre U post):=(aY.block g hg).trans HB.out
   have LU:aA wr (Ex (some ⟨g,j,none⟩) (m+3) capu) U:=by
    have e:=Y.out.2.1;have:=aA.el (o:=j) (cap:=capu) (l:=U) (cs:=(xP pre U post).toList) (by simpa using ah) Y.out.2.2.2.1 (fun t ht=>by have:=xu (post:=post) Y.out.1 ht; simpa using this) D5;rw[e]at this;exact this
   have HW:=E6 ah;have HX:=E6 aY;have cl:=Yv wr LU (by rw[Y.out.2.1]; unfold zP; omega);rw[Y.out.2.1]at cl
   have sb:∀ (w1:Ee) (g2 M:Nat) (E:List Ef),zf wr w1->wr.heap.size<=g2->ai w1 g2 172 (xP [] U E)->Ed Ec 188 #[Ex (some ⟨g2,0,none⟩) (m+3) M,Ex (some ⟨b,o,none⟩) (m+2) capv,Ey Eu H] w1 fun e w'=>
     ∃ (N:List Int) (bw:Int),e = Eh (Ez (bw==0))/\Hid (0<=bw/\bw<=1/\N.length=m+3/\yB N/\zo N=zo U-H*zo V+bp (m+3)*bw)/\ai w' g2 172 (xP [] N E)/\w1.grownBy w' (some g2):=fun w1 g2 M E hs cN bl=>by
    have cn:b<wr.heap.size:=Nat.lt_of_lt_of_le hb aY.size
    have:=VE (q:=H) (m:=m+2) (capu:=M) (capv:=capv) (g:=g2) (j:=0) (b:=b) (o:=o) (pre:= []) (post:=E) (U:=U) (V:=V) w1 bl rfl Y.out.2.1 Y.out.2.2.2.1
     ((HV.out.below (aY.mono (Eo _)) hb).below hs cn) Y.out.2.2.1 Y.out.2.2.2.2 D5 (Nat.lt_of_lt_of_le cn hs.size) D5 (by unfold zP; omega) a2 a3
    refine this.mono ?_;rintro e w' ⟨N,bw,rfl,k1,k2,k3,k4,k5,k6,k7⟩;exact⟨N,bw,rfl,⟨k1,k2,k3,k4,k5⟩,k6,k7⟩
   have cx:g<wr.heap.size:=ah.lt;clear LU ah
   go_upto_if 43 with(first
    | (go_at_call 134; refine cl.mono ?_; clear cl; rintro e w1 ⟨vc,rfl,cy,er,J⟩; obtain⟨g2,M,E,rfl,cN,ey,bl⟩:=v_ cy D5; have cU:=sb w1 g2 M E J cN bl)
    | (go_at_call 188; refine cU.mono ?_; clear sb cU; rintro e w2 ⟨N,bw,rfl,cg,dk,I⟩))
   rcases Int.decEq bw 0 with bt | bt
   rotate_left
   .
    subst bt;obtain⟨k1,k2,k3,k4,k5⟩:=cg.out
    have hq:H=Q:=by
     have L0:=zE k4;rw[Int.mul_zero,Int.add_zero]at k5
     rcases Int.lt_or_le Q H with h | h
     .
      have e1:=Int.mul_le_mul_of_nonneg_right (show Q+1<=H by omega) (show 0<=zo V by have:=HQ.out.2.2; omega);rw[Int.add_mul,Int.one_mul]at e1;have:=HQ.out.2.1;omega
     . omega
    subst hq;have dl:ai w2 g 172 (xP pre U post):=(I.block g (Nat.lt_of_lt_of_le cx J.size) (fun e=>by have:=Option.some.inj e; omega)).trans ((J.block g cx).trans HW.out)
    have bh:∀i v,(zI N)[i]? = some v->w2.cell? ((⟨g2,0,none⟩:Addr).add i)=some v:=fun i v hv=>by
     have hi:i<N.length:=by have:=(List.getElem?_eq_some_iff.1 hv).1; simpa[zI]using this
     rw[qj N i hi]at hv;have:=dk.c _ (xu (j:=0) (pre:= []) rfl hi);rw[Addr.add_lit,this];exact hv
    have SC:=E6 (Uw (post:=post) Y.out.1 (k3.trans Y.out.2.1.symm));have HS:=E6 bh;have HK:=E6 dl;have dc:j+(zI N).length<=(xP pre U post).size:=by simp[xP,zI,k3,Y.out.1,Y.out.2.1]
    have dP:(zI N).length=Nat.min (m+3) (m+3):=by simp[zI,k3]
    clear bh dl k1 k2 k5
    go_wp2_with ((with_reducible show wpList _ _ _ _ _ _); refine wpList_copy_own rfl (.tmp 44) (.tmp 45) 24 24 rfl 172 Tryz.underlying24 Be g j (m+3) capu ⟨g2,0,none⟩ (m+3) M rfl rfl (xP pre U post) 172 HK.out (zI N) dP HS.out dc (by intro v hv; obtain⟨z,_,rfl⟩:=List.mem_map.1 hv; rfl) ?_)
    go_returns
    have k5:=cg.out.2.2.2.2;rw[Int.mul_zero,Int.add_zero]at k5;have ek:=HX.out.size;have ed:=J.size
    have dy:∀X:Array Ef,ai (w2.setRow g X) g 172 X:=fun X=>by
     have h:=HK.out;unfold ai at h|-
     show (w2.heap.modify g _)[g]? = _
     rw[Array.getElem?_modify,h];simp
    refine⟨N,rfl,k3,k4,k5,?_,⟨?_,?_,?_,?_,?_⟩⟩
    .
     have d9:=SC.out;rw[yL,k3]at d9;rw[d9];exact dy _
    . exact I.os.trans (J.os.trans HX.out.os)
    . exact I.tape.trans (J.tape.trans HX.out.tape)
    . exact I.output.trans (J.output.trans HX.out.output)
    .
     have:=I.size;simp only[World.setRow,Array.size_modify]at *;omega
    .
     intro k hk dz;rw[setRow_other w2 g k _ (fun e=>dz (by rw[e]))];exact(I.block k D5 (fun e=>by have:=Option.some.inj e; omega)).trans ((J.block k D5).trans (HX.out.block k hk))
   .
    have h0:(bw==0)=false:=by simp[bt]
    obtain⟨k1,k2,k3,k4,k5⟩:=cg.out
    have hq:Q<H:=by
     have L1:=yS k4;rw[k3]at L1
     rcases Int.lt_or_le Q H with h | h
     . exact h
     .
      have e1:=Int.mul_le_mul_of_nonneg_right h (show 0<=zo V by have:=HQ.out.2.2; omega);have:=HQ.out.1;rw[show bw=1 by omega,Int.mul_one]at k5;omega
    clear k1 k2 k3 k4 k5;have e9:(H-1)%4294967296=H-1:=Int.emod_eq_of_lt D5 D5
    go_wp2
    go_roundw
    case rel=>exact⟨H-1,by first | rfl | rw[e9],by omega,by omega,by omega,(zt HX.out (Eo _) J).grown I (by have:=J.size; have:=HX.out.size; omega) (fun k hk=>by cases hk; have:=HX.out.size; omega)⟩
    case measure=>(try rw[e9]); simp[intOf]; omega
theorem JQ (w:Ee) (J:aA w a (zp A)) (hd:aA w d (zp D)) (X:0<=A) (D0:1<=D) (Z:(zp A).length<=zP) (nD:(zp D).length<=zP) (H:A<D) :
  Ed Ec 135 #[a,d] w fun e E=>∃q r,e = Eh (Ev #[q,r])/\aA E q (zp (A / D))/\aA E r (zp (A%D))/\zf w E:=by
 have hc:zL A D = -1:=by unfold zL; rw[E9 D5,E8 H]
 have cc:Ed Ec 136 #[a,d] w fun e E=>e = Eh (Ey Ew (-1))/\zf w E:=by
  have:=qP w J hd X D5 Z nD;rw[hc]at this;exact this
 have tt:∀E,zf w E->Ed Ec 134 #[a] E fun e M=>∃v,e = Eh v/\M.ownsRow E.heap.size 172 1 v (zp A).length (zI (zp A))/\aA M v (zp A)/\zf E M:=fun E h=>Yv E (J.ae h) Z;have q0:Hid (A / D=0/\A%D=A):=⟨Int.ediv_eq_zero_of_lt X H,Int.emod_eq_of_lt X H⟩;obtain⟨aa,ca,rfl⟩:=J.ak;obtain⟨ad,cd,rfl⟩:=hd.ak;clear J hd hc
 go_enter Tryz.func135,Tryz.ntmps135
 go_wp2_with (first
  | (go_at_call 136; refine cc.mono ?_; rintro e w1 ⟨rfl,I⟩; have N:=tt w1 I)
  | (go_at_call 134; refine N.mono ?_; rintro e M ⟨v2,rfl,a9,Y,T⟩))
 go_returns
 refine⟨_,_,rfl,?_,?_,zt I (Eo _) T⟩
 . rw[q0.out.1]; exact aA.nil _
 . rw[q0.out.2]; exact Y
theorem QJ (w:Ee) (N:aA w a (zp A)) (hd:aA w d (zp D)) (A0:0<=A) (D0:1<=D) (nA:(zp A).length<=zP) (nD:(zp D).length=1) (be:D<=A) :
  Ed Ec 135 #[a,d] w fun e E=>∃q r,e = Eh (Ev #[q,r])/\aA E q (zp (A / D))/\aA E r (zp (A%D))/\zf w E:=by
 obtain⟨c,hc⟩:∃c,zL A D=c:=⟨_,rfl⟩
 have c0:0<=c:=by
  rw[<- hc]; unfold zL
  split
  . omega
  . rw[E9 D5]; omega
 have cc:Ed Ec 136 #[a,d] w fun e E=>e = Eh (Ey Ew c)/\zf w E:=by
  have:=qP w N hd A0 D5 nA (by unfold zP; omega);rw[hc]at this;exact this
 have T:zp D = [D]/\D<4294967296:=by
  match h:zp D,nD with
  | [x],_=>
   have Y:=zD (show 0<=D by omega);have e2:=xw D;rw[h]at Y e2;simp[zo]at Y;subst Y;exact⟨rfl,(ye.1 e2).1.2⟩
 rw[T.1]at hd
 have tt:∀E,zf w E->Ed Ec 161 #[a,Ey Eu D] E fun e I=>∃q,e = Eh (Ev #[q,Ey Eu (A%D)])/\aA I q (zp (A / D))/\zf E I:=fun E h=>by
  have:=GZ E (N.ae h) nA D0 T.2;rw[zD A0]at this;exact this
 obtain⟨aa,ca,rfl⟩:=N.ak;obtain⟨ad,cd,rfl⟩:=hd.ak;obtain⟨od,-,ld,X⟩:=hd.cells;simp only[List.length_cons,List.length_nil,Nat.zero_add]at ld X cc|-;obtain⟨bd,Z,rfl,a9,M⟩:=X D5;have g0:=M 0 D8;simp only[Nat.add_zero,List.getD_cons_zero]at g0;have m0:=Int.emod_nonneg A (show D≠0 by omega);have m1:=Int.emod_lt_of_pos A (show 0<D by omega);obtain⟨R,hR⟩:∃R,A%D=R:=⟨_,rfl⟩;rw[hR]at tt m0 m1;have HR:=E6 hR;have HD:=E6 T.2;clear N hd hc M X od hR T
 go_enter Tryz.func135,Tryz.ntmps135
 go_wp2_with (first
  | (go_at_call 136; refine cc.mono ?_; rintro e w1 ⟨rfl,H⟩; have b9:=tt w1 H; have g1:=(H.cell (p:=⟨bd,Z,none⟩) a9).trans g0)
  | (go_at_call 161; refine b9.mono ?_; rintro e I ⟨q2,rfl,ah,aX⟩)
  | (go_at_call 133; refine(Xk _ (aA.one (x:=R) m0 (by have:=HD.out; omega)) (by unfold zP; simp)).mono ?_; rintro e w3 ⟨v3,rfl,J,aY⟩))
 go_returns
 have Z2:zf I w3:=((Et I.heap.size I).alloc (Eo _) _).trans (aY.mono D9);refine⟨_,_,rfl,ah.ae Z2,?_,zt (zt H (Eo _) aX) (Eo _) Z2⟩;rw[HR.out];have:=yt (ye.2 ⟨⟨m0,by have:=HD.out; omega⟩,yg⟩:yB [R]);rw[<- this]at J;simpa[zo]using J
theorem Ux (z:Int) (w:Ee) (z0 : -9223372036854775808<=z) (z1:z<=9223372036854775807) :
  Ed Ec 118 #[Ey Ew z] w fun e E=>∃v,e = Eh v/\az E v z/\zf w E:=by
 have I:fits z:=xZ (by unfold zi; omega)
 rcases Int.lt_or_le z 0 with X | X
 focus
  have hd:decide (z<0)=true:=by simp[X]
  have M:Hid (zv true (zo [(-z)%4294967296,(-z) / 4294967296])=z):=by show zv _ _=z; simp only[zv,zo,if_true,Bool.false_eq_true,if_false]; omega
  have J:=E6 (E7 (zM I) (zH I));clear I;obtain⟨m,Z⟩:∃m,-z=m:=⟨_,rfl⟩;have hw:IntKind.u64.wrap (-IntKind.u64.wrap z)=m:=by simp only[IntKind.wrap_u64]; omega
  rw[Z]at M;have m0:0<=m/\m<=9223372036854775808:=D5
  clear Z
  have cm:Ed Ec 94 #[Ez true,Ex (some ⟨w.heap.size+1,0,none⟩) 2 2] ((w.alloc (.cells #[Ez false,Ex none 0 0] 26)).alloc (.cells #[Ey Eu (m%4294967296),Ey Eu (m / 4294967296)] 172)) (fun e E=>∃v,e = Eh (Ev #[v,Ey Ew 0])/\az E v z/\zf ((w.alloc (.cells #[Ez false,Ex none 0 0] 26)).alloc (.cells #[Ey Eu (m%4294967296),Ey Eu (m / 4294967296)] 172)) E):=by
   have L:aA ((w.alloc (.cells #[Ez false,Ex none 0 0] 26)).alloc (.cells #[Ey Eu (m%4294967296),Ey Eu (m / 4294967296)] 172)) (Ex (some ⟨w.heap.size+1,0,none⟩) 2 2) [m%4294967296,m / 4294967296]:=aA.a_ (l:= [m%4294967296,m / 4294967296]) (ai.dZ w _ _ _) (by simp only[ye]; refine⟨⟨by omega,by omega⟩,⟨by omega,by omega⟩,yg⟩);have C:=qp true _ L (by unfold zP; simp);rw[M.out,J.out.1,J.out.2]at C;exact C
 rotate_left
 focus
  have hd:decide (z<0)=false:=by simp; omega
  have M:Hid (zv false (zo [z%4294967296,z / 4294967296])=z):=by show zv _ _=z; simp only[zv,zo,if_true,Bool.false_eq_true,if_false]; omega
  have J:=E6 (E7 (zM I) (zH I));clear I
  have cm:Ed Ec 94 #[Ez false,Ex (some ⟨w.heap.size+1,0,none⟩) 2 2] ((w.alloc (.cells #[Ez false,Ex none 0 0] 26)).alloc (.cells #[Ey Eu (z%4294967296),Ey Eu (z / 4294967296)] 172)) (fun e E=>∃v,e = Eh (Ev #[v,Ey Ew 0])/\az E v z/\zf ((w.alloc (.cells #[Ez false,Ex none 0 0] 26)).alloc (.cells #[Ey Eu (z%4294967296),Ey Eu (z / 4294967296)] 172)) E):=by
   have L:aA ((w.alloc (.cells #[Ez false,Ex none 0 0] 26)).alloc (.cells #[Ey Eu (z%4294967296),Ey Eu (z / 4294967296)] 172)) (Ex (some ⟨w.heap.size+1,0,none⟩) 2 2) [z%4294967296,z / 4294967296]:=aA.a_ (l:= [z%4294967296,z / 4294967296]) (ai.dZ w _ _ _) (by simp only[ye]; refine⟨⟨by omega,by omega⟩,⟨by omega,by omega⟩,yg⟩);have C:=qp false _ L (by unfold zP; simp);rw[M.out,J.out.1,J.out.2]at C;exact C
 rotate_left
 all_goals
  go_enter Tryz.func118,Tryz.ntmps118
  go_wp2_with fail
  refine(cm).mono ?_;rintro e w1 ⟨v1,rfl,H,st⟩;have Y:=bA w st;have or:ai w1 w.heap.size 26 #[Ez false,Ex none 0 0]:=ai.aw st;clear st;have B:=Y;clear Y;obtain⟨T,N,fr,lr⟩:=or.s1;obtain⟨bb,ao,n,c,rfl⟩:=H.ak;have HV:=E6 H;clear H
  go_wp2
  refine bodyPost_ret (by simp[results,Tryz.results118,go_sem,T,N,fr,lr]; rfl) rfl ?_;exact⟨_,rfl,(HV.out.aN or).ae ((Et _ _).alloc (Eo _) _),zh⟩
theorem WN (E:decide (x<0)=gx) (H:y=0\/decide (y<0)=gy) (h:gx=gy):zv gx (zi x+zi y)=x+y:=by
 have X:=yf x;have Y:=yf y;subst h;unfold zv
 cases gx
 . simp at E H; simp only[Bool.false_eq_true,if_false]; omega
 . simp at E H; simp only[if_true]; omega
theorem Uy (E:decide (x<0)=gx) (H:y=0\/decide (y<0)=gy) (h:gx = !gy) (I:zi y<=zi x):zv gx (zi x-zi y)=x+y:=by
 have X:=yf x;have Y:=yf y;unfold zv
 cases gy
 . subst h; simp at E H; simp only[Bool.not_false,if_true]; omega
 . subst h; simp at E H; simp only[Bool.not_true,Bool.false_eq_true,if_false]; omega
theorem Uz (E:decide (x<0)=gx) (H:y=0\/decide (y<0)=gy) (h:gx = !gy) (I:zi x<zi y):zv gy (zi y-zi x)=x+y:=by
 have X:=yf x;have Y:=yf y;unfold zv
 cases gy
 . subst h; simp at E H; simp only[Bool.false_eq_true,if_false]; omega
 . subst h; simp at E H; simp only[if_true]; omega
theorem QK {sb:Ef} (w:Ee) (ha:az w va x) (hb:aA w sb (zp (zi y))) (ci:y=0\/decide (y<0)=gy) (fx:fits x) (fy:fits y) :
  Ed Ec 180 #[va,.agg #[Ez gy,sb]] w fun e H=>∃v,e = Eh (Ev #[v,Ey Ew (qX (x+y))])/\az H v (xp (x+y))/\zf w H:=by
 obtain⟨aa,ca,rfl,pa⟩:=ha.parts;obtain⟨ab,cb,rfl⟩:=hb.ak;have pb:=hb;unfold fits at fx fy;have nx:(zp (zi x)).length<=zP:=by unfold zP; omega
 have ny:(zp (zi y)).length<=zP:=by unfold zP; omega
 have vx:=zD (zA x);have vy:=zD (zA y);obtain⟨n,hn⟩:∃n,(zp (zi x)).length=n:=⟨_,rfl⟩;obtain⟨m,hm⟩:∃m,(zp (zi y)).length=m:=⟨_,rfl⟩;have d9:Hid ((zp (zi x)).length=n/\(zp (zi y)).length=m):=⟨hn,hm⟩;have HL:Hid (zo (zp (zi x))=zi x/\zo (zp (zi y))=zi y):=⟨vx,vy⟩;rw[hn]at pa|-;rw[hm]at pb|-;have X:=yf x;have Y:=yf y;obtain⟨gx,cg⟩:∃b,decide (x<0)=b:=⟨_,rfl⟩;rw[cg];have HS:Hid (decide (x<0)=gx/\(y=0\/decide (y<0)=gy)):=⟨cg,ci⟩;have HX:=E6 (E7 X Y);have HF:=E6 (E7 fx fy);clear ha hb hn hm cg ci X Y vx vy nx ny fx fy
 by_cases hs:gx=gy
 .
  subst hs
  have hz:∀l,zo l=zo (zp (zi x))+zo (zp (zi y))->zv gx (zo l)=x+y:=fun l h=>by
   rw[h,HL.out.1,HL.out.2];exact WN HS.out.1 HS.out.2 rfl
  have Hz:=E6 hz;clear hz;obtain⟨c,hc⟩:∃c,zL (zi x) (zi y)=c:=⟨_,rfl⟩;have HC:=E6 hc;clear hc
  have aX:∀H,aA H (Ex aa n ca) (zp (zi x))->aA H (Ex ab m cb) (zp (zi y))->Ed Ec 136 #[Ex aa n ca,Ex ab m cb] H fun e w2=>e = Eh (Ey Ew c)/\zf H w2:=fun H h1 h2=>by
   have:=qP H h1 h2 (zA x) (zA y) (by have:=HF.out; unfold zP; omega) (by have:=HF.out; unfold zP; omega);rw[HC.out]at this;exact this
  go_enter Tryz.func180,Tryz.ntmps180
  go_wp2_with fail
  refine(aX _ (pa.ae zh) (pb.ae zh)).mono ?_;rintro e w1 ⟨rfl,bt⟩;have st:zf _ w1:=bt;have Bn:=bA w st;have J:ai w1 w.heap.size 26 #[Ez gx,Ex aa n ca]:=ai.aw st;have I:ai w1 (w.heap.size+1) 26 #[Ez gx,Ex ab m cb]:=ai.aw st;have or:ai w1 (w.heap.size+1+1) 26 #[Ez false,Ex none 0 0]:=ai.aw st;clear st;have B:=Bn;clear Bn;obtain⟨ah,N,fa,la⟩:=J.s1;obtain⟨Z,M,fb,lb⟩:=I.s1;obtain⟨a9,T,fr,lr⟩:=or.s1;clear aX;go_wp2_with fail
  go_region_held3 (fun H=>H.cell? ⟨w.heap.size,0,none⟩=some (Ez gx)/\H.cell? ⟨w.heap.size,1,none⟩=some (Ex aa n ca)/\H.cell? ⟨w.heap.size+1,0,none⟩=some (Ez gx)/\H.cell? ⟨w.heap.size+1,1,none⟩=some (Ex ab m cb))
   ((refine⟨ai.c (t:=26) (cs:=#[Ez gx,Ex aa n ca]) ?_ 0 rfl,ai.c (t:=26) (cs:=#[Ez gx,Ex aa n ca]) ?_ 1 rfl,ai.c (t:=26) (cs:=#[Ez gx,Ex ab m cb]) ?_ 0 rfl,ai.c (t:=26) (cs:=#[Ez gx,Ex ab m cb]) ?_ 1 rfl⟩<;>(repeat' first | with_reducible assumption | (with_reducible refine ai.bO ?_; first | with_reducible rfl | (simp only[Es,World.size_setCell,World.size_drew]; done)) | with_reducible refine ai.alloc ?_ _ | with_reducible refine ai.drew ?_ | with_reducible refine ai.drewN ?_ _ | with_reducible apply ai.both | with_reducible refine ai.aH ?_ ?_ | (show _≠_; omega))))
   (first
    | ((go_at_call 159; refine(Gt _ (pa.ae zh) (pb.ae zh) (by have:=HF.out; unfold zP; omega) (by have:=HF.out; unfold zP; omega)).mono ?_; rintro e E ⟨v1,l1,rfl,bg,bh,cU,aY⟩; have cx:=E6 bh; clear bh; go_must (have st:zf _ E:=aY; have Bn:=bA w st; have na:ai E w.heap.size 26 #[Ez gx,Ex aa n ca]:=ai.aw st; have nb:ai E (w.heap.size+1) 26 #[Ez gx,Ex ab m cb]:=ai.aw st; have nr:ai E (w.heap.size+1+1) 26 #[Ez false,Ex none 0 0]:=ai.aw st; clear B J I or ah N fa la Z M fb lb a9 T fr lr; clear st; have B:=Bn; clear Bn; have J:=na; clear na; have ah:Er E ⟨w.heap.size,0,none⟩=some (Ez gx):=J.c 0 rfl; have N:Er E ⟨w.heap.size,1,none⟩=some (Ex aa n ca):=J.c 1 rfl; have fa:=J.fr; have la:=J.lt; have I:=nb; clear nb; have Z:Er E ⟨w.heap.size+1,0,none⟩=some (Ez gx):=I.c 0 rfl; have M:Er E ⟨w.heap.size+1,1,none⟩=some (Ex ab m cb):=I.c 1 rfl; have fb:=I.fr; have lb:=I.lt; have or:=nr; clear nr; have a9:Er E ⟨w.heap.size+1+1,0,none⟩=some (Ez false):=or.c 0 rfl; have T:Er E ⟨w.heap.size+1+1,1,none⟩=some (Ex none 0 0):=or.c 1 rfl; have fr:=or.fr; have lr:=or.lt)))
    | ((go_at_call 94; refine(qp gx _ bg (by have:=HF.out; unfold zP; omega)).mono ?_; rintro e E ⟨v2,rfl,b9,aY⟩; go_must (have st:zf _ E:=aY; have Bn:=bA w st; have na:ai E w.heap.size 26 #[Ez gx,Ex aa n ca]:=ai.aw st; have nb:ai E (w.heap.size+1) 26 #[Ez gx,Ex ab m cb]:=ai.aw st; have nr:ai E (w.heap.size+1+1) 26 #[Ez false,Ex none 0 0]:=ai.aw st; clear B J I or ah N fa la Z M fb lb a9 T fr lr; clear st; have B:=Bn; clear Bn; have J:=na; clear na; have ah:Er E ⟨w.heap.size,0,none⟩=some (Ez gx):=J.c 0 rfl; have N:Er E ⟨w.heap.size,1,none⟩=some (Ex aa n ca):=J.c 1 rfl; have fa:=J.fr; have la:=J.lt; have I:=nb; clear nb; have Z:Er E ⟨w.heap.size+1,0,none⟩=some (Ez gx):=I.c 0 rfl; have M:Er E ⟨w.heap.size+1,1,none⟩=some (Ex ab m cb):=I.c 1 rfl; have fb:=I.fr; have lb:=I.lt; have or:=nr; clear nr; have a9:Er E ⟨w.heap.size+1+1,0,none⟩=some (Ez false):=or.c 0 rfl; have T:Er E ⟨w.heap.size+1+1,1,none⟩=some (Ex none 0 0):=or.c 1 rfl; have fr:=or.fr; have lr:=or.lt; obtain⟨bb,co,n2,c2,rfl⟩:=b9.ak))))
  have br:=E6 b9;clear b9
  go_wp2
  refine bodyPost_ret (by simp[results,Tryz.results180,go_sem,ah,N,fa,la,Z,M,fb,lb,a9,T,fr,lr]; rfl) rfl ?_;have e:=Hz.out l1 cx.out;exact⟨_,Y7 rfl (by rw[e]),by rw[<- e]; exact br.out.aN or,zh⟩
 .
  have bl:gx = !gy:=by cases gx<;>cases gy<;>simp_all
  obtain⟨c,hc⟩:∃c,zL (zi x) (zi y)=c:=⟨_,rfl⟩;have cc:=jV (zi x) (zi y);rw[hc]at cc;have CC:=E6 cc;have h0:=zA x;have cn:=zA y
  rcases Int.lt_or_le c 0 with cN | cN
  focus
   have bi:zi x<=zi y:=D5
   have hz:∀l,zo l=zi y-zi x->zv gy (zo l)=x+y:=fun l hl=>by
    rw[hl];exact Uz HS.out.1 HS.out.2 bl D5
   have be:(zp (zi x)).length<=(zp (zi y)).length:=by
    rcases Nat.lt_or_ge (zp (zi y)).length (zp (zi x)).length with g | g
    . have:=yn (zA y) (zA x) g; omega
    . exact g
   have Hz:=E6 hz;have HC:=E6 hc
   have mi:∀H,aA H (Ex aa n ca) (zp (zi x))->aA H (Ex ab m cb) (zp (zi y))->Ed Ec 160 #[Ex ab m cb,Ex aa n ca] H fun e w2=>∃v l,e = Eh v/\aA w2 v l/\Hid (zo l=zi y-zi x)/\l.length<=zP/\zf H w2:=fun H h1 h2=>by
    refine(JN H h2 h1 (by have:=HF.out; unfold zP; omega) be (by rw[HL.out.1,HL.out.2]; exact bi)).mono ?_;rintro e w2 ⟨v,l,e1,e2,e3,e4,e5⟩;rw[HL.out.1,HL.out.2]at e3;exact⟨v,l,e1,e2,e3,by have:=HF.out; unfold zP; omega,e5⟩
   have aX:∀H,aA H (Ex aa n ca) (zp (zi x))->aA H (Ex ab m cb) (zp (zi y))->Ed Ec 136 #[Ex aa n ca,Ex ab m cb] H fun e w2=>e = Eh (Ey Ew c)/\zf H w2:=fun H h1 h2=>by
    have:=qP H h1 h2 (zA x) (zA y) (by have:=HF.out; unfold zP; omega) (by have:=HF.out; unfold zP; omega);rw[HC.out]at this;exact this
   have cy:(gx==gy)=false:=by simp[hs]
   clear hz hc cc bi be h0 cn bl hs
   go_enter Tryz.func180,Tryz.ntmps180
   go_wp2_with fail
   refine(aX _ (pa.ae zh) (pb.ae zh)).mono ?_;rintro e w1 ⟨rfl,bt⟩;have st:zf _ w1:=bt;have Bn:=bA w st;have J:ai w1 w.heap.size 26 #[Ez gx,Ex aa n ca]:=ai.aw st;have I:ai w1 (w.heap.size+1) 26 #[Ez gy,Ex ab m cb]:=ai.aw st;have or:ai w1 (w.heap.size+1+1) 26 #[Ez false,Ex none 0 0]:=ai.aw st;clear st;have B:=Bn;clear Bn;obtain⟨ah,N,fa,la⟩:=J.s1;obtain⟨Z,M,fb,lb⟩:=I.s1;obtain⟨a9,T,fr,lr⟩:=or.s1;clear aX;go_wp2_with fail
   go_region_held3 (fun H=>H.cell? ⟨w.heap.size,0,none⟩=some (Ez gx)/\H.cell? ⟨w.heap.size,1,none⟩=some (Ex aa n ca)/\H.cell? ⟨w.heap.size+1,0,none⟩=some (Ez gy)/\H.cell? ⟨w.heap.size+1,1,none⟩=some (Ex ab m cb))
    ((refine⟨ai.c (t:=26) (cs:=#[Ez gx,Ex aa n ca]) ?_ 0 rfl,ai.c (t:=26) (cs:=#[Ez gx,Ex aa n ca]) ?_ 1 rfl,ai.c (t:=26) (cs:=#[Ez gy,Ex ab m cb]) ?_ 0 rfl,ai.c (t:=26) (cs:=#[Ez gy,Ex ab m cb]) ?_ 1 rfl⟩<;>(repeat' first | with_reducible assumption | (with_reducible refine ai.bO ?_; first | with_reducible rfl | (simp only[Es,World.size_setCell,World.size_drew]; done)) | with_reducible refine ai.alloc ?_ _ | with_reducible refine ai.drew ?_ | with_reducible refine ai.drewN ?_ _ | with_reducible apply ai.both | with_reducible refine ai.aH ?_ ?_ | (show _≠_; omega))))
    (first
     | ((go_at_call 160; refine(mi _ (pa.ae zh) (pb.ae zh)).mono ?_; rintro e E ⟨v1,l1,rfl,bg,bh,ce,aY⟩; go_must (have st:zf _ E:=aY; have Bn:=bA w st; have na:ai E w.heap.size 26 #[Ez gx,Ex aa n ca]:=ai.aw st; have nb:ai E (w.heap.size+1) 26 #[Ez gy,Ex ab m cb]:=ai.aw st; have nr:ai E (w.heap.size+1+1) 26 #[Ez false,Ex none 0 0]:=ai.aw st; clear B J I or ah N fa la Z M fb lb a9 T fr lr; clear st; have B:=Bn; clear Bn; have J:=na; clear na; have ah:Er E ⟨w.heap.size,0,none⟩=some (Ez gx):=J.c 0 rfl; have N:Er E ⟨w.heap.size,1,none⟩=some (Ex aa n ca):=J.c 1 rfl; have fa:=J.fr; have la:=J.lt; have I:=nb; clear nb; have Z:Er E ⟨w.heap.size+1,0,none⟩=some (Ez gy):=I.c 0 rfl; have M:Er E ⟨w.heap.size+1,1,none⟩=some (Ex ab m cb):=I.c 1 rfl; have fb:=I.fr; have lb:=I.lt; have or:=nr; clear nr; have a9:Er E ⟨w.heap.size+1+1,0,none⟩=some (Ez false):=or.c 0 rfl; have T:Er E ⟨w.heap.size+1+1,1,none⟩=some (Ex none 0 0):=or.c 1 rfl; have fr:=or.fr; have lr:=or.lt)))
     | ((go_at_call 94; refine(qp gy _ bg ce).mono ?_; rintro e E ⟨v2,rfl,b9,aY⟩; go_must (have st:zf _ E:=aY; have Bn:=bA w st; have na:ai E w.heap.size 26 #[Ez gx,Ex aa n ca]:=ai.aw st; have nb:ai E (w.heap.size+1) 26 #[Ez gy,Ex ab m cb]:=ai.aw st; have nr:ai E (w.heap.size+1+1) 26 #[Ez false,Ex none 0 0]:=ai.aw st; clear B J I or ah N fa la Z M fb lb a9 T fr lr; clear st; have B:=Bn; clear Bn; have J:=na; clear na; have ah:Er E ⟨w.heap.size,0,none⟩=some (Ez gx):=J.c 0 rfl; have N:Er E ⟨w.heap.size,1,none⟩=some (Ex aa n ca):=J.c 1 rfl; have fa:=J.fr; have la:=J.lt; have I:=nb; clear nb; have Z:Er E ⟨w.heap.size+1,0,none⟩=some (Ez gy):=I.c 0 rfl; have M:Er E ⟨w.heap.size+1,1,none⟩=some (Ex ab m cb):=I.c 1 rfl; have fb:=I.fr; have lb:=I.lt; have or:=nr; clear nr; have a9:Er E ⟨w.heap.size+1+1,0,none⟩=some (Ez false):=or.c 0 rfl; have T:Er E ⟨w.heap.size+1+1,1,none⟩=some (Ex none 0 0):=or.c 1 rfl; have fr:=or.fr; have lr:=or.lt; obtain⟨bb,co,n2,c2,rfl⟩:=b9.ak))))
  rotate_left
  focus
   have bi:zi y<=zi x:=D5
   have hz:∀l,zo l=zi x-zi y->zv gx (zo l)=x+y:=fun l hl=>by
    rw[hl];exact Uy HS.out.1 HS.out.2 bl D5
   have be:(zp (zi y)).length<=(zp (zi x)).length:=by
    rcases Nat.lt_or_ge (zp (zi x)).length (zp (zi y)).length with g | g
    . have:=yn (zA x) (zA y) g; omega
    . exact g
   have Hz:=E6 hz;have HC:=E6 hc
   have mi:∀H,aA H (Ex aa n ca) (zp (zi x))->aA H (Ex ab m cb) (zp (zi y))->Ed Ec 160 #[Ex aa n ca,Ex ab m cb] H fun e w2=>∃v l,e = Eh v/\aA w2 v l/\Hid (zo l=zi x-zi y)/\l.length<=zP/\zf H w2:=fun H h1 h2=>by
    refine(JN H h1 h2 (by have:=HF.out; unfold zP; omega) be (by rw[HL.out.1,HL.out.2]; exact bi)).mono ?_;rintro e w2 ⟨v,l,e1,e2,e3,e4,e5⟩;rw[HL.out.1,HL.out.2]at e3;exact⟨v,l,e1,e2,e3,by have:=HF.out; unfold zP; omega,e5⟩
   have aX:∀H,aA H (Ex aa n ca) (zp (zi x))->aA H (Ex ab m cb) (zp (zi y))->Ed Ec 136 #[Ex aa n ca,Ex ab m cb] H fun e w2=>e = Eh (Ey Ew c)/\zf H w2:=fun H h1 h2=>by
    have:=qP H h1 h2 (zA x) (zA y) (by have:=HF.out; unfold zP; omega) (by have:=HF.out; unfold zP; omega);rw[HC.out]at this;exact this
   have cy:(gx==gy)=false:=by simp[hs]
   clear hz hc cc bi be h0 cn bl hs
   go_enter Tryz.func180,Tryz.ntmps180
   go_wp2_with fail
   refine(aX _ (pa.ae zh) (pb.ae zh)).mono ?_;rintro e w1 ⟨rfl,st⟩;have Bn:=bA w st;have J:ai w1 w.heap.size 26 #[Ez gx,Ex aa n ca]:=ai.aw st;have I:ai w1 (w.heap.size+1) 26 #[Ez gy,Ex ab m cb]:=ai.aw st;have or:ai w1 (w.heap.size+1+1) 26 #[Ez false,Ex none 0 0]:=ai.aw st;clear st;have B:=Bn;clear Bn;obtain⟨ah,N,fa,la⟩:=J.s1;obtain⟨Z,M,fb,lb⟩:=I.s1;obtain⟨a9,T,fr,lr⟩:=or.s1;clear aX;go_wp2_with fail
   go_region_held3 (fun H=>H.cell? ⟨w.heap.size,0,none⟩=some (Ez gx)/\H.cell? ⟨w.heap.size,1,none⟩=some (Ex aa n ca)/\H.cell? ⟨w.heap.size+1,0,none⟩=some (Ez gy)/\H.cell? ⟨w.heap.size+1,1,none⟩=some (Ex ab m cb))
    ((refine⟨ai.c (t:=26) (cs:=#[Ez gx,Ex aa n ca]) ?_ 0 rfl,ai.c (t:=26) (cs:=#[Ez gx,Ex aa n ca]) ?_ 1 rfl,ai.c (t:=26) (cs:=#[Ez gy,Ex ab m cb]) ?_ 0 rfl,ai.c (t:=26) (cs:=#[Ez gy,Ex ab m cb]) ?_ 1 rfl⟩<;>(repeat' first | with_reducible assumption | (with_reducible refine ai.bO ?_; first | with_reducible rfl | (simp only[Es,World.size_setCell,World.size_drew]; done)) | with_reducible refine ai.alloc ?_ _ | with_reducible refine ai.drew ?_ | with_reducible refine ai.drewN ?_ _ | with_reducible apply ai.both | with_reducible refine ai.aH ?_ ?_ | (show _≠_; omega))))
    (first
     | ((go_at_call 160; refine(mi _ (pa.ae zh) (pb.ae zh)).mono ?_; rintro e E ⟨v1,l1,rfl,bg,bh,ce,aY⟩; go_must (have st:zf _ E:=aY; have Bn:=bA w st; have na:ai E w.heap.size 26 #[Ez gx,Ex aa n ca]:=ai.aw st; have nb:ai E (w.heap.size+1) 26 #[Ez gy,Ex ab m cb]:=ai.aw st; have nr:ai E (w.heap.size+1+1) 26 #[Ez false,Ex none 0 0]:=ai.aw st; clear B J I or ah N fa la Z M fb lb a9 T fr lr; clear st; have B:=Bn; clear Bn; have J:=na; clear na; have ah:Er E ⟨w.heap.size,0,none⟩=some (Ez gx):=J.c 0 rfl; have N:Er E ⟨w.heap.size,1,none⟩=some (Ex aa n ca):=J.c 1 rfl; have fa:=J.fr; have la:=J.lt; have I:=nb; clear nb; have Z:Er E ⟨w.heap.size+1,0,none⟩=some (Ez gy):=I.c 0 rfl; have M:Er E ⟨w.heap.size+1,1,none⟩=some (Ex ab m cb):=I.c 1 rfl; have fb:=I.fr; have lb:=I.lt; have or:=nr; clear nr; have a9:Er E ⟨w.heap.size+1+1,0,none⟩=some (Ez false):=or.c 0 rfl; have T:Er E ⟨w.heap.size+1+1,1,none⟩=some (Ex none 0 0):=or.c 1 rfl; have fr:=or.fr; have lr:=or.lt)))
     | ((go_at_call 94; refine(qp gx _ bg ce).mono ?_; rintro e E ⟨v2,rfl,b9,aY⟩; go_must (have st:zf _ E:=aY; have Bn:=bA w st; have na:ai E w.heap.size 26 #[Ez gx,Ex aa n ca]:=ai.aw st; have nb:ai E (w.heap.size+1) 26 #[Ez gy,Ex ab m cb]:=ai.aw st; have nr:ai E (w.heap.size+1+1) 26 #[Ez false,Ex none 0 0]:=ai.aw st; clear B J I or ah N fa la Z M fb lb a9 T fr lr; clear st; have B:=Bn; clear Bn; have J:=na; clear na; have ah:Er E ⟨w.heap.size,0,none⟩=some (Ez gx):=J.c 0 rfl; have N:Er E ⟨w.heap.size,1,none⟩=some (Ex aa n ca):=J.c 1 rfl; have fa:=J.fr; have la:=J.lt; have I:=nb; clear nb; have Z:Er E ⟨w.heap.size+1,0,none⟩=some (Ez gy):=I.c 0 rfl; have M:Er E ⟨w.heap.size+1,1,none⟩=some (Ex ab m cb):=I.c 1 rfl; have fb:=I.fr; have lb:=I.lt; have or:=nr; clear nr; have a9:Er E ⟨w.heap.size+1+1,0,none⟩=some (Ez false):=or.c 0 rfl; have T:Er E ⟨w.heap.size+1+1,1,none⟩=some (Ex none 0 0):=or.c 1 rfl; have fr:=or.fr; have lr:=or.lt; obtain⟨bb,co,n2,c2,rfl⟩:=b9.ak))))
  rotate_left
  all_goals
   have br:=E6 b9;clear b9
   go_wp2
   refine bodyPost_ret (by simp[results,Tryz.results180,go_sem,ah,N,fa,la,Z,M,fb,lb,a9,T,fr,lr]; rfl) rfl ?_;have ez:=Hz.out l1 bh.out;exact⟨_,Y7 rfl (by rw[ez]),by have:=br.out; rw[ez]at this; exact this.aN or,zh⟩
theorem Cu {E:Ef} (w:Ee) (J:az w va x) (N:az w E y) (M:fits x) (I:fits y) :
  Ed Ec 180 #[va,E] w fun e H=>∃v,e = Eh (Ev #[v,Ey Ew (qX (x+y))])/\az H v (xp (x+y))/\zf w H:=by
 obtain⟨X,rfl,T⟩:=N;exact QK w J T (.inr rfl) M I
end
section
open Go.RowKit Go.Shelf
variable {s:Nat}
attribute [local go_sem] Oper.semAt_some
theorem Y9 {t:Int} (h0:0<=t) (H:t<18446744073709551616) (E:s<=31):bits .and Eg t (((2^s:Nat):Int)-1)=t%((2^s:Nat):Int):=by
 obtain⟨n,rfl⟩:=Int.eq_ofNat_of_zero_le h0;have p0:=Nat.one_le_two_pow (n:=s);have p1:=Nat.pow_le_pow_right (show 0<2 by omega) E;rw[show (((2^s:Nat):Int)-1)=((2^s-1:Nat):Int) by omega,bits_and_u64_nat _ _ D5 D5,Nat.and_two_pow_sub_one_eq_mod];rfl
theorem G1 (a:Option Addr) (c:Nat) (f:Ef) (w:Ee):Ed Ec 195 #[Ex a 0 c,f] w fun e E=>e = Eh (Ey Ew (-1))/\E=w:=by
 go_enter Tryz.func195,Tryz.ntmps195
 go_wp2
 go_loopw [8] (fun i wr=>i = Ey Ew 0/\wr=w) (fun _ _=>0)
 case atStart=>exact⟨rfl,rfl⟩
 case round=>
  obtain⟨rfl,rfl⟩:=hrel
  go_wp2
  go_returns
  exact⟨rfl,rfl⟩
theorem VJ (a:Option Addr) (c:Nat) (f:Ef) (w:Ee):Ed Ec 189 #[Ex a 0 c,f] w fun e E=>e = Eh (Ez false)/\E=w:=by
 go_enter Tryz.func189,Tryz.ntmps189
 go_wp2_with (go_at_call 195; refine(G1 _ _ _ _).mono ?_; rintro e E ⟨rfl,rfl⟩)
 go_returns
 exact⟨rfl,rfl⟩
def Gw (p:Addr) (x:Ef) (b:Bool) (W:Ee):Ee:=match b with | true=>W.setCell p x | false=>W
theorem Ye {p z:Addr} {x:Ef} {b:Bool} {W:Ee} (E:z.block≠p.block):(Gw p x b W).cell? z=W.cell? z:=by
 cases b
 . rfl
 . exact World.cell?_of_block (Below.heap_setCell _ _ _ _ E)
theorem G4 {a:Ef} {A:List Int} (w:Ee) (ha:aA w a A) (nA:A.length<=zP) (hs:s<=31) :
  Ed Ec 165 #[a,Ey Ew s] w fun e w'=>∃q qs,e = Eh (Ev #[q,Ez (decide (0<zo A%(2^s:Nat)))])/\aA w' q qs/\zo qs=zo A / (2^s:Nat)/\yB qs/\qs.length=A.length/\zf w w':=by
 obtain⟨aa,ca,rfl⟩:=ha.ak;obtain⟨oa,-,la,fa⟩:=ha.cells;obtain⟨len,ah⟩:∃n,A.length=n:=⟨_,rfl⟩;have HA:=E6 ha;rw[ah]at la fa nA|-;have co:=xT len (by unfold zP at nA; omega);have bg:Fence.wide.round=none:=rfl;obtain⟨d,hd⟩:∃P,((2^s:Nat):Int)=P:=⟨_,rfl⟩;have d0:1<=d:=by have:=Nat.one_le_two_pow (n:=s); omega
 have d1:d<=2147483648:=by have:=Nat.pow_le_pow_right (show 0<2 by omega) hs; simp at this; omega
 have HD:Hid (((2^s:Nat):Int)=d):=hd;rw[hd];clear hd;have hq:(s:Int).tdiv 32=0:=Int.tdiv_eq_zero_of_lt D5 D5;have Y:(s:Int).tmod 32=s:=Int.tmod_eq_of_lt D5 D5;have er:(s:Int) / 32=0:=D5
 have ey:(s:Int)%32=s:=D5
 have em:wrap64 (len:Int)=len:=by unfold zP at nA; unfold wrap64; omega
 refine(callsIn_wide (n:=3)).1 ?_;refine callsIn_of_wp_marks Tryz.func165 rfl trivial ?_ bg;simp only[Tryz.ntmps165,List.size_toArray,List.length_cons,List.length_nil,Nat.reduceAdd,Nat.reduceSub,Array.replicate_succ,Array.replicate_zero,List.push_toArray,List.append_toArray,List.nil_append,List.cons_append]
 gi_wp2_with (first
  | (refine⟨trivial,?_⟩; gi_at_call 189; refine(callsIn_wide.2 (VJ _ _ _ _)).mono ?_; rintro e w' ⟨rfl,rfl⟩)
  | (refine⟨trivial,?_⟩; gi_at_call 166; refine(XS Fence.wide 2 trivial bg _ _ _ _).mono ?_; rintro e w' ⟨rfl,rfl⟩))
 have b1:=Boxed.new w 3 (Ey Ew s)
 have b2:ai ((w.alloc (.cells #[Ey Ew s] 3)).alloc (.cells (madeCells #[Ey Eu 0] len) 172)) (w.heap.size+1) 172 (zI (List.replicate len 0)).toArray:=by
  have:=ai.dZ w (.cells #[Ey Ew s] 3) 172 (madeCells #[Ey Eu 0] len);rw[yH]at this|-;exact this
 have b3:=Boxed.new ((w.alloc (.cells #[Ey Ew s] 3)).alloc (.cells (madeCells #[Ey Eu 0] len) 172)) 24 (Ex (some ⟨w.heap.size+1,0,none⟩) len len);have b4:=Boxed.new (((w.alloc (.cells #[Ey Ew s] 3)).alloc (.cells (madeCells #[Ey Eu 0] len) 172)).alloc (.cells #[Ex (some ⟨w.heap.size+1,0,none⟩) len len] 24)) 182 (Ey Eg 0);have b5:=Boxed.new ((((w.alloc (.cells #[Ey Ew s] 3)).alloc (.cells (madeCells #[Ey Eu 0] len) 172)).alloc (.cells #[Ex (some ⟨w.heap.size+1,0,none⟩) len len] 24)).alloc (.cells #[Ey Eg 0] 182)) 24 (Ex aa len ca);simp only[Es]at b3 b4 b5;have be:Below w.heap.size w (((((w.alloc (.cells #[Ey Ew s] 3)).alloc (.cells (madeCells #[Ey Eu 0] len) 172)).alloc (.cells #[Ex (some ⟨w.heap.size+1,0,none⟩) len len] 24)).alloc (.cells #[Ey Eg 0] 182)).alloc (.cells #[Ex aa len ca] 24)):=(((((Et _ w).alloc (Eo _) _).alloc D8 _).alloc (by simp; omega) _).alloc (by simp; omega) _).alloc (by simp; omega) _
 have ce:0<len->∃b o,aa=some ⟨b,o,none⟩/\b<w.heap.size/\Cells (((((w.alloc (.cells #[Ey Ew s] 3)).alloc (.cells (madeCells #[Ey Eu 0] len) 172)).alloc (.cells #[Ex (some ⟨w.heap.size+1,0,none⟩) len len] 24)).alloc (.cells #[Ey Eg 0] 182)).alloc (.cells #[Ex aa len ca] 24)) b o A:=fun h=>by
  obtain⟨b,o,e,hb,hc⟩:=fa h;exact⟨b,o,e,hb,hc.below be hb⟩
 have SO:=fun pre=>Uu (n:=len) d0 (show d<4294967296 by omega) oa pre
 refine wpIn_rangeFunc_ownG bg (show 1<=3 by omega) (gf:=191) (lb:=#[Ek (some ⟨w.heap.size+1+1+1+1,0,none⟩)]) rfl trivial (enters_of Tryz.func191 D6 rfl)
  (ZV Fence.wide 2 trivial bg D5 (w.heap.size+1+1+1+1) w.heap.size aa ca len A ah nA _ D8 (by simp; omega) b5.cell ce) KD.trans (GY (by simp; omega) D8) (Et _ _) (fun _=>rfl)
  (fun(pre:List (Fin len)) W=>(ai W (w.heap.size+1) 172 (zI (vH d A len pre).1).toArray/\W.cell? ⟨w.heap.size,0,none⟩=some (Ey Ew s)/\W.cell? ⟨w.heap.size+1+1,0,none⟩=some (Ex (some ⟨w.heap.size+1,0,none⟩) len len)/\W.cell? ⟨w.heap.size+1+1+1,0,none⟩=some (Ey Eg (vH d A len pre).2)/\W.frozen? ⟨w.heap.size+1+1+1,0,none⟩=false)/\Below w.heap.size w W)
  (fun _ _ _=>False)
  (OwnFrom.and (Own.from (fun s A B row hs hg Y=>⟨yi hs.1 hg Y,cell_kept hs.2.1 hg Y,cell_kept hs.2.2.1 hg Y,cell_kept hs.2.2.2.1 hg Y,(frozen_kept hs.2.2.2.1 hg Y).trans hs.2.2.2.2⟩) _) (ownFrom_below (Eo _) (by simp; omega)))
  (fun _ _ _ _ _ hs _ _=>hs)
  ⟨⟨((b2.alloc _).alloc _).alloc _,(((((b1.alloc _).alloc _).alloc _).alloc _)).cell,((b3.alloc _).alloc _).cell,(b4.alloc _).cell,(b4.alloc _).frozen⟩,be⟩
  (fun x=>{ tmps:=#[Ex aa len ca,Ey Ew s,Em,Ek (some ⟨w.heap.size,0,none⟩),Ex none 0 0,Ez false,Ey Ew 0,Ez false,Ek (some ⟨w.heap.size+1+1,0,none⟩),Ek (some ⟨w.heap.size+1+1+1,0,none⟩),Ey Ew ((x:Nat):Int),Ey Eu (A.getD x 0),Ey Ew s,Ey Ew 0,Ex aa len ca,Ey Ew len,Ey Ew 0,Ex aa len ca,Ey Ew 0,Ex aa 0 ca,Ez false,Ex aa len ca,Ey Ew len,Ey Ew 0,Ey Ew len,Ex (some ⟨w.heap.size+1,0,none⟩) len len,Ex aa len ca,Ey Ew 0,Ex aa len ca,.func (.func 191) #[] #[Ek (some ⟨w.heap.size+1+1+1+1,0,none⟩)],Ey Ew ((x:Nat):Int),Ey Eu (A.getD x 0),Em,Em,Em,Em,Em,Em,Em,Em,Em,Em,Em,Em,Em,Em,Em,Em,Em,Em,Em,Em,Em,Em,Em,Em,Em],defers:= [] }) ?assign ?body ?done ?stop
 case assign=>
  intro l x W K E;dsimp only[QB];obtain⟨u,hu⟩:∃u,A.getD (x:Nat) 0=u:=⟨_,rfl⟩;simp only[hu]at E|-;clear hu
  gi_wp2
  exact E
 case body=>
  rintro l pre x W ⟨⟨hb,cg,bt,aX,cU⟩,hB⟩ _;obtain⟨i,hi⟩:=x;have S1:=SO pre;obtain⟨u,hu⟩:∃u,A.getD i 0=u:=⟨_,rfl⟩;obtain⟨r,Y⟩:∃r,(vH d A len pre).2=r:=⟨_,rfl⟩;have u0:=zG oa i;rw[hu]at u0;rw[Y]at aX S1;have r0:=S1.2.2.1;have r1:=S1.2.2.2;have cN:W.cell? ⟨w.heap.size+1,i,none⟩=some (Ey Eu ((vH d A len pre).1.getD i 0)):=hb.c _ (by simpa using qj (vH d A len pre).1 i D5);obtain⟨v,hv⟩:∃v,(vH d A len pre).1.getD i 0=v:=⟨_,rfl⟩;rw[hv]at cN;have dx:W.frozen? ⟨w.heap.size+1,i,none⟩=false:=hb.fr _
  have z1:w.heap.size+1+1+1<W.heap.size:=by
   rcases Nat.lt_or_ge (w.heap.size+1+1+1) W.heap.size with h | h
   . exact h
   . simp[Er,Array.getElem?_eq_none h]at aX
  obtain⟨T,hT⟩:∃T,r*4294967296+u=T:=⟨_,rfl⟩;have dP:bits .or Eg (r*4294967296) u=T:=by rw[<- hT]; exact kt (s:=32) r0 u0.1 (by simpa using u0.2) (by simp; omega)
  obtain⟨Q,Z⟩:∃Q,T / d=Q:=⟨_,rfl⟩;obtain⟨R,b9⟩:∃R,T%d=R:=⟨_,rfl⟩
  have cn:0<=T/\T<9223372036854775808:=by
   have:=Int.mul_le_mul_of_nonneg_right (show r<=2147483647 by omega) (show (0:Int)<=4294967296 by omega);omega
  have Q0:0<=Q:=by rw[<- Z]; exact Int.ediv_nonneg cn.1 D5
  have Q1:Q<4294967296:=by
   rw[<- Z];refine Int.ediv_lt_of_lt_mul D5 ?_;omega
  have ek:T / 2^s=Q:=by rw[<- Z,<- HD.out]; simp
  have dy:bits .and Eg T (d-1)=R:=by rw[<- b9,<- HD.out]; exact Y9 cn.1 D5 hs
  have dz:IntKind.u64.wrap (2^s:Int)=d:=by
   have e:(2^s:Int)=d:=by rw[<- HD.out]; simp
   rw[e,wrap_u64 D5 D5]
  have HH:=E6 (E7 hb (E7 hu (E7 Y (E7 hT (E7 Z b9)))));dsimp only;rw[hu];clear hb hu Y hv ce fa b1 b2 b3 b4 b5 be co S1 hT Z b9
  gi_wp2_with fail
  have e1:(W.setCell ⟨w.heap.size+1+1+1,0,none⟩ (Ey Eg T)).cell? ⟨w.heap.size,0,none⟩=some (Ey Ew s):=(World.cell?_of_block (Below.heap_setCell _ _ _ _ (by dsimp only; omega))).trans cg;have e2:(W.setCell ⟨w.heap.size+1+1+1,0,none⟩ (Ey Eg T)).cell? ⟨w.heap.size+1+1,0,none⟩=some (Ex (some ⟨w.heap.size+1,0,none⟩) len len):=(World.cell?_of_block (Below.heap_setCell _ _ _ _ (by dsimp only; omega))).trans bt;have e3:(W.setCell ⟨w.heap.size+1+1+1,0,none⟩ (Ey Eg T)).cell? ⟨w.heap.size+1+1+1,0,none⟩=some (Ey Eg T):=World.cell?_setCell_same' _ _ _ (by rw[aX]; rfl);have e4:(W.setCell ⟨w.heap.size+1+1+1,0,none⟩ (Ey Eg T)).cell? ⟨w.heap.size+1,i,none⟩=some (Ey Eu v):=(World.cell?_of_block (Below.heap_setCell _ _ _ _ (by dsimp only; omega))).trans cN;have e5:(W.setCell ⟨w.heap.size+1+1+1,0,none⟩ (Ey Eg T)).frozen? ⟨w.heap.size+1,i,none⟩=false:=(World.frozen?_setCell _ _ _ _).trans dx;have e6:(W.setCell ⟨w.heap.size+1+1+1,0,none⟩ (Ey Eg T)).frozen? ⟨w.heap.size+1+1+1,0,none⟩=false:=(World.frozen?_setCell _ _ _ _).trans cU;obtain⟨W1,bl⟩:∃X,W.setCell ⟨w.heap.size+1+1+1,0,none⟩ (Ey Eg T)=X:=⟨_,rfl⟩;rw[bl]at e1 e2 e3 e4 e5 e6|-;have bi:=E6 bl;clear bl
  refine jx (fun D _ I=>∃m,I=(Gw ⟨w.heap.size+1,i,none⟩ (Ey Eu Q) (D 8) W1).drewN m)
   (aj.inl [8]) (aj.ge []) aj.aR (fun _=>aj.Any) (fun _ _=>False) (aj.pl []) (aj.pl [])
   D6 D6 D6 D6 (aj.cH _) (fun v=> ?_) (fun _ _ _ _ _ h=>h) (fun _ _ _ _ _ _ _ _ _ _ _ _ _=>aj.none_) (fun _ _ _ _ h=>h.elim) (fun aY Q' a9 hQ=> ?_)
  . exact⟨1,rfl⟩
  apply aj.RP rfl rfl rfl 37 rfl rfl
  .
   intro D v' I hc H hf K E;obtain⟨m,rfl⟩:=H;have c1:=(Ye (p:=⟨w.heap.size+1,i,none⟩) (x:=(Ey Eu Q)) (b:=D 8) (W:=W1) (z:=⟨w.heap.size+1+1,0,none⟩) (by dsimp only; omega));rw[e2]at c1;go_step;exact E.out
  . rfl
  refine aj.aD 38 ?_;apply aj.RP rfl rfl rfl 39 rfl rfl
  .
   intro D v' I hc H hf K E;obtain⟨m,rfl⟩:=H;have c1:=(Ye (p:=⟨w.heap.size+1,i,none⟩) (x:=(Ey Eu Q)) (b:=D 8) (W:=W1) (z:=⟨w.heap.size+1+1+1,0,none⟩) (by dsimp only; omega));rw[e3]at c1;go_step;exact E.out
  . rfl
  apply aj.RP rfl rfl rfl 40 rfl rfl
  .
   intro D v' I hc H hf K E;obtain⟨m,rfl⟩:=H;have c1:=(Ye (p:=⟨w.heap.size+1,i,none⟩) (x:=(Ey Eu Q)) (b:=D 8) (W:=W1) (z:=⟨w.heap.size,0,none⟩) (by dsimp only; omega));rw[e1]at c1;go_step;exact E.out
  . rfl
  repeat refine aj.aD _ ?_
  refine aj.dL (fun D v' I hc H hf K E=> ?_) (fun _ _=>aj.aB (b:=⟨_,[]⟩) rfl ?_)
  .
   obtain⟨m,rfl⟩:=H;have br:D 8=false:=hc.1;rw[br];have c1:((Gw ⟨w.heap.size+1,i,none⟩ (Ey Eu Q) false W1).drewN m).cell? ⟨w.heap.size+1,i,none⟩=_:=e4;have c2:((Gw ⟨w.heap.size+1,i,none⟩ (Ey Eu Q) false W1).drewN m).frozen? ⟨w.heap.size+1,i,none⟩=_:=e5;go_step;exact E.out Em _ aj.any ⟨m,rfl⟩ aj.none_ trivial
  refine aj.aF (fun D v' I hd H hf=> ?_);obtain⟨m,M⟩:=H;rw[hd 8 D7]at M;replace M:I=(W1.setCell ⟨w.heap.size+1,i,none⟩ (Ey Eu Q)).drewN m:=M;clear hd hf;refine hQ _ _ ?_;clear hQ a9 Q' aY;have f1:I.cell? ⟨w.heap.size,0,none⟩=some (Ey Ew s):=by rw[M]; exact(World.cell?_of_block (Below.heap_setCell _ _ _ _ (by dsimp only; omega))).trans e1
  have f3:I.cell? ⟨w.heap.size+1+1+1,0,none⟩=some (Ey Eg T):=by rw[M]; exact(World.cell?_of_block (Below.heap_setCell _ _ _ _ (by dsimp only; omega))).trans e3
  have f6:I.frozen? ⟨w.heap.size+1+1+1,0,none⟩=false:=by rw[M]; exact(World.frozen?_setCell _ _ _ _).trans e6
  have bh:=E6 M;clear M e1 e2 e3 e4 e5 e6
  gi_wp2_with fail
  refine jx (fun D _ N=>∃m,N=(Gw ⟨w.heap.size+1+1+1,0,none⟩ (Ey Eg R) (D 6) I).drewN m)
   (aj.inl [6]) (aj.ge []) aj.aR (fun _=>aj.Any) (fun _ _=>False) (aj.pl []) (aj.pl [(0,[6])])
   D6 D6 D6 D6 (aj.cH _) (fun v=> ?_) (fun _ _ _ _ _ h=>h) (fun _ _ _ _ _ _ _ _ _ _ _ _ _=>aj.none_) (fun _ _ _ _ h=>h.elim) (fun aY Q' a9 hQ=> ?_)
  . exact⟨1,rfl⟩
  apply aj.RP rfl rfl rfl 45 rfl rfl
  .
   intro D v' N hc H hf K E;obtain⟨m2,rfl⟩:=H;have cy:D 6=false:=hc.2 6 D7;have c1:(Gw ⟨w.heap.size+1+1+1,0,none⟩ (Ey Eg R) (D 6) I).cell? ⟨w.heap.size+1+1+1,0,none⟩=some (Ey Eg T):=by rw[cy]; exact f3
   clear cy;go_step;exact E.out
  . rfl
  apply aj.RP rfl rfl rfl 46 rfl rfl
  .
   intro D v' N hc H hf K E;obtain⟨m2,rfl⟩:=H;have c1:=(Ye (p:=⟨w.heap.size+1+1+1,0,none⟩) (x:=(Ey Eg R)) (b:=D 6) (W:=I) (z:=⟨w.heap.size,0,none⟩) (by dsimp only; omega));rw[f1]at c1;go_step;exact E.out
  . rfl
  apply aj.RP rfl rfl rfl 47 rfl rfl
  .
   intro D v' N hc H hf K E;obtain⟨m2,rfl⟩:=H;go_step;exact E.out
  . rfl
  apply aj.RP rfl rfl rfl 48 rfl rfl
  .
   intro D v' N hc H hf K E;obtain⟨m2,rfl⟩:=H;go_step;exact E.out
  . rfl
  apply aj.RP rfl rfl rfl 49 rfl rfl
  .
   intro D v' N hc H hf K E;obtain⟨m2,rfl⟩:=H;go_step;exact E.out
  . rfl
  apply aj.RP rfl rfl rfl 50 rfl rfl
  .
   intro D v' N hc H hf K E;obtain⟨m2,rfl⟩:=H;go_step;exact E.out
  . rfl
  refine aj.aC rfl (by intro t ht; cases ht) rfl (fun D v' N hc H hf K E=> ?_) (fun _ _=>aj.aB (b:=⟨_,[]⟩) rfl ?_)
  .
   obtain⟨m2,rfl⟩:=H;have br:D 6=false:=hc.1;rw[br];have c1:((Gw ⟨w.heap.size+1+1+1,0,none⟩ (Ey Eg R) false I).drewN m2).cell? ⟨w.heap.size+1+1+1,0,none⟩=_:=f3;have c2:((Gw ⟨w.heap.size+1+1+1,0,none⟩ (Ey Eg R) false I).drewN m2).frozen? ⟨w.heap.size+1+1+1,0,none⟩=_:=f6;go_step;exact E.out Em _ aj.any ⟨m2,rfl⟩ aj.none_ trivial
  refine aj.aF (fun D v' N hd H hf=> ?_);obtain⟨m2,J⟩:=H;rw[hd 6 D7]at J;replace J:N=(I.setCell ⟨w.heap.size+1+1+1,0,none⟩ (Ey Eg R)).drewN m2:=J;clear hd hf;refine hQ _ _ ?_;clear hQ a9 Q' aY
  gi_wp2
  obtain⟨dl,hu,Y,hT,Z,b9⟩:=HH.out;have dc:=(SO pre).1;have SN:=Yz d A len pre ⟨i,hi⟩;have K1:KeepsOthers W W1:=by rw[<- bi.out]; exact KeepsOthers.setCell W ⟨w.heap.size+1+1+1,0,none⟩ (Ey Eg T)
  have K2:KeepsOthers W1 I:=by
   rw[bh.out];have:=KeepsOthers.setCell W1 ⟨w.heap.size+1,i,none⟩ (Ey Eu Q);exact⟨this.size,this.same⟩
  have K3:KeepsOthers I N:=by
   rw[J];have:=KeepsOthers.setCell I ⟨w.heap.size+1+1+1,0,none⟩ (Ey Eg R);exact⟨this.size,this.same⟩
  have k1:KeepsOthers W N:=(K1.trans K2).trans K3;have q1:∀k,k≠w.heap.size+1+1+1->W1.heap[k]? = W.heap[k]? :=fun k h=>by rw[<- bi.out]; exact Below.heap_setCell _ _ _ _ h
  have q2:∀k,k≠w.heap.size+1->I.heap[k]? = W1.heap[k]? :=fun k h=>by rw[bh.out]; exact Below.heap_setCell _ _ _ _ h
  have q3:∀k,k≠w.heap.size+1+1+1->N.heap[k]? = I.heap[k]? :=fun k h=>by rw[J]; exact Below.heap_setCell _ _ _ _ h
  have k3:∀k,k≠w.heap.size+1->k≠w.heap.size+1+1+1->N.heap[k]? = W.heap[k]? :=fun k h1 h2=>(q3 k h2).trans ((q2 k h1).trans (q1 k h2))
  have k2:KD w.heap.size (w.heap.size+1+1+1+1) W N:=by
   refine⟨?_,k3 _ D5 D5⟩;rw[J];refine yX (Below.setCell (p:=⟨w.heap.size+1+1+1,0,none⟩) ?_ (show w.heap.size<=w.heap.size+1+1+1 by omega) _) m2;rw[bh.out];refine yX (Below.setCell (p:=⟨w.heap.size+1,i,none⟩) ?_ (show w.heap.size<=w.heap.size+1 by omega) _) m;rw[<- bi.out];exact(Et w.heap.size W).setCell (p:=⟨w.heap.size+1+1+1,0,none⟩) (show w.heap.size<=w.heap.size+1+1+1 by omega) _
  refine⟨k1.from _,k2,⟨?_,?_,?_,?_,?_⟩,hB.trans k2.1⟩
  .
   rw[SN];have dk:ai W1 (w.heap.size+1) 172 (zI (vH d A len pre).1).toArray:=(q1 _ D5).trans dl;have d9:=(dk.bL i (Ey Eu Q)).drewN m;rw[<- bh.out]at d9;have cx:ai N (w.heap.size+1) 172 _:=(q3 _ D5).trans d9;dsimp only[j'];rw[Y,hu,hT,Z];rw[show (zI (vH d A len pre).1).toArray.setIfInBounds i (Ey Eu Q)=(zI ((vH d A len pre).1.set i Q)).toArray by simp[zI,List.map_set]]at cx;exact cx
  . exact(World.cell?_of_block (a:=⟨w.heap.size,0,none⟩) (k3 w.heap.size D5 D5)).trans cg
  . exact(World.cell?_of_block (a:=⟨w.heap.size+1+1,0,none⟩) (k3 (w.heap.size+1+1) D5 D5)).trans bt
  .
   rw[SN,J];dsimp only[j'];rw[Y,hu,hT,b9];exact World.cell?_setCell_same' _ _ _ (by rw[f3]; rfl)
  .
   rw[J];exact(World.frozen?_setCell _ _ _ _).trans f6
 case done=>
  rintro D ys W hD rfl ⟨⟨hb,cg,bt,aX,cU⟩,hB⟩ E;have ed:D<W.heap.size:=(Array.getElem?_eq_some_iff.1 E).1;obtain⟨qs,f1,f2,f3⟩:=Xq (d:=d) ah d0 len (Eo _);rw[Nat.sub_self,List.replicate_zero,List.nil_append]at f1;rw[Nat.sub_self,List.drop_zero]at f3;have S1:=SO (yU len len (Eo _));obtain⟨r,Y⟩:∃r,(vH d A len (yU len len (Eo _))).2=r:=⟨_,rfl⟩;rw[Y]at aX f3 S1;rw[f1]at hb S1;have QR:=jU f3 S1.2.2.1 S1.2.2.2
  have LQ:aA W (Ex (some ⟨w.heap.size+1,0,none⟩) len len) qs:=by
   have:=aA.a_ hb S1.2.1;rw[f2]at this;exact this
  have HQ:=E6 (E7 QR (E7 S1.2.1 f2));have HB:=E6 hB;have HK:=E6 E;clear hb Y f1 f3 S1 QR hB E ce fa b1 b2 b3 b4 b5 be co SO
  gi_wp2_with fail
  refine wpIn_wide.2 ?_;go_wp2_with fail
  go_quiet (fail)
  gi_wp2
  have ci:(W.drewN nq).heap[D]? = some (.deferred (some [])):=HK.out;refine⟨by simp,.inl ⟨_,_,rfl,run_takeDeferred ci,?_⟩⟩;refine⟨Ev #[Ex (some ⟨w.heap.size+1,0,none⟩) len len,Ez (decide (0<r))],?_,Ex (some ⟨w.heap.size+1,0,none⟩) len len,qs,?_,?_,?_,?_,?_,?_⟩
  . simp[results,Tryz.f165,go_sem]
  . rw[HQ.out.1.2]
  . exact kz (A:=W.drewN nq) LQ (grownBy_putObj' _ D (.deferred none)) (fun r e=>by cases e; exact⟨_,ci,rfl⟩)
  . exact HQ.out.1.1.symm
  . exact HQ.out.2.1
  . exact HQ.out.2.2
  . exact(zt (W:=W.drewN nq) (yX HB.out nq) (Eo _) (Et _ _)).trans (belowK_b (w:=w) (Eo _) _ D _ _ (by simp at hD; omega) ci rfl rfl)
 case stop=>
  rintro D c pre W _ _ h _;exact h.elim
end
section
open Go.RowKit
variable {P:Int} {n:Nat} {x:Ef} {W w1:Ee}
def bX (w1 W:Ee) (x:Ef) (n:Nat) (P:Int):Prop:=∃g cap post L,x = Ex (some ⟨g,0,none⟩) n cap/\w1.heap.size<=g/\n<=cap/\yB L/\L.length=n/\zo L=P/\ai W g 172 (xP [] L post)
theorem bX.ae {E:Ee} (h:bX w1 W x n P) (M:zf W E):bX w1 E x n P:=by
 obtain⟨g,cap,post,L,I,H,N,T,X,J,Y⟩:=h;exact⟨g,cap,post,L,I,H,N,T,X,J,Y.ae M⟩
def ZW:Ef->Nat
 | Ex (some p) _ _=>p.block
 | _=>0
theorem bX.lt (h:bX w1 W x n P):ZW x<W.heap.size:=by
 obtain⟨g,cap,post,L,rfl,-,-,-,-,-,E⟩:=h;exact E.lt
theorem bX.ge (h:bX w1 W x n P):w1.heap.size<=ZW x:=by
 obtain⟨g,cap,post,L,rfl,h,-⟩:=h;exact h
def G5 (n:Nat) (x:Ef):Prop:=∃g cap,x = Ex (some ⟨g,0,none⟩) n cap/\n<=cap
theorem bX.fU (h:bX w1 W x n P):G5 n x:=by
 obtain⟨g,cap,post,L,rfl,-,h,-⟩:=h;exact⟨g,cap,rfl,h⟩
theorem bX.mono {E:Ee} (h:bX w1 W x n P) (hw:E.heap.size<=w1.heap.size):bX E W x n P:=by
 obtain⟨g,cap,post,L,H,J,I⟩:=h;exact⟨g,cap,post,L,H,Nat.le_trans hw J,I⟩
theorem XU {a d:Ef} {A D:Int} {m:Nat} (w:Ee) (ha:aA w a (zp A)) (hd:aA w d (zp D)) (A0:0<=A) (D0:1<=D) (ft:(zp A).length<=1000000) (nD:(zp D).length=m+2) (gQ:D<=A) :
  Ed Ec 135 #[a,d] w fun e X=>∃q r,e = Eh (Ev #[q,r])/\aA X q (zp (A / D))/\aA X r (zp (A%D))/\zf w X:=by
 have nA:(zp A).length<=zP:=by unfold zP; omega
 have gA:m+2<=(zp A).length:=by
  rcases Nat.lt_or_ge (zp A).length (m+2)with h | h
  . have:=yn A0 (show 0<=D by omega) D5; omega
  . exact h
 obtain⟨K,hK⟩:∃K,(zp A).length+1=K+(m+2):=⟨(zp A).length+1-(m+2),by omega⟩;obtain⟨c,hc⟩:∃c,zL A D=c:=⟨_,rfl⟩
 have c0:0<=c:=by
  rw[<- hc]; unfold zL
  split
  . omega
  . rw[E9 D5]; omega
 have cc:Ed Ec 136 #[a,d] w fun e X=>e = Eh (Ey Ew c)/\zf w X:=by
  have:=qP w ha hd A0 D5 nA D5;rw[hc]at this;exact this
 have vD:=zD (show 0<=D by omega);have vA:=zD A0;have oD:=xw D;have oA:=xw A;have tD:=ZD (qi D) nD;obtain⟨Dl,br⟩:∃l,zp D=l:=⟨_,rfl⟩;obtain⟨Al,f9⟩:∃l,zp A=l:=⟨_,rfl⟩;rw[br]at hd vD oD tD nD;rw[f9]at ha vA oA nA ft hK gA;obtain⟨t,ht⟩:∃t,Dl.getD (m+1) 0=t:=⟨_,rfl⟩;have t0:=zG oD (m+1);rw[ht]at t0 tD;have la:=hd;obtain⟨aa,ca,rfl⟩:=ha.ak;obtain⟨ad,cd,rfl⟩:=hd.ak;obtain⟨-,-,ld,fd⟩:=hd.cells;obtain⟨bd,dx,rfl,gI,gz⟩:=fd D5;have g0:=gz (m+1) D5;rw[ht]at g0;have lz:=fun X=>Cs t X D5 t0.2;have s0:∀sv:Nat,2147483648<=t*((2^sv:Nat):Int)->t*((2^sv:Nat):Int)<4294967296->sv<=31->Hid (2147483648<=t*((2^sv:Nat):Int)/\t*((2^sv:Nat):Int)<4294967296):=fun _ h1 h2 _=>⟨h1,h2⟩;have HA:=E6 ha;have HD:=E6 hd;obtain⟨nl,cN⟩:∃n,Al.length=n:=⟨_,rfl⟩;have Z:Hid (zo Dl=D/\zo Al=A/\yB Dl/\yB Al/\Dl.length=m+2/\Al.length=nl/\Dl.getD (m+1) 0=t):=⟨vD,vA,oD,oA,nD,cN,ht⟩;rw[cN]at nA ft gA hK cc HA|-;rw[nD]at ld cc HD|-;have gW:=E6 br;clear la ha hd fd gz vD vA oD oA nD cN ht br f9 hc tD t0;unfold zP at nA
 go_enter Tryz.func135,Tryz.ntmps135
 go_wp2_with (first
  | (go_at_call 136; refine cc.mono ?_; rintro e w1 ⟨rfl,Y⟩; have g1:=(Y.cell (p:=⟨bd,dx+(m+1),none⟩) gI).trans g0)
  | (go_at_call 162; refine(lz _).mono ?_; rintro e w2 ⟨sv,rfl,s1,s2,s3,rfl⟩; have aX:=s0 sv s2 s3 s1; clear s2 s3 s0 lz))
 obtain⟨P,hP⟩:∃P,((2^sv:Nat):Int)=P:=⟨_,rfl⟩;have P0:1<=P:=by have:=Nat.one_le_two_pow (n:=sv); omega
 have P1:P<=2147483648:=by have:=Nat.pow_le_pow_right (show 0<2 by omega) s1; simp at this; omega
 have PQ:P*((2^(32-sv):Nat):Int)=4294967296:=by
  rw[<- hP,<- Int.natCast_mul,<- Nat.pow_add,show sv+(32-sv)=32 by omega]; decide
 have HN:=E6 (fun(L:List Int) (oL:yB L) (lL:L.length=m+3) (hL:zo L=zo Dl*P)=>Qs Z.out.2.2.1 Z.out.2.2.2.2.1 oL lL hL P0 PQ (by rw[Z.out.2.2.2.2.2.2,<- hP]; exact aX.out.1) (by rw[Z.out.2.2.2.2.2.2,<- hP]; exact aX.out.2));have HP:=E6 (E7 hP PQ)
 have em:∀w2,zf w1 w2->Ed Ec 163 #[Ex (some ⟨bd,dx,none⟩) (m+2) cd,Ey Ew sv] w2 fun e X=>∃x,e = Eh x/\bX w2 X x (m+3) (zo Dl*P)/\zf w2 X:=fun w2 hs=>by
  refine(Gu w2 ((HD.out.ae Y).ae hs) (by have:=Z.out.2.2.2.2.1; unfold zP; omega) s1).mono ?_;rintro e X ⟨v,L,rfl,h1,h2,h3,h4,h5⟩;rw[Z.out.2.2.2.2.1]at h3 h4;obtain⟨g,cap,post,rfl,k1,k2,k3⟩:=v_ h4 D5;exact⟨_,rfl,⟨g,cap,post,L,rfl,k1,k2,h1.ok,h3,by rw[h2,hP],k3⟩,h5⟩
 have g8:∀w2,zf w1 w2->Ed Ec 163 #[Ex aa nl ca,Ey Ew sv] w2 fun e X=>∃x,e = Eh x/\bX w2 X x (K+(m+2)) (zo Al*P)/\zf w2 X:=fun w2 hs=>by
  refine(Gu w2 ((HA.out.ae Y).ae hs) (by have:=Z.out.2.2.2.2.2.1; unfold zP; omega) s1).mono ?_;rintro e X ⟨v,L,rfl,h1,h2,h3,h4,h5⟩;rw[Z.out.2.2.2.2.2.1]at h3 h4;rw[hK]at h3 h4;obtain⟨g,cap,post,rfl,k1,k2,k3⟩:=v_ h4 D5;exact⟨_,rfl,⟨g,cap,post,L,rfl,k1,k2,h1.ok,h3,by rw[h2,hP],k3⟩,h5⟩
 have gE:=xT K D5;clear hP PQ aX g0 g1 cc
 refine aj.aI (fun D v W=>zf w1 W/\(D 2=true->bX w1 W (v 2) (m+3) (zo Dl*P))/\(D 7=true->bX w1 W (v 7) (K+(m+2)) (zo Al*P))/\(D 2=true->D 7=true->ZW (v 2)≠ZW (v 7)))
  (aj.inl [2,7]) (aj.gv [(2,G5 (m+3)),(7,G5 (K+(m+2)))]) aj.aR (fun _=>aj.Any) (fun _ _=>False) (aj.pl [(10,[(2,some 43),(7,some 48)])]) (aj.pl [])
  D6 D6 D6 (aj.bj _ (by intro p hp; simp only[List.mem_cons,List.not_mem_nil,or_false]at hp; rcases hp with rfl | rfl<;>exact⟨_,0,_,rfl,Eo _⟩)) (fun v=> ?_) (fun D v v' W hv M=> ?_) (fun _ _ _ _ _ _ _ _ _ _ _ _ _=>aj.none_) (fun _ _ _ _ h=>h.elim) (fun fe Q' dk hQ=> ?_)
 . exact⟨(Et _ w1).drew,fun h=>Bool.noConfusion h,fun h=>Bool.noConfusion h,fun h=>Bool.noConfusion h⟩
 .
  refine⟨M.1,fun h=> ?_,fun h=> ?_,fun h h'=> ?_⟩
  . rw[<- hv 2 h]; exact M.2.1 h
  . rw[<- hv 7 h]; exact M.2.2.1 h
  . rw[<- hv 2 h,<- hv 7 h']; exact M.2.2.2 h h'
 repeat refine aj.aD _ ?_
 refine aj.aC rfl (by intro t ht; cases ht; exact Eb rfl) rfl (fun D v' I hc M hf K hK=> ?_) ?_
 .
  have Y:D 2=false:=hc.1;go_step;refine(em I M.1).mono ?_;rintro e W2 ⟨x,rfl,hr,hs⟩;refine hK.out x W2 aj.any ⟨M.1.trans (hs.mono M.1.size),?_,?_,?_⟩ aj.none_ hr.fU
  . intro _; exact hr.mono M.1.size
  . intro h; exact(M.2.2.1 h).ae hs
  . intro _ h; have:=(M.2.2.1 h).lt; have:=hr.ge; exact fun e=>by have e':ZW x=ZW (v' 7):=e; omega
 rintro _ ⟨g2,b9,rfl,gM⟩;refine aj.aB (b:=⟨#[_,_,_,_,_,_,_,_,_,_,_,_,_,_,_,_,_,_,_,_,_,_,_,_,_,_,_,_,_,_,_,_,_,_,_,_,_,_,_,_,_,_,_,_,_,_,_,_,_,_,_,_,_,_,_,_,_,_,_,_,_,_,_,_,_,_,_,_,_,_,_,_,_,_,_,_,_,_,_,_,_,_,_,_],[]⟩) rfl ?_
 repeat refine aj.aD _ ?_
 refine aj.aC rfl (by intro t ht; cases ht; exact Eb rfl) rfl (fun D v' I hc M hf K hK=> ?_) ?_
 .
  have Y:D 7=false:=hc.1;go_step;refine(g8 I M.1).mono ?_;rintro e W2 ⟨x,rfl,hr,hs⟩;refine hK.out x W2 aj.any ⟨M.1.trans (hs.mono M.1.size),?_,?_,?_⟩ aj.none_ hr.fU
  . intro h; exact(M.2.1 h).ae hs
  . intro _; exact hr.mono M.1.size
  . intro h _; have:=(M.2.1 h).lt; have:=hr.ge; exact fun e=>by have e':ZW (v' 2)=ZW x:=e; omega
 rintro _ ⟨g7,J,rfl,gG⟩;refine aj.aB (b:=⟨#[_,_,_,_,_,_,_,_,_,_,_,_,_,_,_,_,_,_,_,_,_,_,_,_,_,_,_,_,_,_,_,_,_,_,_,_,_,_,_,_,_,_,_,_,_,_,_,_,_,_,_,_,_,_,_,_,_,_,_,_,_,_,_,_,_,_,_,_,_,_,_,_,_,_,_,_,_,_,_,_,_,_,_,_],[]⟩) rfl ?_
 repeat refine aj.aD _ ?_
 refine aj.aF (fun Dn v' I hd M hf=> ?_);obtain⟨ey,bi,bh,a9⟩:=M;replace bi:=bi (hd 2 D7);replace bh:=bh (hd 7 D7);replace a9:=a9 (hd 2 D7) (hd 7 D7);have e2:v' 2 = Ex (some ⟨g2,0,none⟩) (m+3) b9:=(hf (2,some 43) (by show (2,some 43)∈ [(2,some 43),(7,some 48)]; simp) rfl).2.1;have e7:v' 7 = Ex (some ⟨g7,0,none⟩) (K+(m+2)) J:=(hf (7,some 48) (by show (7,some 48)∈ [(2,some 43),(7,some 48)]; simp) rfl).2.1;rw[e2]at bi a9;rw[e7]at bh a9;replace a9:g2≠g7:=a9;clear hf hd e2 e7;obtain⟨gv,capv,gF,Lv,hx,gT,gJ,ov,lv,vv,bv⟩:=bi;obtain⟨rfl⟩:g2=gv/\True:=by simp only[Value.slice.injEq,Option.some.injEq,Addr.mk.injEq]at hx; exact⟨hx.1.1,trivial⟩
 clear hx;obtain⟨gu,capu,H,Lu,hx,gV,gO,ou,lu,vu,bu⟩:=bh;obtain⟨rfl⟩:g7=gu/\True:=by simp only[Value.slice.injEq,Option.some.injEq,Addr.mk.injEq]at hx; exact⟨hx.1.1,trivial⟩
 clear hx gJ gO;refine hQ _ _ ?_;clear hQ dk Q' fe em g8;have NT:=HN.out Lv ov lv vv;obtain⟨T,be⟩:∃l,Lv.take (m+2)=l:=⟨_,rfl⟩;rw[be]at NT;have cy:yB T:=by rw[<- be]; exact yh ov _
 have lV:T.length=m+2:=by rw[<- be,List.length_take]; omega
 have eW:Cells I g2 0 T:=fun t ht=>by
  rw[lV]at ht;rw[bv.cell,xu (j:=0) rfl D5,<- be];simp[List.getD,List.getElem?_take,ht]
 have gL:g2<I.heap.size:=bv.lt;have gP:g7<I.heap.size:=bu.lt;have vV:zo T<bp (m+2):=by have:=yS cy; rwa[lV]at this
 have start:zo (Lu.drop K)<zo T:=by
  refine Yr (la:=nl) (A:=A) (P:=P) ou lu hK (by rw[vu,Z.out.2.1]) ?_ A0 P0 P1 (by rw[NT.1]; exact NT.2.2);have:=yS Z.out.2.2.2.1;rw[Z.out.2.1,Z.out.2.2.2.2.2.1]at this;exact this
 have hB:Below w.heap.size w I:=zt Y (Eo _) ey;have HS:=E6 (E7 NT (E7 vu (E7 cy (E7 lV vV))));have aX:=E6 lu;have z1:=Y.size;clear be bv NT lv lu vv vu HN ov cy lV vV ey Y;go_wp2_with fail
 obtain⟨W3,bg⟩:∃W,I.alloc (.cells (madeCells #[Ey Eu 0] K) 172)=W:=⟨_,rfl⟩;have SW:zf I W3:=by rw[<- bg]; exact(Et _ _).alloc (Eo _) _
 have K0:ai W3 I.heap.size 172 (zI (List.replicate K 0 ++ [])).toArray:=by
  have:=ai.new I 172 (madeCells #[Ey Eu 0] K);rw[bg,yH,<- List.append_nil (List.replicate K (0:Int))]at this;exact this
 have f8:ai W3 g7 172 (xP [] Lu H):=bu.ae SW;have ed:Cells W3 g2 0 T:=eW.below SW gL;have BW:Below w.heap.size w W3:=zt hB (Eo _) SW;have gq:I.heap.size<W3.heap.size:=K0.lt;rw[bg];have z2:=hB.size;clear gE bu bg SW eW hB
 go_loopw [12] (fun jv wr=>∃ (k:Nat) (E qs:List Int),k<=K/\jv = Ey Ew ((k:Int)-1)/\yB E/\E.length=K+(m+2)/\yB qs/\qs.length+k=K/\zo E+zo T*(bp k*zo qs)=zo Al*P/\zo (E.drop k)<zo T/\
   ai wr g7 172 (xP [] E H)/\ai wr I.heap.size 172 (zI (List.replicate k 0++qs)).toArray/\Cells wr g2 0 T/\Below w.heap.size w wr) (fun j _=>(intOf j+1).toNat)
 case atStart=>exact⟨K,Lu,[],Eo _,by go_num,ou,aX.out,yg,by simp,by simp[zo]; exact HS.out.2.1,start,f8,K0,ed,BW⟩
 case round=>
  obtain⟨k,E,qs,hk,cx,oU,lU,oq,lq,vq,dq,co,ah,cg,ce⟩:=hrel;clear start f8 K0 ed BW
  rcases Nat.eq_zero_or_pos k with rfl | hp
  .
   rename Ee=>w4;have gB:=cx.trans (show Value.int Ew (((0:Nat):Int)-1)=Value.int Ew (-1) from rfl);clear cx;subst gB;have ci:qs.length=K:=D5
   rw[kN,Int.one_mul]at vq;rw[List.drop_zero]at dq
   have dy:aA w4 (Ex (some ⟨I.heap.size,0,none⟩) K K) qs:=by
    have:=aA.a_ ah oq;rw[List.replicate_zero,List.nil_append,ci]at this;exact this
   have dl:aA w4 (Ex (some ⟨g7,0,none⟩) (K+(m+2)) J) E:=by
    have:=aA.el (w:=w4) (g:=g7) (cs:=zI E++H) (cap:=J) (o:=0) (l:=E) (by have h:=co; unfold xP at h; exact h) oU (fun t ht=>by rw[Nat.zero_add,List.getElem?_append_left (by rw[yL]; exact ht)]; exact qj _ _ ht) D5;rw[lU]at this;exact this
   have e0:=zE oU;have DP:zo T=D*P:=by rw[HS.out.1.1,Z.out.1]
   have hP:=HP.out;obtain⟨W,hW⟩:∃W,A%D=W:=⟨_,rfl⟩
   have QR:A / D=zo qs/\zo E=W*P:=by
    have h1:=jU (A:=A*P) (D:=D*P) (q:=zo qs) (r:=zo E) (by rw[<- DP]; rw[Z.out.2.1]at vq; omega) e0 (by rw[<- DP]; exact dq);rw[Int.mul_ediv_mul_of_pos_left _ _ D5]at h1;have h2:=Int.mul_ediv_add_emod A D;have h3:A*P=(D*(A / D)+A%D)*P:=by rw[h2]
    rw[Int.add_mul,Int.mul_right_comm,hW,h1.1]at h3;rw[Z.out.2.1,DP]at vq;exact⟨h1.1,by omega⟩
   have tv:zo (zQ E) / ((2^sv:Nat):Int)=W:=by
    rw[vz,QR.2,HP.out.1,Int.mul_ediv_cancel _ D5]
   have tl:(zQ E).length<=zP:=by have:=vY E; unfold zP; omega
   have lq:qs.length<=zP:=by unfold zP; omega
   have HE:=E6 (E7 QR.1 (E7 oq (E7 tv hW)));have HU:=E6 lU;have gX:=E6 ci;clear oU lU oq ci vq dq co ah cg QR DP e0 HS aX hP tv hW
   go_wp2_with (first
    | (go_at_call 133; refine(Xk _ dl (by have:=HU.out; unfold zP; omega)).mono ?_; clear dl; rintro e w5 ⟨v5,rfl,gt,gC⟩; have eM:=dy.ae gC; clear dy)
    | (go_at_call 165; refine(G4 _ gt tl s1).mono ?_; clear gt; rintro e w6 ⟨v6,l6,rfl,ek,bl,dP,d9,cU⟩; rw[HE.out.2.2.1]at bl; have gd:=eM.ae cU; clear eM; have dz:=E6 (E7 bl dP); have gK:Hid (l6.length<=zP):=Nat.le_trans (Nat.le_of_eq d9) tl; clear bl dP d9)
    | (go_at_call 133; refine(Xk _ gd lq).mono ?_; clear gd; rintro e w7 ⟨v7,rfl,gN,f7⟩; have er:=ek.ae f7; clear ek)
    | (go_at_call 133; refine(Xk _ er gK.out).mono ?_; clear er; rintro e w8 ⟨v8,rfl,gH,g9⟩))
   go_returns
   have bt:=HE.out;refine⟨_,_,rfl,?_,?_,zt (zt (zt (zt ce (Eo _) gC) (Eo _) cU) (Eo _) f7) (Eo _) g9⟩
   .
    rw[bt.1,yt bt.2.1];exact gN.ae g9
   .
    rw[bt.2.2.2];have:=yt dz.out.2;rw[dz.out.1]at this;rw[this];exact gH
  .
   obtain⟨j,rfl⟩:∃j,k=j+1:=⟨k-1,by omega⟩;subst cx;have gR:¬J=j:=D5
   have HU:=E6 (E7 oU (E7 lU (E7 oq (E7 lq (E7 vq dq)))));clear oU lU oq lq vq dq
   have dc:Ed Ec 164 #[Ex (some ⟨g7,j,none⟩) (j+(m+2)+1-j) (J-j),Ex (some ⟨g2,0,none⟩) (m+2) b9] wr fun e X=>∃ (x:Int) (Un:List Int),e = Eh (Ey Eu x)/\0<=x/\x<4294967296/\
     Hid (yB Un/\Un.length=K+(m+2)/\zo Un+zo T*(bp j*zo (x::qs))=zo Al*P/\zo (Un.drop j)<zo T)/\
     ai X g7 172 (xP [] Un H)/\wr.grownBy X (some g7):=by
    obtain⟨o1,o2,o3,o4,o5,o6⟩:=HU.out;have S:=Xf (m:=m) o1 D5 HS.out.2.2.2.2 o6;have lT:(E.take j).length=j:=by rw[List.length_take]; omega
    have gD:=HS.out.1.2.1
    have C:=Bf (m:=m) (pre:=zI (E.take j)) (post:=zI (E.drop (j+(m+3)))++H) (U:=(E.drop j).take (m+3)) (V:=T) (g:=g7) (j:=j) (b:=g2) (o:=0) (capu:=J-j) (capv:=b9) wr
     (by rw[<- Xi]; exact co) (by rw[yL]; exact lT) (by rw[List.length_take,List.length_drop]; omega) (yh (xS o1 _) _) D5 cg HS.out.2.2.2.1 HS.out.2.2.1 (Nat.lt_trans D5 ah.lt) D5 (by unfold zP; omega) gD S.1
    rw[show j+(m+2)+1-j=m+3 by omega];refine C.mono ?_;rintro e X ⟨U',rfl,k1,k2,k3,k4,k5⟩;rw[S.2.1]at k3|-;have p1:=xY (m+1);have gn:0<zo T:=by rw[HS.out.1.1]; have:=HS.out.1.2.2; omega
    have e0:=Int.mul_ediv_add_emod (zo (E.drop j)) (zo T);have n0:=zE (xS o1 j);have q0:0<=zo (E.drop j) / zo T:=Int.ediv_nonneg n0 D5;have q1:zo (E.drop j) / zo T<4294967296:=Int.ediv_lt_of_lt_mul gn (by have:=S.1; rw[S.2.1,Int.mul_comm]at this; exact this);have m1:=Int.emod_lt_of_pos (zo (E.drop j)) gn;have N:=Xg (m:=m) (j:=j) (U:=E) (S:=U') (qs:=qs) (q:=zo (E.drop j) / zo T) (V:=zo T) k1 D5 S.2.2 o5 (by rw[k3,Int.mul_comm (zo (E.drop j) / zo T)]; omega) (by rw[k3]; exact m1);refine⟨_,E.take j++(U'++E.drop (j+(m+3))),rfl,q0,q1,⟨?_,?_,N.1,N.2⟩,?_,k5⟩
    . exact xt.2 ⟨yh o1 _,xt.2 ⟨k2,xS o1 _⟩⟩
    . rw[List.length_append,List.length_append,lT,k1,List.length_drop]; omega
    . rw[<- Qv]; exact k4
   go_wp2_with (go_at_call 164; refine dc.mono ?_; clear dc; rintro e wd ⟨x,Un,rfl,x0,x1,HN,fl,cn⟩; have aY:ai wd I.heap.size 172 (zI (List.replicate (j+1) 0++qs)).toArray:=(cn.block _ ah.lt (fun e=>by have:=Option.some.inj e; omega)).trans ah; have g2:wd.cell? ⟨I.heap.size,j,none⟩=some (Ey Eu 0):=aY.c _ (by simp[zI,List.getElem?_append,List.getElem?_replicate]); have g3:wd.frozen? ⟨I.heap.size,j,none⟩=false:=aY.fr _)
   go_roundw
   case rel=>
    obtain⟨o1,o2,o3,o4,o5,o6⟩:=HU.out;refine⟨j,Un,x::qs,by omega,rfl,HN.out.1,HN.out.2.1,ye.2 ⟨⟨x0,x1⟩,o3⟩,by rw[List.length_cons]; omega,HN.out.2.2.1,HN.out.2.2.2,fl.aH D5,aY.bF (Yt j _ qs),(cg.grown cn (Nat.lt_trans D5 ah.lt) D5).set D5,?_⟩;exact(ce.grown cn ce.size (fun k hk=>by have:=Option.some.inj hk; omega)).setCell (p:=⟨I.heap.size,j,none⟩) (show w.heap.size<=I.heap.size by omega) _
   case measure=>simp[intOf]
end
end Go.Proofs.YtffmbepfbienaaaGreat
