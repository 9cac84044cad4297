import Derived.Test.YtdkcffnmlllamaaGreatMTk
import Derived.Laws.CopyOwn
import Derived.Deep.DeepCutAuto
import Derived.Deep.QuietTactic
import Derived.Test.YtdkcffnmlllamaaGreatMNa
set_option linter.unusedVariables false
set_option linter.unusedSimpArgs false
set_option maxHeartbeats 6400000
set_option maxRecDepth 1000000
namespace Go.Proofs.YtdkcffnmlllamaaGreat
open Go.RowKit
theorem seg_copy {pre post:List Value} {U U':List Int} {j:Nat} (hj:pre.length=j) (hl:U'.length=U.length) :
  ((seg pre U post).toList.take j++(u32s U'++(seg pre U post).toList.drop (j+(u32s U').length))).toArray=seg pre U' post:=by
 subst hj
 have e1:(seg pre U post).toList.take pre.length=pre:=by simp[seg]
 have e2:(seg pre U post).toList.drop (pre.length+(u32s U').length)=post:=by
  simp only[seg]
  rw[List.drop_append,List.drop_of_length_le (by omega),Nat.add_sub_cancel_left,List.nil_append,List.drop_append,List.drop_of_length_le (by simp[u32s,hl])]
  simp[u32s,hl]
 rw[e1,e2,seg]
theorem info1:(Tryz.prog.info? 130).map (·.size)=some 1:=by kernel_rfl
theorem wstep {g j b o m capu capv:Nat} {pre post:List Value} {U V:List Int} (w:World) (hB:Blk w g 130 (seg pre U post)) (hj:pre.length=j) (hU:U.length=m+3) (okU:lok U) (hcu:m+3≤capu)
  (hV:Cells w b o V) (lV:V.length=m+2) (okV:lok V) (hb:b<w.heap.size) (hne:b≠g) (hn:m+3≤few) (htop:2147483648≤V.getD (m+1) 0) (hlt:lval U<lval V*4294967296) :
  Calls Tryz.prog 145 #[.slice (some ⟨g,j,none⟩) (m+3) capu,.slice (some ⟨b,o,none⟩) (m+2) capv] w fun e w'=>
   ∃U',e = .returned (.int .u32 (lval U / lval V))∧U'.length=m+3∧lok U'∧lval U'=lval U%lval V∧Blk w' g 130 (seg pre U' post)∧w.grownBy w' (some g):=by
 unfold few at hn
 have hg:g<w.heap.size:=hB.lt
 obtain⟨un,hun⟩:∃x,U.getD (m+2) 0=x:=⟨_,rfl⟩
 obtain⟨un1,hun1⟩:∃x,U.getD (m+1) 0=x:=⟨_,rfl⟩
 obtain⟨v1,hv1⟩:∃x,V.getD (m+1) 0=x:=⟨_,rfl⟩
 have bu:=lok_getD okU (m+2)
 have bu1:=lok_getD okU (m+1)
 have bv1:=lok_getD okV (m+1)
 have cu:w.cell? ⟨g,j+(m+2),none⟩=some (.int .u32 un):=by rw[← hun]; exact hB.c _ (seg_get hj (by omega))
 have cu1:w.cell? ⟨g,j+(m+1),none⟩=some (.int .u32 un1):=by rw[← hun1]; exact hB.c _ (seg_get hj (by omega))
 have cv1:w.cell? ⟨b,o+(m+1),none⟩=some (.int .u32 v1):=by rw[← hv1]; exact hV _ (by omega)
 have DM:=digit_math okU okV hU lV (by omega) hlt
 rw[hun,hun1,hv1]at DM
 obtain⟨Q,hQ⟩:∃Q,lval U / lval V=Q:=⟨_,rfl⟩
 have hR:lval U%lval V=lval U-Q*lval V:=by
  have:=Int.mul_ediv_add_emod (lval U) (lval V)
  rw[hQ,Int.mul_comm]at this
  omega
 rw[hQ]at DM
 rw[hQ,hR]
 obtain⟨Q0,Q1,Q2,Q3,Q4,Q5,Q6⟩:=DM
 rw[hun]at bu
 rw[hun1]at bu1
 rw[hv1]at bv1 htop
 have HQ:Hid (Q*lval V≤lval U∧lval U-Q*lval V<lval V∧0<lval V):=⟨Q4,Q5,Q6⟩
 have HB:=Hid.mk_ hB
 have HV:=Hid.mk_ hV
 have HJ:Hid (pre.length=j∧U.length=m+3∧V.length=m+2∧lok U∧lok V):=⟨hj,hU,lV,okU,okV⟩
 have gle:un<v1→Q≤(un*4294967296+un1) / v1:=fun _=>by
  have e:=Int.mul_ediv_add_emod (un*4294967296+un1) v1
  have:=Int.emod_lt_of_pos (un*4294967296+un1) (show 0<v1 by omega)
  exact guess_le (by rw[Int.mul_comm]; exact e) this Q2 (by omega)
 clear hun hun1 hv1 hU lV hj hlt hB hV Q2 Q3 Q4 Q5 Q6 hR hQ okU okV
 go_enter Tryz.func145,Tryz.ntmps145
 go_wp2_with fail
 go_quiet (fail)
 go_upto_if 19 with fail
 go_cut [6] (fun q wx=>∃gv:Int,q = .int .u32 gv∧Q≤gv∧0≤gv∧gv<4294967296∧∃n,wx=w.drewN n)
 case first=>
  rcases Int.lt_or_le un v1 with h1 | h1
  ·
   have gl:=gle h1
   have hd:decide (un<v1)=true:=decide_eq_true h1
   have g0:0≤(un*4294967296+un1) / v1:=Int.ediv_nonneg (by omega) (by omega)
   have g1:(un*4294967296+un1) / v1<4294967296:=Int.ediv_lt_of_lt_mul (by omega) (by omega)
   have G:=Hid.mk_ (And.intro gl (And.intro g0 g1))
   have i1:(0:Int)≤(m:Int)+2:=by omega
   have i2:(m:Int)+2<(m:Int)+3:=by omega
   have i3:((m:Int)+2).toNat=m+2:=by omega
   have i4:(0:Int)≤(m:Int)+1:=by omega
   have i5:(m:Int)+1<(m:Int)+3:=by omega
   have i6:((m:Int)+1).toNat=m+1:=by omega
   have i7:(m:Int)+1<(m:Int)+2:=by omega
   have i8:IntKind.i64.wrap ((m:Int)+2-1)=(m:Int)+1:=by rw[IntKind.wrap_i64]; omega
   have i9:wrap64 ((m:Int)+2-1)=(m:Int)+1:=by unfold wrap64; omega
   clear gle gl g0 g1
   go_wp2_with fail
   go_region_held3 (fun w'=>w'.cell? ⟨g,j+(m+2),none⟩=some (.int .u32 un)∧w'.cell? ⟨g,j+(m+1),none⟩=some (.int .u32 un1)∧w'.cell? ⟨b,o+(m+1),none⟩=some (.int .u32 v1))
    (first | exact⟨cu,cu1,cv1⟩)
    (first | ((go_at_call 160; refine(bdiv un un1 v1 _ bu.1 h1 bu1 bv1.2).mono ?_; rintro e wv ⟨rfl,n3,rfl⟩)))
   go_wp2_with fail
   go_meet
   exact⟨_,rfl,G.out.1,G.out.2.1,G.out.2.2,(by first | exact⟨_,rfl⟩ | exact drew2 _ _ _ | exact⟨_,rfl⟩)⟩
  ·
   have hd:decide (un<v1)=false:=decide_eq_false (by omega)
   clear gle
   go_wp2_with fail
   go_meet
   exact⟨_,rfl,by omega,by omega,by omega,(by first | exact⟨_,rfl⟩ | exact drew2 _ _ _)⟩
 case rest=>
  obtain⟨gv,rfl,a1,a2,a3,nn,rfl⟩:=hcut
  have hBn:Blk (w.drewN nn) g 130 (seg pre U post):=HB.out.drewN nn
  clear gle cu cu1 cv1 bu bu1 bv1 htop
  go_wp2_with fail
  go_loopw [6,7] (fun q r wr=>∃gv:Int,q = .int .u32 gv∧Q≤gv∧0≤gv∧gv<4294967296∧Below w.heap.size w wr) (fun q _ _=>(intOf q).toNat)
  case atStart=>exact⟨gv,rfl,a1,a2,a3,belowN (Below.refl _ _) nn⟩
  case round=>
   clear a1 a2 a3
   obtain⟨gv,rfl,a1,a2,a3,hnx⟩:=hrel
   have hb1:Blk wr g 130 (seg pre U post):=(hnx.block g hg).trans HB.out
   have LU:Lim wr (.slice (some ⟨g,j,none⟩) (m+3) capu) U:=by
    have e:=HJ.out.2.1
    have:=Lim.of_blk (o:=j) (cap:=capu) (l:=U) (cs:=(seg pre U post).toList) (by simpa using hb1) HJ.out.2.2.2.1 (fun t ht=>by have:=seg_get (post:=post) HJ.out.1 ht; simpa using this) (by omega)
    rw[e]at this
    exact this
   have HW:=Hid.mk_ hb1
   have HX:=Hid.mk_ hnx
   have cl:=wclone wr LU (by rw[HJ.out.2.1]; unfold few; omega)
   rw[HJ.out.2.1]at cl
   have sb:∀ (w1:World) (g2 cap2:Nat) (post2:List Value),Steps wr w1→wr.heap.size≤g2→Blk w1 g2 130 (seg [] U post2)→Calls Tryz.prog 162 #[.slice (some ⟨g2,0,none⟩) (m+3) cap2,.slice (some ⟨b,o,none⟩) (m+2) capv,.int .u32 gv] w1 fun e w'=>
     ∃ (U':List Int) (bw:Int),e = .returned (.bool (bw==0))∧Hid (0≤bw∧bw≤1∧U'.length=m+3∧lok U'∧lval U'=lval U-gv*lval V+bp (m+3)*bw)∧Blk w' g2 130 (seg [] U' post2)∧w1.grownBy w' (some g2):=fun w1 g2 cap2 post2 hs hg2 hbk=>by
    have hbs:b<wr.heap.size:=Nat.lt_of_lt_of_le hb hnx.size
    have:=wsubtract (q:=gv) (m:=m+2) (capu:=cap2) (capv:=capv) (g:=g2) (j:=0) (b:=b) (o:=o) (pre:= []) (post:=post2) (U:=U) (V:=V) w1 hbk rfl HJ.out.2.1 HJ.out.2.2.2.1
     ((HV.out.below (hnx.mono (Nat.le_refl _)) hb).below hs hbs) HJ.out.2.2.1 HJ.out.2.2.2.2 (by omega) (Nat.lt_of_lt_of_le hbs hs.size) (by omega) (by unfold few; omega) a2 a3
    refine this.mono ?_
    rintro e w' ⟨U',bw,rfl,k1,k2,k3,k4,k5,k6,k7⟩
    exact⟨U',bw,rfl,⟨k1,k2,k3,k4,k5⟩,k6,k7⟩
   have hgr:g<wr.heap.size:=hb1.lt
   clear LU hb1
   go_upto_if 43 with(first
    | (go_at_call 139; refine cl.mono ?_; clear cl; rintro e w1 ⟨vc,rfl,hown,hLc,hs1⟩; obtain⟨g2,cap2,post2,rfl,hg2,hc2,hbk⟩:=own_blk hown (by omega); have sb1:=sb w1 g2 cap2 post2 hs1 hg2 hbk)
    | (go_at_call 162; refine sb1.mono ?_; clear sb sb1; rintro e w2 ⟨U',bw,rfl,hU',hbk2,hgr2⟩))
   rcases Int.decEq bw 0 with hbw | hbw
   rotate_left
   ·
    subst hbw
    obtain⟨k1,k2,k3,k4,k5⟩:=hU'.out
    have hq:gv=Q:=by
     have L0:=lval_nonneg k4
     rw[Int.mul_zero,Int.add_zero]at k5
     rcases Int.lt_or_le Q gv with h | h
     ·
      have e1:=Int.mul_le_mul_of_nonneg_right (show Q+1≤gv by omega) (show 0≤lval V by have:=HQ.out.2.2; omega)
      rw[Int.add_mul,Int.one_mul]at e1
      have:=HQ.out.2.1
      omega
     · omega
    subst hq
    have hbg:Blk w2 g 130 (seg pre U post):=(hgr2.block g (Nat.lt_of_lt_of_le hgr hs1.size) (fun e=>by have:=Option.some.inj e; omega)).trans ((hs1.block g hgr).trans HW.out)
    have hsrc:∀i v,(u32s U')[i]? = some v→w2.cell? ((⟨g2,0,none⟩:Addr).add i)=some v:=fun i v hv=>by
     have hi:i<U'.length:=by have:=(List.getElem?_eq_some_iff.1 hv).1; simpa[u32s]using this
     rw[u32s_getD U' i hi]at hv
     have:=hbk2.c _ (seg_get (j:=0) (pre:= []) rfl hi)
     rw[Addr.add_lit,this]
     exact hv
    have SC:=Hid.mk_ (seg_copy (post:=post) HJ.out.1 (k3.trans HJ.out.2.1.symm))
    have HS:=Hid.mk_ hsrc
    have HK:=Hid.mk_ hbg
    have hfit:j+(u32s U').length≤(seg pre U post).size:=by simp[seg,u32s,k3,HJ.out.1,HJ.out.2.1]
    have hn2:(u32s U').length=Nat.min (m+3) (m+3):=by simp[u32s,k3]
    clear hsrc hbg k1 k2 k5
    go_wp2_with ((with_reducible show wpList _ _ _ _ _ _); refine wpList_copy_own rfl (.tmp 44) (.tmp 45) 28 28 rfl 130 Tryz.underlying28 info1 g j (m+3) capu ⟨g2,0,none⟩ (m+3) cap2 rfl rfl (seg pre U post) 130 HK.out (u32s U') hn2 HS.out hfit (by intro v hv; obtain⟨z,_,rfl⟩:=List.mem_map.1 hv; rfl) ?_)
    go_returns
    have k5:=hU'.out.2.2.2.2
    rw[Int.mul_zero,Int.add_zero]at k5
    have hsw:=HX.out.size
    have hs1s:=hs1.size
    have hbe:∀X:Array Value,Blk (w2.setRow g X) g 130 X:=fun X=>by
     have h:=HK.out
     unfold Blk at h⊢
     show (w2.heap.modify g _)[g]? = _
     rw[Array.getElem?_modify,h]
     simp
    refine⟨U',rfl,k3,k4,k5,?_,⟨?_,?_,?_,?_,?_⟩⟩
    ·
     have SC':=SC.out
     rw[u32s_length,k3]at SC'
     rw[SC']
     exact hbe _
    · exact hgr2.os.trans (hs1.os.trans HX.out.os)
    · exact hgr2.tape.trans (hs1.tape.trans HX.out.tape)
    · exact hgr2.output.trans (hs1.output.trans HX.out.output)
    ·
     have:=hgr2.size
     simp only[World.setRow,Array.size_modify]at *
     omega
    ·
     intro k hk hkg
     rw[setRow_other w2 g k _ (fun e=>hkg (by rw[e]))]
     exact(hgr2.block k (by omega) (fun e=>by have:=Option.some.inj e; omega)).trans ((hs1.block k (by omega)).trans (HX.out.block k hk))
   ·
    have h0:(bw==0)=false:=by simp[hbw]
    obtain⟨k1,k2,k3,k4,k5⟩:=hU'.out
    have hq:Q<gv:=by
     have L1:=lval_lt k4
     rw[k3]at L1
     rcases Int.lt_or_le Q gv with h | h
     · exact h
     ·
      have e1:=Int.mul_le_mul_of_nonneg_right h (show 0≤lval V by have:=HQ.out.2.2; omega)
      have:=HQ.out.1
      rw[show bw=1 by omega,Int.mul_one]at k5
      omega
    clear k1 k2 k3 k4 k5
    have e9:(gv-1)%4294967296=gv-1:=Int.emod_eq_of_lt (by omega) (by omega)
    go_wp2
    go_roundw
    case rel=>exact⟨gv-1,by first | rfl | rw[e9],by omega,by omega,by omega,(below_steps HX.out (Nat.le_refl _) hs1).grown hgr2 (by have:=hs1.size; have:=HX.out.size; omega) (fun k hk=>by cases hk; have:=HX.out.size; omega)⟩
    case measure=>(try rw[e9]); simp[intOf]; omega
theorem wdivide_lt {a d:Value} {A D:Int} (w:World) (ha:Lim w a (limbs A)) (hd:Lim w d (limbs D)) (A0:0≤A) (D0:1≤D) (nA:(limbs A).length≤few) (nD:(limbs D).length≤few) (hlt:A<D) :
  Calls Tryz.prog 112 #[a,d] w fun e w'=>∃q r,e = .returned (.tuple #[q,r])∧Lim w' q (limbs (A / D))∧Lim w' r (limbs (A%D))∧Steps w w':=by
 have hc:cmpI A D = -1:=by unfold cmpI; rw[if_neg (by omega),if_pos hlt]
 have cc:Calls Tryz.prog 140 #[a,d] w fun e w'=>e = .returned (.int .i64 (-1))∧Steps w w':=by
  have:=wcompare w ha hd A0 (by omega) nA nD
  rw[hc]at this
  exact this
 have tt:∀w',Steps w w'→Calls Tryz.prog 139 #[a] w' fun e w2=>∃v,e = .returned v∧w2.ownsRow w'.heap.size 130 1 v (limbs A).length (u32s (limbs A))∧Lim w2 v (limbs A)∧Steps w' w2:=fun w' h=>wclone w' (ha.steps h) nA
 have q0:Hid (A / D=0∧A%D=A):=⟨Int.ediv_eq_zero_of_lt A0 hlt,Int.emod_eq_of_lt A0 hlt⟩
 obtain⟨aa,ca,rfl⟩:=ha.shape
 obtain⟨ad,cd,rfl⟩:=hd.shape
 clear ha hd hc
 go_enter Tryz.func112,Tryz.ntmps112
 go_wp2_with (first
  | (go_at_call 140; refine cc.mono ?_; rintro e w1 ⟨rfl,hs1⟩; have tt1:=tt w1 hs1)
  | (go_at_call 139; refine tt1.mono ?_; rintro e w2 ⟨v2,rfl,ho2,hv2,hs2⟩))
 go_returns
 refine⟨_,_,rfl,?_,?_,below_steps hs1 (Nat.le_refl _) hs2⟩
 · rw[q0.out.1]; exact Lim.nil _
 · rw[q0.out.2]; exact hv2
theorem wdivide_one {a d:Value} {A D:Int} (w:World) (ha:Lim w a (limbs A)) (hd:Lim w d (limbs D)) (A0:0≤A) (D0:1≤D) (nA:(limbs A).length≤few) (nD:(limbs D).length=1) (hlt:D≤A) :
  Calls Tryz.prog 112 #[a,d] w fun e w'=>∃q r,e = .returned (.tuple #[q,r])∧Lim w' q (limbs (A / D))∧Lim w' r (limbs (A%D))∧Steps w w':=by
 obtain⟨c,hc⟩:∃c,cmpI A D=c:=⟨_,rfl⟩
 have c0:0≤c:=by
  rw[← hc]; unfold cmpI
  split
  · omega
  · rw[if_neg (by omega)]; omega
 have cc:Calls Tryz.prog 140 #[a,d] w fun e w'=>e = .returned (.int .i64 c)∧Steps w w':=by
  have:=wcompare w ha hd A0 (by omega) nA (by unfold few; omega)
  rw[hc]at this
  exact this
 have hD:limbs D = [D]∧D<4294967296:=by
  match h:limbs D,nD with
  | [x],_=>
   have e1:=lval_limbs (show 0≤D by omega)
   have e2:=limbs_ok D
   rw[h]at e1 e2
   simp[lval]at e1
   subst e1
   exact⟨rfl,(lok_cons.1 e2).1.2⟩
 rw[hD.1]at hd
 have tt:∀w',Steps w w'→Calls Tryz.prog 141 #[a,.int .u32 D] w' fun e w2=>∃q,e = .returned (.tuple #[q,.int .u32 (A%D)])∧Lim w2 q (limbs (A / D))∧Steps w' w2:=fun w' h=>by
  have:=wshort w' (ha.steps h) nA D0 hD.2
  rw[lval_limbs A0]at this
  exact this
 obtain⟨aa,ca,rfl⟩:=ha.shape
 obtain⟨ad,cd,rfl⟩:=hd.shape
 obtain⟨od,-,ld,fd⟩:=hd.cells
 simp only[List.length_cons,List.length_nil,Nat.zero_add]at ld fd cc⊢
 obtain⟨bd,odd,rfl,hbd,hcd⟩:=fd (by omega)
 have g0:=hcd 0 (by simp)
 simp only[Nat.add_zero,List.getD_cons_zero]at g0
 have m0:=Int.emod_nonneg A (show D≠0 by omega)
 have m1:=Int.emod_lt_of_pos A (show 0<D by omega)
 obtain⟨R,hR⟩:∃R,A%D=R:=⟨_,rfl⟩
 rw[hR]at tt m0 m1
 have HR:=Hid.mk_ hR
 have HD:=Hid.mk_ hD.2
 clear ha hd hc hcd fd od hR hD
 go_enter Tryz.func112,Tryz.ntmps112
 go_wp2_with (first
  | (go_at_call 140; refine cc.mono ?_; rintro e w1 ⟨rfl,hs1⟩; have tt1:=tt w1 hs1; have g1:=(hs1.cell (p:=⟨bd,odd,none⟩) hbd).trans g0)
  | (go_at_call 141; refine tt1.mono ?_; rintro e w2 ⟨q2,rfl,hq2,hs2⟩)
  | (go_at_call 142; refine(wtrim _ (Lim.one (x:=R) m0 (by have:=HD.out; omega)) (by unfold few; simp)).mono ?_; rintro e w3 ⟨v3,rfl,hv3,hs3⟩))
 go_returns
 have Z2:Steps w2 w3:=((Below.refl w2.heap.size w2).alloc (Nat.le_refl _) _).trans (hs3.mono (by rw[World.size_alloc]; omega))
 refine⟨_,_,rfl,hq2.steps Z2,?_,below_steps (below_steps hs1 (Nat.le_refl _) hs2) (Nat.le_refl _) Z2⟩
 rw[HR.out]
 have:=limbs_lval (lok_cons.2 ⟨⟨m0,by have:=HD.out; omega⟩,lok_nil⟩:lok [R])
 rw[← this]at hv3
 simpa[lval]using hv3
theorem wfrom (z:Int) (w:World) (z0 : -9223372036854775808≤z) (z1:z≤9223372036854775807) :
  Calls Tryz.prog 105 #[.int .i64 z] w fun e w'=>∃v,e = .returned v∧Num w' v z∧Steps w w':=by
 have hz:fits z:=fits_small (by unfold absN; omega)
 rcases Int.lt_or_le z 0 with h1 | h1
 focus
  have hd:decide (z<0)=true:=by simp[h1]
  have HZ:Hid (zv true (lval [(-z)%4294967296,(-z) / 4294967296])=z):=by show zv _ _=z; simp only[zv,lval,if_true,Bool.false_eq_true,if_false]; omega
  have HE:=Hid.mk_ (And.intro (errN_fits hz) (clipN_fits hz))
  clear hz
  obtain⟨m,hm⟩:∃m,-z=m:=⟨_,rfl⟩
  have hw:IntKind.u64.wrap (-IntKind.u64.wrap z)=m:=by simp only[IntKind.wrap_u64]; omega
  rw[hm]at HZ
  have m0:0≤m∧m≤9223372036854775808:=by omega
  clear hm
  have cm:Calls Tryz.prog 115 #[.bool true,.slice (some ⟨w.heap.size+1,0,none⟩) 2 2] ((w.alloc (.cells #[.bool false,.slice none 0 0] 30)).alloc (.cells #[.int .u32 (m%4294967296),.int .u32 (m / 4294967296)] 130)) (fun e w'=>∃v,e = .returned (.tuple #[v,.int .i64 0])∧Num w' v z∧Steps ((w.alloc (.cells #[.bool false,.slice none 0 0] 30)).alloc (.cells #[.int .u32 (m%4294967296),.int .u32 (m / 4294967296)] 130)) w'):=by
   have L:Lim ((w.alloc (.cells #[.bool false,.slice none 0 0] 30)).alloc (.cells #[.int .u32 (m%4294967296),.int .u32 (m / 4294967296)] 130)) (.slice (some ⟨w.heap.size+1,0,none⟩) 2 2) [m%4294967296,m / 4294967296]:=Lim.of_blk' (l:= [m%4294967296,m / 4294967296]) (Blk.new1 w _ _ _) (by simp only[lok_cons]; refine⟨⟨by omega,by omega⟩,⟨by omega,by omega⟩,lok_nil⟩)
   have C:=wmadeN true _ L (by unfold few; simp)
   rw[HZ.out,HE.out.1,HE.out.2]at C
   exact C
 rotate_left
 focus
  have hd:decide (z<0)=false:=by simp; omega
  have HZ:Hid (zv false (lval [z%4294967296,z / 4294967296])=z):=by show zv _ _=z; simp only[zv,lval,if_true,Bool.false_eq_true,if_false]; omega
  have HE:=Hid.mk_ (And.intro (errN_fits hz) (clipN_fits hz))
  clear hz
  have cm:Calls Tryz.prog 115 #[.bool false,.slice (some ⟨w.heap.size+1,0,none⟩) 2 2] ((w.alloc (.cells #[.bool false,.slice none 0 0] 30)).alloc (.cells #[.int .u32 (z%4294967296),.int .u32 (z / 4294967296)] 130)) (fun e w'=>∃v,e = .returned (.tuple #[v,.int .i64 0])∧Num w' v z∧Steps ((w.alloc (.cells #[.bool false,.slice none 0 0] 30)).alloc (.cells #[.int .u32 (z%4294967296),.int .u32 (z / 4294967296)] 130)) w'):=by
   have L:Lim ((w.alloc (.cells #[.bool false,.slice none 0 0] 30)).alloc (.cells #[.int .u32 (z%4294967296),.int .u32 (z / 4294967296)] 130)) (.slice (some ⟨w.heap.size+1,0,none⟩) 2 2) [z%4294967296,z / 4294967296]:=Lim.of_blk' (l:= [z%4294967296,z / 4294967296]) (Blk.new1 w _ _ _) (by simp only[lok_cons]; refine⟨⟨by omega,by omega⟩,⟨by omega,by omega⟩,lok_nil⟩)
   have C:=wmadeN false _ L (by unfold few; simp)
   rw[HZ.out,HE.out.1,HE.out.2]at C
   exact C
 rotate_left
 all_goals
  go_enter Tryz.func105,Tryz.ntmps105
  go_wp2_with fail
  refine(cm).mono ?_
  rintro e w1 ⟨v1,rfl,hv1,hb1⟩
  have st:Steps _ w1:=hb1
  have Bn:=bA w st
  have or:Blk w1 (w.heap.size) 30 #[.bool false,.slice none 0 0]:=Blk.stepsA st
  clear st
  have B:=Bn
  clear Bn
  obtain⟨cr0,cr1,fr,lr⟩:=or.s1
  obtain⟨bb,ao,n,c,rfl⟩:=hv1.shape
  have HV:=Hid.mk_ hv1
  clear hv1
  go_wp2
  refine bodyPost_ret (by simp[results,Tryz.results105,go_sem,cr0,cr1,fr,lr]; rfl) rfl ?_
  exact⟨_,rfl,(HV.out.put2 or).steps ((Below.refl _ _).alloc (Nat.le_refl _) _),belowB⟩
theorem zv_same {gx gy:Bool} {x y:Int} (h1:decide (x<0)=gx) (h2:y=0∨decide (y<0)=gy) (h:gx=gy):zv gx (absN x+absN y)=x+y:=by
 have X:=absN_cases x
 have Y:=absN_cases y
 subst h
 unfold zv
 cases gx
 · simp at h1 h2; simp only[Bool.false_eq_true,if_false]; omega
 · simp at h1 h2; simp only[if_true]; omega
theorem zv_diff1 {gx gy:Bool} {x y:Int} (h1:decide (x<0)=gx) (h2:y=0∨decide (y<0)=gy) (h:gx = !gy) (hle:absN y≤absN x):zv gx (absN x-absN y)=x+y:=by
 have X:=absN_cases x
 have Y:=absN_cases y
 unfold zv
 cases gy
 · subst h; simp at h1 h2; simp only[Bool.not_false,if_true]; omega
 · subst h; simp at h1 h2; simp only[Bool.not_true,Bool.false_eq_true,if_false]; omega
theorem zv_diff2 {gx gy:Bool} {x y:Int} (h1:decide (x<0)=gx) (h2:y=0∨decide (y<0)=gy) (h:gx = !gy) (hle:absN x<absN y):zv gy (absN y-absN x)=x+y:=by
 have X:=absN_cases x
 have Y:=absN_cases y
 unfold zv
 cases gy
 · subst h; simp at h1 h2; simp only[Bool.false_eq_true,if_false]; omega
 · subst h; simp at h1 h2; simp only[if_true]; omega
theorem wadd_any {va sb:Value} {x y:Int} {gy:Bool} (w:World) (ha:Num w va x) (hb:Lim w sb (limbs (absN y))) (hnb:y=0∨decide (y<0)=gy) (fx:fits x) (fy:fits y) :
  Calls Tryz.prog 117 #[va,.agg #[.bool gy,sb]] w fun e w'=>∃v,e = .returned (.tuple #[v,.int .i64 (errN (x+y))])∧Num w' v (clipN (x+y))∧Steps w w':=by
 obtain⟨aa,ca,rfl,pa⟩:=ha.parts
 obtain⟨ab,cb,rfl⟩:=hb.shape
 have pb:=hb
 unfold fits at fx fy
 have nx:(limbs (absN x)).length≤few:=by unfold few; omega
 have ny:(limbs (absN y)).length≤few:=by unfold few; omega
 have vx:=lval_limbs (absN_nonneg x)
 have vy:=lval_limbs (absN_nonneg y)
 obtain⟨n,hn⟩:∃n,(limbs (absN x)).length=n:=⟨_,rfl⟩
 obtain⟨m,hm⟩:∃m,(limbs (absN y)).length=m:=⟨_,rfl⟩
 have HNM:Hid ((limbs (absN x)).length=n∧(limbs (absN y)).length=m):=⟨hn,hm⟩
 have HL:Hid (lval (limbs (absN x))=absN x∧lval (limbs (absN y))=absN y):=⟨vx,vy⟩
 rw[hn]at pa⊢
 rw[hm]at pb⊢
 have X:=absN_cases x
 have Y:=absN_cases y
 obtain⟨gx,hna⟩:∃b,decide (x<0)=b:=⟨_,rfl⟩
 rw[hna]
 have HS:Hid (decide (x<0)=gx∧(y=0∨decide (y<0)=gy)):=⟨hna,hnb⟩
 have HX:=Hid.mk_ (And.intro X Y)
 have HF:=Hid.mk_ (And.intro fx fy)
 clear ha hb hn hm hna hnb X Y vx vy nx ny fx fy
 by_cases hs:gx=gy
 ·
  subst hs
  have hz:∀l,lval l=lval (limbs (absN x))+lval (limbs (absN y))→zv gx (lval l)=x+y:=fun l h=>by
   rw[h,HL.out.1,HL.out.2]
   exact zv_same HS.out.1 HS.out.2 rfl
  have Hz:=Hid.mk_ hz
  clear hz
  obtain⟨c,hc⟩:∃c,cmpI (absN x) (absN y)=c:=⟨_,rfl⟩
  have HC:=Hid.mk_ hc
  clear hc
  have cmpc:∀w',Lim w' (.slice aa n ca) (limbs (absN x))→Lim w' (.slice ab m cb) (limbs (absN y))→Calls Tryz.prog 140 #[.slice aa n ca,.slice ab m cb] w' fun e w2=>e = .returned (.int .i64 c)∧Steps w' w2:=fun w' h1 h2=>by
   have:=wcompare w' h1 h2 (absN_nonneg x) (absN_nonneg y) (by have:=HF.out; unfold few; omega) (by have:=HF.out; unfold few; omega)
   rw[HC.out]at this
   exact this
  go_enter Tryz.func117,Tryz.ntmps117
  go_wp2_with fail
  refine(cmpc _ (pa.steps belowB) (pb.steps belowB)).mono ?_
  rintro e w1 ⟨rfl,hb1⟩
  have st:Steps _ w1:=hb1
  have Bn:=bA w st
  have oa:Blk w1 (w.heap.size) 30 #[.bool gx,.slice aa n ca]:=Blk.stepsA st
  have ob:Blk w1 (w.heap.size+1) 30 #[.bool gx,.slice ab m cb]:=Blk.stepsA st
  have or:Blk w1 (w.heap.size+1+1) 30 #[.bool false,.slice none 0 0]:=Blk.stepsA st
  clear st
  have B:=Bn
  clear Bn
  obtain⟨ca0,ca1,fa,la⟩:=oa.s1
  obtain⟨cb0,cb1,fb,lb⟩:=ob.s1
  obtain⟨cr0,cr1,fr,lr⟩:=or.s1
  clear cmpc
  go_wp2_with fail
  go_region_held3 (fun w'=>w'.cell? ⟨w.heap.size,0,none⟩=some (.bool gx)∧w'.cell? ⟨w.heap.size,1,none⟩=some (.slice aa n ca)∧w'.cell? ⟨w.heap.size+1,0,none⟩=some (.bool gx)∧w'.cell? ⟨w.heap.size+1,1,none⟩=some (.slice ab m cb))
   ((refine⟨Blk.c (t:=30) (cs:=#[.bool gx,.slice aa n ca]) ?_ 0 rfl,Blk.c (t:=30) (cs:=#[.bool gx,.slice aa n ca]) ?_ 1 rfl,Blk.c (t:=30) (cs:=#[.bool gx,.slice ab m cb]) ?_ 0 rfl,Blk.c (t:=30) (cs:=#[.bool gx,.slice ab m cb]) ?_ 1 rfl⟩<;>(repeat' first | with_reducible assumption | (with_reducible refine Blk.new' ?_; first | with_reducible rfl | (simp only[World.size_alloc,World.size_setCell,World.size_drew]; done)) | with_reducible refine Blk.alloc ?_ _ | with_reducible refine Blk.drew ?_ | with_reducible refine Blk.drewN ?_ _ | with_reducible apply Blk.both | with_reducible refine Blk.far' ?_ ?_ | (show _≠_; omega))))
   (first
    | ((go_at_call 113; refine(wplus _ (pa.steps belowB) (pb.steps belowB) (by have:=HF.out; unfold few; omega) (by have:=HF.out; unfold few; omega)).mono ?_; rintro e wv ⟨v1,l1,rfl,hv1,vl1,ll1,hbv⟩; have HV1:=Hid.mk_ vl1; clear vl1; go_must (have st:Steps _ wv:=hbv; have Bn:=bA w st; have na:Blk wv (w.heap.size) 30 #[.bool gx,.slice aa n ca]:=Blk.stepsA st; have nb:Blk wv (w.heap.size+1) 30 #[.bool gx,.slice ab m cb]:=Blk.stepsA st; have nr:Blk wv (w.heap.size+1+1) 30 #[.bool false,.slice none 0 0]:=Blk.stepsA st; clear B oa ob or ca0 ca1 fa la cb0 cb1 fb lb cr0 cr1 fr lr; clear st; have B:=Bn; clear Bn; have oa:=na; clear na; have ca0:World.cell? wv ⟨w.heap.size,0,none⟩=some (.bool gx):=oa.c 0 rfl; have ca1:World.cell? wv ⟨w.heap.size,1,none⟩=some (.slice aa n ca):=oa.c 1 rfl; have fa:=oa.fr; have la:=oa.lt; have ob:=nb; clear nb; have cb0:World.cell? wv ⟨w.heap.size+1,0,none⟩=some (.bool gx):=ob.c 0 rfl; have cb1:World.cell? wv ⟨w.heap.size+1,1,none⟩=some (.slice ab m cb):=ob.c 1 rfl; have fb:=ob.fr; have lb:=ob.lt; have or:=nr; clear nr; have cr0:World.cell? wv ⟨w.heap.size+1+1,0,none⟩=some (.bool false):=or.c 0 rfl; have cr1:World.cell? wv ⟨w.heap.size+1+1,1,none⟩=some (.slice none 0 0):=or.c 1 rfl; have fr:=or.fr; have lr:=or.lt)))
    | ((go_at_call 115; refine(wmadeN gx _ hv1 (by have:=HF.out; unfold few; omega)).mono ?_; rintro e wv ⟨v2,rfl,hv2,hbv⟩; go_must (have st:Steps _ wv:=hbv; have Bn:=bA w st; have na:Blk wv (w.heap.size) 30 #[.bool gx,.slice aa n ca]:=Blk.stepsA st; have nb:Blk wv (w.heap.size+1) 30 #[.bool gx,.slice ab m cb]:=Blk.stepsA st; have nr:Blk wv (w.heap.size+1+1) 30 #[.bool false,.slice none 0 0]:=Blk.stepsA st; clear B oa ob or ca0 ca1 fa la cb0 cb1 fb lb cr0 cr1 fr lr; clear st; have B:=Bn; clear Bn; have oa:=na; clear na; have ca0:World.cell? wv ⟨w.heap.size,0,none⟩=some (.bool gx):=oa.c 0 rfl; have ca1:World.cell? wv ⟨w.heap.size,1,none⟩=some (.slice aa n ca):=oa.c 1 rfl; have fa:=oa.fr; have la:=oa.lt; have ob:=nb; clear nb; have cb0:World.cell? wv ⟨w.heap.size+1,0,none⟩=some (.bool gx):=ob.c 0 rfl; have cb1:World.cell? wv ⟨w.heap.size+1,1,none⟩=some (.slice ab m cb):=ob.c 1 rfl; have fb:=ob.fr; have lb:=ob.lt; have or:=nr; clear nr; have cr0:World.cell? wv ⟨w.heap.size+1+1,0,none⟩=some (.bool false):=or.c 0 rfl; have cr1:World.cell? wv ⟨w.heap.size+1+1,1,none⟩=some (.slice none 0 0):=or.c 1 rfl; have fr:=or.fr; have lr:=or.lt; obtain⟨bb,ao2,n2,c2,rfl⟩:=hv2.shape))))
  have HV2:=Hid.mk_ hv2
  clear hv2
  go_wp2
  refine bodyPost_ret (by simp[results,Tryz.results117,go_sem,ca0,ca1,fa,la,cb0,cb1,fb,lb,cr0,cr1,fr,lr]; rfl) rfl ?_
  have e:=Hz.out l1 HV1.out
  exact⟨_,retW rfl (by rw[e]),by rw[← e]; exact HV2.out.put2 or,belowB⟩
 ·
  have hsg:gx = !gy:=by cases gx<;>cases gy<;>simp_all
  obtain⟨c,hc⟩:∃c,cmpI (absN x) (absN y)=c:=⟨_,rfl⟩
  have cc:=cmpI_cases (absN x) (absN y)
  rw[hc]at cc
  have CC:=Hid.mk_ cc
  have h0:=absN_nonneg x
  have h0':=absN_nonneg y
  rcases Int.lt_or_le c 0 with hcz | hcz
  focus
   have hle:absN x≤absN y:=by omega
   have hz:∀l,lval l=absN y-absN x→zv gy (lval l)=x+y:=fun l hl=>by
    rw[hl]
    exact zv_diff2 HS.out.1 HS.out.2 hsg (by omega)
   have hle2:(limbs (absN x)).length≤(limbs (absN y)).length:=by
    rcases Nat.lt_or_ge (limbs (absN y)).length (limbs (absN x)).length with g | g
    · have:=limbs_len_lt (absN_nonneg y) (absN_nonneg x) g; omega
    · exact g
   have Hz:=Hid.mk_ hz
   have HC:=Hid.mk_ hc
   have mi:∀w',Lim w' (.slice aa n ca) (limbs (absN x))→Lim w' (.slice ab m cb) (limbs (absN y))→Calls Tryz.prog 114 #[.slice ab m cb,.slice aa n ca] w' fun e w2=>∃v l,e = .returned v∧Lim w2 v l∧Hid (lval l=absN y-absN x)∧l.length≤few∧Steps w' w2:=fun w' h1 h2=>by
    refine(wminus w' h2 h1 (by have:=HF.out; unfold few; omega) hle2 (by rw[HL.out.1,HL.out.2]; exact hle)).mono ?_
    rintro e w2 ⟨v,l,e1,e2,e3,e4,e5⟩
    rw[HL.out.1,HL.out.2]at e3
    exact⟨v,l,e1,e2,e3,by have:=HF.out; unfold few; omega,e5⟩
   have cmpc:∀w',Lim w' (.slice aa n ca) (limbs (absN x))→Lim w' (.slice ab m cb) (limbs (absN y))→Calls Tryz.prog 140 #[.slice aa n ca,.slice ab m cb] w' fun e w2=>e = .returned (.int .i64 c)∧Steps w' w2:=fun w' h1 h2=>by
    have:=wcompare w' h1 h2 (absN_nonneg x) (absN_nonneg y) (by have:=HF.out; unfold few; omega) (by have:=HF.out; unfold few; omega)
    rw[HC.out]at this
    exact this
   have hgg:(gx==gy)=false:=by simp[hs]
   clear hz hc cc hle hle2 h0 h0' hsg hs
   go_enter Tryz.func117,Tryz.ntmps117
   go_wp2_with fail
   refine(cmpc _ (pa.steps belowB) (pb.steps belowB)).mono ?_
   rintro e w1 ⟨rfl,hb1⟩
   have st:Steps _ w1:=hb1
   have Bn:=bA w st
   have oa:Blk w1 (w.heap.size) 30 #[.bool gx,.slice aa n ca]:=Blk.stepsA st
   have ob:Blk w1 (w.heap.size+1) 30 #[.bool gy,.slice ab m cb]:=Blk.stepsA st
   have or:Blk w1 (w.heap.size+1+1) 30 #[.bool false,.slice none 0 0]:=Blk.stepsA st
   clear st
   have B:=Bn
   clear Bn
   obtain⟨ca0,ca1,fa,la⟩:=oa.s1
   obtain⟨cb0,cb1,fb,lb⟩:=ob.s1
   obtain⟨cr0,cr1,fr,lr⟩:=or.s1
   clear cmpc
   go_wp2_with fail
   go_region_held3 (fun w'=>w'.cell? ⟨w.heap.size,0,none⟩=some (.bool gx)∧w'.cell? ⟨w.heap.size,1,none⟩=some (.slice aa n ca)∧w'.cell? ⟨w.heap.size+1,0,none⟩=some (.bool gy)∧w'.cell? ⟨w.heap.size+1,1,none⟩=some (.slice ab m cb))
    ((refine⟨Blk.c (t:=30) (cs:=#[.bool gx,.slice aa n ca]) ?_ 0 rfl,Blk.c (t:=30) (cs:=#[.bool gx,.slice aa n ca]) ?_ 1 rfl,Blk.c (t:=30) (cs:=#[.bool gy,.slice ab m cb]) ?_ 0 rfl,Blk.c (t:=30) (cs:=#[.bool gy,.slice ab m cb]) ?_ 1 rfl⟩<;>(repeat' first | with_reducible assumption | (with_reducible refine Blk.new' ?_; first | with_reducible rfl | (simp only[World.size_alloc,World.size_setCell,World.size_drew]; done)) | with_reducible refine Blk.alloc ?_ _ | with_reducible refine Blk.drew ?_ | with_reducible refine Blk.drewN ?_ _ | with_reducible apply Blk.both | with_reducible refine Blk.far' ?_ ?_ | (show _≠_; omega))))
    (first
     | ((go_at_call 114; refine(mi _ (pa.steps belowB) (pb.steps belowB)).mono ?_; rintro e wv ⟨v1,l1,rfl,hv1,vl1,hlm,hbv⟩; go_must (have st:Steps _ wv:=hbv; have Bn:=bA w st; have na:Blk wv (w.heap.size) 30 #[.bool gx,.slice aa n ca]:=Blk.stepsA st; have nb:Blk wv (w.heap.size+1) 30 #[.bool gy,.slice ab m cb]:=Blk.stepsA st; have nr:Blk wv (w.heap.size+1+1) 30 #[.bool false,.slice none 0 0]:=Blk.stepsA st; clear B oa ob or ca0 ca1 fa la cb0 cb1 fb lb cr0 cr1 fr lr; clear st; have B:=Bn; clear Bn; have oa:=na; clear na; have ca0:World.cell? wv ⟨w.heap.size,0,none⟩=some (.bool gx):=oa.c 0 rfl; have ca1:World.cell? wv ⟨w.heap.size,1,none⟩=some (.slice aa n ca):=oa.c 1 rfl; have fa:=oa.fr; have la:=oa.lt; have ob:=nb; clear nb; have cb0:World.cell? wv ⟨w.heap.size+1,0,none⟩=some (.bool gy):=ob.c 0 rfl; have cb1:World.cell? wv ⟨w.heap.size+1,1,none⟩=some (.slice ab m cb):=ob.c 1 rfl; have fb:=ob.fr; have lb:=ob.lt; have or:=nr; clear nr; have cr0:World.cell? wv ⟨w.heap.size+1+1,0,none⟩=some (.bool false):=or.c 0 rfl; have cr1:World.cell? wv ⟨w.heap.size+1+1,1,none⟩=some (.slice none 0 0):=or.c 1 rfl; have fr:=or.fr; have lr:=or.lt)))
     | ((go_at_call 115; refine(wmadeN gy _ hv1 hlm).mono ?_; rintro e wv ⟨v2,rfl,hv2,hbv⟩; go_must (have st:Steps _ wv:=hbv; have Bn:=bA w st; have na:Blk wv (w.heap.size) 30 #[.bool gx,.slice aa n ca]:=Blk.stepsA st; have nb:Blk wv (w.heap.size+1) 30 #[.bool gy,.slice ab m cb]:=Blk.stepsA st; have nr:Blk wv (w.heap.size+1+1) 30 #[.bool false,.slice none 0 0]:=Blk.stepsA st; clear B oa ob or ca0 ca1 fa la cb0 cb1 fb lb cr0 cr1 fr lr; clear st; have B:=Bn; clear Bn; have oa:=na; clear na; have ca0:World.cell? wv ⟨w.heap.size,0,none⟩=some (.bool gx):=oa.c 0 rfl; have ca1:World.cell? wv ⟨w.heap.size,1,none⟩=some (.slice aa n ca):=oa.c 1 rfl; have fa:=oa.fr; have la:=oa.lt; have ob:=nb; clear nb; have cb0:World.cell? wv ⟨w.heap.size+1,0,none⟩=some (.bool gy):=ob.c 0 rfl; have cb1:World.cell? wv ⟨w.heap.size+1,1,none⟩=some (.slice ab m cb):=ob.c 1 rfl; have fb:=ob.fr; have lb:=ob.lt; have or:=nr; clear nr; have cr0:World.cell? wv ⟨w.heap.size+1+1,0,none⟩=some (.bool false):=or.c 0 rfl; have cr1:World.cell? wv ⟨w.heap.size+1+1,1,none⟩=some (.slice none 0 0):=or.c 1 rfl; have fr:=or.fr; have lr:=or.lt; obtain⟨bb,ao2,n2,c2,rfl⟩:=hv2.shape))))
  rotate_left
  focus
   have hle:absN y≤absN x:=by omega
   have hz:∀l,lval l=absN x-absN y→zv gx (lval l)=x+y:=fun l hl=>by
    rw[hl]
    exact zv_diff1 HS.out.1 HS.out.2 hsg (by omega)
   have hle2:(limbs (absN y)).length≤(limbs (absN x)).length:=by
    rcases Nat.lt_or_ge (limbs (absN x)).length (limbs (absN y)).length with g | g
    · have:=limbs_len_lt (absN_nonneg x) (absN_nonneg y) g; omega
    · exact g
   have Hz:=Hid.mk_ hz
   have HC:=Hid.mk_ hc
   have mi:∀w',Lim w' (.slice aa n ca) (limbs (absN x))→Lim w' (.slice ab m cb) (limbs (absN y))→Calls Tryz.prog 114 #[.slice aa n ca,.slice ab m cb] w' fun e w2=>∃v l,e = .returned v∧Lim w2 v l∧Hid (lval l=absN x-absN y)∧l.length≤few∧Steps w' w2:=fun w' h1 h2=>by
    refine(wminus w' h1 h2 (by have:=HF.out; unfold few; omega) hle2 (by rw[HL.out.1,HL.out.2]; exact hle)).mono ?_
    rintro e w2 ⟨v,l,e1,e2,e3,e4,e5⟩
    rw[HL.out.1,HL.out.2]at e3
    exact⟨v,l,e1,e2,e3,by have:=HF.out; unfold few; omega,e5⟩
   have cmpc:∀w',Lim w' (.slice aa n ca) (limbs (absN x))→Lim w' (.slice ab m cb) (limbs (absN y))→Calls Tryz.prog 140 #[.slice aa n ca,.slice ab m cb] w' fun e w2=>e = .returned (.int .i64 c)∧Steps w' w2:=fun w' h1 h2=>by
    have:=wcompare w' h1 h2 (absN_nonneg x) (absN_nonneg y) (by have:=HF.out; unfold few; omega) (by have:=HF.out; unfold few; omega)
    rw[HC.out]at this
    exact this
   have hgg:(gx==gy)=false:=by simp[hs]
   clear hz hc cc hle hle2 h0 h0' hsg hs
   go_enter Tryz.func117,Tryz.ntmps117
   go_wp2_with fail
   refine(cmpc _ (pa.steps belowB) (pb.steps belowB)).mono ?_
   rintro e w1 ⟨rfl,hb1⟩
   have st:Steps _ w1:=hb1
   have Bn:=bA w st
   have oa:Blk w1 (w.heap.size) 30 #[.bool gx,.slice aa n ca]:=Blk.stepsA st
   have ob:Blk w1 (w.heap.size+1) 30 #[.bool gy,.slice ab m cb]:=Blk.stepsA st
   have or:Blk w1 (w.heap.size+1+1) 30 #[.bool false,.slice none 0 0]:=Blk.stepsA st
   clear st
   have B:=Bn
   clear Bn
   obtain⟨ca0,ca1,fa,la⟩:=oa.s1
   obtain⟨cb0,cb1,fb,lb⟩:=ob.s1
   obtain⟨cr0,cr1,fr,lr⟩:=or.s1
   clear cmpc
   go_wp2_with fail
   go_region_held3 (fun w'=>w'.cell? ⟨w.heap.size,0,none⟩=some (.bool gx)∧w'.cell? ⟨w.heap.size,1,none⟩=some (.slice aa n ca)∧w'.cell? ⟨w.heap.size+1,0,none⟩=some (.bool gy)∧w'.cell? ⟨w.heap.size+1,1,none⟩=some (.slice ab m cb))
    ((refine⟨Blk.c (t:=30) (cs:=#[.bool gx,.slice aa n ca]) ?_ 0 rfl,Blk.c (t:=30) (cs:=#[.bool gx,.slice aa n ca]) ?_ 1 rfl,Blk.c (t:=30) (cs:=#[.bool gy,.slice ab m cb]) ?_ 0 rfl,Blk.c (t:=30) (cs:=#[.bool gy,.slice ab m cb]) ?_ 1 rfl⟩<;>(repeat' first | with_reducible assumption | (with_reducible refine Blk.new' ?_; first | with_reducible rfl | (simp only[World.size_alloc,World.size_setCell,World.size_drew]; done)) | with_reducible refine Blk.alloc ?_ _ | with_reducible refine Blk.drew ?_ | with_reducible refine Blk.drewN ?_ _ | with_reducible apply Blk.both | with_reducible refine Blk.far' ?_ ?_ | (show _≠_; omega))))
    (first
     | ((go_at_call 114; refine(mi _ (pa.steps belowB) (pb.steps belowB)).mono ?_; rintro e wv ⟨v1,l1,rfl,hv1,vl1,hlm,hbv⟩; go_must (have st:Steps _ wv:=hbv; have Bn:=bA w st; have na:Blk wv (w.heap.size) 30 #[.bool gx,.slice aa n ca]:=Blk.stepsA st; have nb:Blk wv (w.heap.size+1) 30 #[.bool gy,.slice ab m cb]:=Blk.stepsA st; have nr:Blk wv (w.heap.size+1+1) 30 #[.bool false,.slice none 0 0]:=Blk.stepsA st; clear B oa ob or ca0 ca1 fa la cb0 cb1 fb lb cr0 cr1 fr lr; clear st; have B:=Bn; clear Bn; have oa:=na; clear na; have ca0:World.cell? wv ⟨w.heap.size,0,none⟩=some (.bool gx):=oa.c 0 rfl; have ca1:World.cell? wv ⟨w.heap.size,1,none⟩=some (.slice aa n ca):=oa.c 1 rfl; have fa:=oa.fr; have la:=oa.lt; have ob:=nb; clear nb; have cb0:World.cell? wv ⟨w.heap.size+1,0,none⟩=some (.bool gy):=ob.c 0 rfl; have cb1:World.cell? wv ⟨w.heap.size+1,1,none⟩=some (.slice ab m cb):=ob.c 1 rfl; have fb:=ob.fr; have lb:=ob.lt; have or:=nr; clear nr; have cr0:World.cell? wv ⟨w.heap.size+1+1,0,none⟩=some (.bool false):=or.c 0 rfl; have cr1:World.cell? wv ⟨w.heap.size+1+1,1,none⟩=some (.slice none 0 0):=or.c 1 rfl; have fr:=or.fr; have lr:=or.lt)))
     | ((go_at_call 115; refine(wmadeN gx _ hv1 hlm).mono ?_; rintro e wv ⟨v2,rfl,hv2,hbv⟩; go_must (have st:Steps _ wv:=hbv; have Bn:=bA w st; have na:Blk wv (w.heap.size) 30 #[.bool gx,.slice aa n ca]:=Blk.stepsA st; have nb:Blk wv (w.heap.size+1) 30 #[.bool gy,.slice ab m cb]:=Blk.stepsA st; have nr:Blk wv (w.heap.size+1+1) 30 #[.bool false,.slice none 0 0]:=Blk.stepsA st; clear B oa ob or ca0 ca1 fa la cb0 cb1 fb lb cr0 cr1 fr lr; clear st; have B:=Bn; clear Bn; have oa:=na; clear na; have ca0:World.cell? wv ⟨w.heap.size,0,none⟩=some (.bool gx):=oa.c 0 rfl; have ca1:World.cell? wv ⟨w.heap.size,1,none⟩=some (.slice aa n ca):=oa.c 1 rfl; have fa:=oa.fr; have la:=oa.lt; have ob:=nb; clear nb; have cb0:World.cell? wv ⟨w.heap.size+1,0,none⟩=some (.bool gy):=ob.c 0 rfl; have cb1:World.cell? wv ⟨w.heap.size+1,1,none⟩=some (.slice ab m cb):=ob.c 1 rfl; have fb:=ob.fr; have lb:=ob.lt; have or:=nr; clear nr; have cr0:World.cell? wv ⟨w.heap.size+1+1,0,none⟩=some (.bool false):=or.c 0 rfl; have cr1:World.cell? wv ⟨w.heap.size+1+1,1,none⟩=some (.slice none 0 0):=or.c 1 rfl; have fr:=or.fr; have lr:=or.lt; obtain⟨bb,ao2,n2,c2,rfl⟩:=hv2.shape))))
  rotate_left
  all_goals
   have HV2:=Hid.mk_ hv2
   clear hv2
   go_wp2
   refine bodyPost_ret (by simp[results,Tryz.results117,go_sem,ca0,ca1,fa,la,cb0,cb1,fb,lb,cr0,cr1,fr,lr]; rfl) rfl ?_
   have ez:=Hz.out l1 vl1.out
   exact⟨_,retW rfl (by rw[ez]),by have:=HV2.out; rw[ez]at this; exact this.put2 or,belowB⟩
theorem wadd {va vb:Value} {x y:Int} (w:World) (ha:Num w va x) (hb:Num w vb y) (fx:fits x) (fy:fits y) :
  Calls Tryz.prog 117 #[va,vb] w fun e w'=>∃v,e = .returned (.tuple #[v,.int .i64 (errN (x+y))])∧Num w' v (clipN (x+y))∧Steps w w':=by
 obtain⟨sb,rfl,pb⟩:=hb
 exact wadd_any w ha pb (.inr rfl) fx fy
end Go.Proofs.YtdkcffnmlllamaaGreat
