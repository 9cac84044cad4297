import Derived.Test.YtdkcffnmlllamaaGreatMWf
import Derived.Test.YtdkcffnmlllamaaGreatMLimbs
import Derived.Deep.CutBlock
import Derived.Deep.DeepCutAuto
set_option linter.unusedVariables false
set_option linter.unusedSimpArgs false
set_option maxHeartbeats 6400000
set_option maxRecDepth 1000000
namespace Go.Proofs.YtdkcffnmlllamaaGreat
open Go.RowKit
def seg (pre:List Value) (U:List Int) (post:List Value):Array Value:=(pre++(u32s U++post)).toArray
theorem seg_get {pre post:List Value} {U:List Int} {j t:Nat} (hj:pre.length=j) (ht:t<U.length):(seg pre U post)[j+t]? = some (.int .u32 (U.getD t 0)):=by
 subst hj
 simp only[seg,List.getElem?_toArray]
 rw[List.getElem?_append_right (by omega),Nat.add_sub_cancel_left,List.getElem?_append_left (by rw[u32s_length]; exact ht)]
 exact u32s_getD U t ht
theorem seg_set {pre post:List Value} {xs U:List Int} {j k:Nat} (hj:pre.length=j) (hx:xs.length=k) (hk:k<U.length) (x:Int) :
  (seg pre (xs++U.drop k) post).setIfInBounds (j+k) (.int .u32 x)=seg pre ((xs ++ [x])++U.drop (k+1)) post:=by
 subst hj hx
 rw[List.drop_eq_getElem_cons hk]
 simp only[seg,u32s,List.map_append,List.map_cons,List.append_assoc,List.setIfInBounds_toArray,List.cons_append,List.map_nil,List.nil_append]
 congr 1
 rw[List.set_append_right _ _ (by omega),Nat.add_sub_cancel_left,List.set_append_right _ _ (by simp),List.length_map,Nat.sub_self,List.set_cons_zero]
theorem grown_set {w wr:World} {g:Nat} (h:w.grownBy wr (some g)) (i:Nat) (u:Value):w.grownBy (wr.setCell ⟨g,i,none⟩ u) (some g):=
 ⟨h.os,h.tape,h.output,by simpa[World.setCell]using h.size,fun k hk hne=>by
  rw[Below.heap_setCell _ _ _ _ (fun e=>hne (by rw[e]))]
  exact h.block k hk hne⟩
theorem drew2 (w:World) (a b:Nat):∃n,(w.drewN a).drewN b=w.drewN n:=⟨a+b,by rw[World.drewN_drewN]⟩
theorem grown_drewN {w wr:World} {r:Option Nat} (h:w.grownBy wr r) (n:Nat):w.grownBy (wr.drewN n) r:=⟨h.os,h.tape,h.output,h.size,h.block⟩
theorem Cells.grown {w wr:World} {b o g:Nat} {l:List Int} (h:Cells w b o l) (hg:w.grownBy wr (some g)) (hb:b<w.heap.size) (hne:b≠g):Cells wr b o l:=
 fun t ht=>(World.cell?_of_block (a:=⟨b,o+t,none⟩) (hg.block b hb (fun e=>hne (by injection e)))).trans (h t ht)
theorem rdigit {g j b o m capu capv:Nat} {pre post:List Value} {U V:List Int} (w:World) (hB:Blk w g 130 (seg pre U post)) (hj:pre.length=j) (hU:U.length=m+3) (okU:lok U)
  (hV:Cells w b o V) (lV:V.length=m+2) (okV:lok V) (hb:b<w.heap.size) (hne:b≠g) (hn:m≤few) (htop:2147483648≤V.getD (m+1) 0) (hlt:lval U<lval V*4294967296) :
  Calls Tryz.prog 151 #[.slice (some ⟨g,j,none⟩) (m+3) capu,.slice (some ⟨b,o,none⟩) (m+2) capv] w fun e w'=>
   ∃U',e = .returned (.int .u32 (lval U / lval V))∧U'.length=m+3∧lok U'∧lval U'=lval U%lval V∧Blk w' g 130 (seg pre U' post)∧w.grownBy w' (some g):=by
 unfold few at hn
 have hg:g<w.heap.size:=hB.lt
 obtain⟨un,hun⟩:∃x,U.getD (m+2) 0=x:=⟨_,rfl⟩
 obtain⟨un1,hun1⟩:∃x,U.getD (m+1) 0=x:=⟨_,rfl⟩
 obtain⟨un2,hun2⟩:∃x,U.getD m 0=x:=⟨_,rfl⟩
 obtain⟨v1,hv1⟩:∃x,V.getD (m+1) 0=x:=⟨_,rfl⟩
 obtain⟨v2,hv2⟩:∃x,V.getD m 0=x:=⟨_,rfl⟩
 have bu:=lok_getD okU (m+2)
 have bu1:=lok_getD okU (m+1)
 have bu2:=lok_getD okU m
 have bv1:=lok_getD okV (m+1)
 have bv2:=lok_getD okV m
 have cu:w.cell? ⟨g,j+(m+2),none⟩=some (.int .u32 un):=by rw[← hun]; exact hB.c _ (seg_get hj (by omega))
 have cu1:w.cell? ⟨g,j+(m+1),none⟩=some (.int .u32 un1):=by rw[← hun1]; exact hB.c _ (seg_get hj (by omega))
 have cu2:w.cell? ⟨g,j+m,none⟩=some (.int .u32 un2):=by rw[← hun2]; exact hB.c _ (seg_get hj (by omega))
 have cv1:w.cell? ⟨b,o+(m+1),none⟩=some (.int .u32 v1):=by rw[← hv1]; exact hV _ (by omega)
 have cv2:w.cell? ⟨b,o+m,none⟩=some (.int .u32 v2):=by rw[← hv2]; exact hV _ (by omega)
 have DM:=digit_math okU okV hU lV (by omega) hlt
 rw[hun,hun1,hun2,hv1,hv2]at DM
 obtain⟨Q,hQ⟩:∃Q,lval U / lval V=Q:=⟨_,rfl⟩
 have hR:lval U%lval V=lval U-Q*lval V:=by
  have:=Int.mul_ediv_add_emod (lval U) (lval V)
  rw[hQ,Int.mul_comm]at this
  omega
 rw[hQ]at DM
 rw[hQ,hR]
 obtain⟨Q0,Q1,Q2,Q3,Q4,Q5,Q6⟩:=DM
 have HQ:Hid (Q*v1≤un*4294967296+un1∧Q*(v1*4294967296+v2)≤(un*4294967296+un1)*4294967296+un2∧Q*lval V≤lval U∧lval U-Q*lval V<lval V∧0<lval V):=⟨Q2,Q3,Q4,Q5,Q6⟩
 clear Q2 Q3 Q4 Q5 Q6 hR hQ
 rw[hun]at bu
 rw[hun1]at bu1
 rw[hun2]at bu2
 rw[hv1]at bv1 htop
 rw[hv2]at bv2
 have H:Hid (U.getD (m+2) 0=un∧U.getD (m+1) 0=un1∧U.getD m 0=un2∧V.getD (m+1) 0=v1∧V.getD m 0=v2∧U.length=m+3∧V.length=m+2∧pre.length=j∧lval U<lval V*4294967296):=⟨hun,hun1,hun2,hv1,hv2,hU,lV,hj,hlt⟩
 have HB:=Hid.mk_ hB
 have HV:=Hid.mk_ hV
 clear hun hun1 hun2 hv1 hv2 hU lV hj hlt hB hV
 go_enter Tryz.func151,Tryz.ntmps151
 go_wp2_with fail
 go_quiet (fail)
 go_wp2_with fail
 go_quiet (fail)
 go_upto_block 0 with fail
 have T0:Hid ((un*4294967296+un1) / v1*v1+(un*4294967296+un1)%v1=un*4294967296+un1):=by
  have:=Int.mul_ediv_add_emod (un*4294967296+un1) v1
  rw[Int.mul_comm]at this
  exact this
 have T1:0≤(un*4294967296+un1) / v1:=Int.ediv_nonneg (by omega) (by omega)
 have T2:(un*4294967296+un1) / v1<8589934592:=Int.ediv_lt_of_lt_mul (by omega) (by omega)
 have T3:=Int.emod_nonneg (un*4294967296+un1) (show v1≠0 by omega)
 have T4:=Int.emod_lt_of_pos (un*4294967296+un1) (show 0<v1 by omega)
 obtain⟨q0,hq0⟩:∃q,(un*4294967296+un1) / v1=q:=⟨_,rfl⟩
 obtain⟨r0,hr0⟩:∃r,(un*4294967296+un1)%v1=r:=⟨_,rfl⟩
 rw[hq0]at T0 T1 T2
 rw[hr0]at T0 T3 T4
 simp only[hq0,hr0]
 clear hq0 hr0
 go_cut [7,8] (fun q r wx=>∃qv:Int,q = .int .u64 qv∧Q≤qv∧0≤qv∧qv<4294967296∧∃n,wx=w.drewN n)
 case first=>
  go_wp2_with fail
  go_loopw [7,8] (fun q r wr=>∃qv rv:Int,q = .int .u64 qv∧r = .int .u64 rv∧Q≤qv∧0≤qv∧qv<8589934592∧0≤rv∧Hid (qv*v1+rv=un*4294967296+un1)∧∃n,wr=w.drewN n) (fun q _ _=>(intOf q).toNat)
  case atStart=>exact⟨q0,r0,rfl,rfl,guess_le T0.out T4 HQ.out.1 (by omega),T1,T2,T3,T0,(by first | exact⟨_,rfl⟩ | exact drew2 _ _ _)⟩
  case round=>
   obtain⟨qv,rv,rfl,rfl,a1,a2,a3,a4,a5,nn,rfl⟩:=hrel
   clear T0 T1 T2 T3 T4
   have body:Q<qv→Hid ((qv-1)*v1+(rv+v1)=un*4294967296+un1)∧rv+v1≤un*4294967296+un1:=fun h=>by
    have e:=a5.out
    have e1:(qv-1)*v1+(rv+v1)=un*4294967296+un1:=by rw[Int.sub_mul]; omega
    have e2:=Int.mul_nonneg (show 0≤qv-1 by omega) (show 0≤v1 by omega)
    exact⟨e1,by omega⟩
   obtain⟨p,hp⟩:∃p,qv*v2=p:=⟨_,rfl⟩
   have down:rv*4294967296+un2<p→Q<qv:=fun h=>guess_down a5.out HQ.out.2.1 (by omega) (by rw[hp]; exact h)
   have p0:0≤p:=by rw[← hp]; exact Int.mul_nonneg a2 bv2.1
   have p1:qv<4294967296→p≤18446744065119617025:=fun h=>by
    rw[← hp]
    have:=Int.mul_le_mul (show qv≤4294967295 by omega) (show v2≤4294967295 by omega) bv2.1 (by omega)
    omega
   rcases Int.lt_or_le qv 4294967296 with h1 | h1
   ·
    have p2:=p1 h1
    have hw:IntKind.u64.wrap (qv*v2)=p:=by rw[hp,wrap_u64 (by omega) (by omega)]
    rcases Int.lt_or_le rv 4294967296 with h2 | h2
    ·
     rcases Int.lt_or_le (rv*4294967296+un2) p with h3 | h3
     ·
      obtain⟨b1,b2⟩:=body (down h3)
      have b3:=down h3
      clear body down p1 hp
      have c1:decide (4294967296≤qv)=false:=decide_eq_false (by omega)
      go_wp2_with fail
      go_quiet (fail)
      go_wp2_with fail
      all_goals first
       | (exfalso; omega)
       | (
         go_roundw
         case rel=>exact⟨qv-1,rv+v1,rfl,rfl,by omega,by omega,by omega,by omega,b1,(by first | exact⟨_,rfl⟩ | exact drew2 _ _ _)⟩
         case measure=>simp[intOf]; omega)
       | exact⟨⟨by omega,by omega,by omega,by omega,_,rfl⟩,by simp[intOf]; omega⟩
       | (
         go_meet
         exact⟨qv-1,rfl,by omega,by omega,by omega,(by first | exact⟨_,rfl⟩ | exact drew2 _ _ _)⟩)
     ·
      have c1:decide (4294967296≤qv)=false:=decide_eq_false (by omega)
      clear body down p1 hp
      go_wp2_with fail
      go_quiet (fail)
      go_wp2_with fail
      go_meet
      exact⟨qv,rfl,by omega,by omega,by omega,(by first | exact⟨_,rfl⟩ | exact drew2 _ _ _)⟩
    ·
     have c1:decide (4294967296≤qv)=false:=decide_eq_false (by omega)
     have c2:decide (rv<4294967296)=false:=decide_eq_false (by omega)
     clear body down p1 hp
     go_wp2_with fail
     go_quiet (fail)
     go_wp2_with fail
     go_meet
     exact⟨qv,rfl,by omega,by omega,by omega,(by first | exact⟨_,rfl⟩ | exact drew2 _ _ _)⟩
   ·
    obtain⟨b1,b2⟩:=body (by omega)
    clear body down p1 hp
    rcases Int.lt_or_le (rv+v1) 4294967296 with h3 | h3
    ·
     go_wp2_with fail
     go_quiet (fail)
     go_wp2
     first
      | exact⟨⟨by omega,by omega,by omega,by omega,_,rfl⟩,by simp[intOf]; omega⟩
      | (
        go_roundw
        case rel=>exact⟨qv-1,rv+v1,rfl,rfl,by omega,by omega,by omega,by omega,b1,(by first | exact⟨_,rfl⟩ | exact drew2 _ _ _)⟩
        case measure=>simp[intOf]; omega)
    ·
     rcases Int.lt_or_le (qv-1) 4294967296 with h4 | h4
     ·
      go_wp2_with fail
      go_quiet (fail)
      go_wp2
      go_meet
      exact⟨qv-1,rfl,by omega,by omega,by omega,(by first | exact⟨_,rfl⟩ | exact drew2 _ _ _)⟩
     ·
      go_wp2_with fail
      go_quiet (fail)
      go_wp2
      first
       | exact⟨⟨by omega,by omega,by omega,by omega,_,rfl⟩,by simp[intOf]; omega⟩
       | (
         go_roundw
         case rel=>exact⟨qv-1,rv+v1,rfl,rfl,by omega,by omega,by omega,by omega,b1,(by first | exact⟨_,rfl⟩ | exact drew2 _ _ _)⟩
         case measure=>simp[intOf]; omega)
 case rest=>
  obtain⟨qv,rfl,a1,a2,a3,nn,rfl⟩:=hcut
  have HJ:Hid (pre.length=j∧U.length=m+3∧V.length=m+2):=⟨H.out.2.2.2.2.2.2.2.1,H.out.2.2.2.2.2.1,H.out.2.2.2.2.2.2.1⟩
  have HH:=Hid.mk_ H.out.2.2.2.2.2.2.2.2
  have G0:w.grownBy (w.drewN nn) (some g):=grown_drewN (World.grownBy.refl w _) nn
  have B0:Blk (w.drewN nn) g 130 (seg pre ([]++U.drop 0) post):=HB.out.drewN nn
  clear T0 T1 T2 T3 T4 H bu bu1 bu2 bv1 bv2 cu cu1 cu2 cv1 cv2 htop
  go_wp2
  go_loopw [9,10,11,12] (fun bo c i t wr=>∃ (k:Nat) (xs:List Int) (bv cv:Int),k≤m+3∧i = .int .i64 k∧bo = .int .i64 bv∧c = .int .u64 cv∧0≤bv∧bv≤1∧0≤cv∧cv<4294967296∧(k=m+3→cv=0)∧xs.length=k∧lok xs∧
    lval xs=lval (U.take k)-qv*lval (V.take k)+bp k*(cv+bv)∧Blk wr g 130 (seg pre (xs++U.drop k) post)∧w.grownBy wr (some g)) (fun _ _ i _ _=>m+3-(intOf i).toNat)
  case atStart=>exact⟨0,[],0,0,Nat.zero_le _,rfl,rfl,rfl,by omega,by omega,by omega,by omega,by omega,rfl,lok_nil,by simp[lval],B0,G0⟩
  case round=>
   obtain⟨k,xs,bv,cv,hk,rfl,rfl,rfl,b0,b1,c0,c1,c2,hl,hok,hv,hblk,hgr⟩:=hrel
   have HR:Hid (xs.length=k∧lok xs∧lval xs=lval (U.take k)-qv*lval (V.take k)+bp k*(cv+bv)):=⟨hl,hok,hv⟩
   have HG:=Hid.mk_ hgr
   have HK:=Hid.mk_ hblk
   clear B0 G0
   rcases Nat.lt_or_ge k (m+3)with h1 | h1
   ·
    obtain⟨u,hu⟩:∃x,U.getD k 0=x:=⟨_,rfl⟩
    obtain⟨v,hv'⟩:∃x,V.getD k 0=x:=⟨_,rfl⟩
    have u0:=lok_getD okU k
    have v0:=lok_getD okV k
    rw[hu]at u0
    rw[hv']at v0
    have gU:(xs++U.drop k).getD k 0=u:=by
     rw[← hu]
     simp only[List.getD]
     rw[List.getElem?_append_right (by omega),hl,Nat.sub_self,List.getElem?_drop,Nat.add_zero]
    have g1:wr.cell? ⟨g,j+k,none⟩=some (.int .u32 u):=by
     rw[← gU]
     exact hblk.c _ (seg_get HJ.out.1 (by rw[List.length_append,List.length_drop,hl]; have:=HJ.out.2.1; omega))
    have g2:wr.frozen? ⟨g,j+k,none⟩=false:=hblk.fr _
    rcases Nat.lt_or_ge k (m+2)with h2 | h2
    ·
     have g3:=(HV.out.grown hgr hb hne) k (by have:=HJ.out.2.2; omega)
     rw[hv']at g3
     obtain⟨p,hp⟩:∃p,qv*v=p:=⟨_,rfl⟩
     have p0:0≤p:=by rw[← hp]; exact Int.mul_nonneg a2 v0.1
     have p1:p≤18446744065119617025:=by
      rw[← hp]
      have:=Int.mul_le_mul (show qv≤4294967295 by omega) (show v≤4294967295 by omega) v0.1 (by omega)
      omega
     have hw:IntKind.u64.wrap (qv*v)=p:=by rw[hp,wrap_u64 (by omega) (by omega)]
     obtain⟨lo,hlo⟩:∃l,(cv+p)%4294967296=l:=⟨_,rfl⟩
     have l0:0≤lo∧lo<4294967296:=by omega
     have hbits:bits BinOp.and IntKind.u64 (cv+p) 4294967295=lo:=by rw[and_low32 _ (by omega) (by omega),hlo]
     have HX:Hid (U.getD k 0=u∧V.getD k 0=v):=⟨hu,hv'⟩
     have HX2:=Hid.mk_ hp
     have HL:=Hid.mk_ hlo
     clear hu hv' gU hp hl hok hv hblk hgr hlo
     rcases Int.lt_or_le (u-lo-bv) 0 with ht | ht
     ·
      go_wp2
      go_roundw
      case rel=>
       have R:=HR.out
       have S:=sub_step (q:=qv) (V:=V) (s:=cv+p) (t:=u-lo-bv) (x:=u-lo-bv+4294967296) (b':=1) R.1 R.2.2 (by rw[HX.out.2,HX2.out]) (by rw[HX.out.1,HL.out]) (by omega)
       refine⟨k+1,xs ++ [u-lo-bv+4294967296],1,(cv+p) / 4294967296,by omega,by go_num,rfl,by go_num,by omega,by omega,by omega,by omega,by omega,by rw[List.length_append,R.1]; rfl,lok_snoc R.2.1 (by omega) (by omega),S,?_,grown_set HG.out _ _⟩
       refine HK.out.set2 ?_
       try rw[show (u-lo-bv+4294967296)%4294967296=u-lo-bv+4294967296 by omega]
       exact seg_set HJ.out.1 R.1 (by have:=HJ.out.2.1; omega) _
      case measure=>simp[intOf]; omega
     ·
      go_wp2
      go_roundw
      case rel=>
       have R:=HR.out
       have S:=sub_step (q:=qv) (V:=V) (s:=cv+p) (t:=u-lo-bv) (x:=u-lo-bv) (b':=0) R.1 R.2.2 (by rw[HX.out.2,HX2.out]) (by rw[HX.out.1,HL.out]) (by omega)
       refine⟨k+1,xs ++ [u-lo-bv],0,(cv+p) / 4294967296,by omega,by go_num,rfl,by go_num,by omega,by omega,by omega,by omega,by omega,by rw[List.length_append,R.1]; rfl,lok_snoc R.2.1 (by omega) (by omega),S,?_,grown_set HG.out _ _⟩
       refine HK.out.set2 ?_
       try rw[show (u-lo-bv)%4294967296=u-lo-bv by omega]
       exact seg_set HJ.out.1 R.1 (by have:=HJ.out.2.1; omega) _
      case measure=>simp[intOf]; omega
    ·
     have hk2:k=m+2:=by omega
     have hv0:v=0:=by rw[← hv']; have:=HJ.out.2.2; simp[List.getD,List.getElem?_eq_none (show V.length≤k by omega)]
     subst hv0
     obtain⟨lo,hlo⟩:∃l,cv%4294967296=l:=⟨_,rfl⟩
     have hcv:lo=cv:=by omega
     have hbits:bits BinOp.and IntKind.u64 cv 4294967295=cv:=by rw[and_low32 _ (by omega) (by omega)]; omega
     have HX:Hid (U.getD k 0=u∧V.getD k 0=0):=⟨hu,hv'⟩
     have HL:Hid (cv%4294967296=cv):=Hid.mk_ (by omega)
     clear hu hv' gU hl hok hv hblk hgr hlo hcv hk2
     rcases Int.lt_or_le (u-cv-bv) 0 with ht | ht
     ·
      go_wp2
      go_roundw
      case rel=>
       have R:=HR.out
       have S:=sub_step (q:=qv) (V:=V) (s:=cv) (t:=u-cv-bv) (x:=u-cv-bv+4294967296) (b':=1) R.1 R.2.2 (by rw[HX.out.2]; omega) (by rw[HX.out.1,HL.out]) (by omega)
       refine⟨k+1,xs ++ [u-cv-bv+4294967296],1,(cv) / 4294967296,by omega,by go_num,rfl,by go_num,by omega,by omega,by omega,by omega,by omega,by rw[List.length_append,R.1]; rfl,lok_snoc R.2.1 (by omega) (by omega),S,?_,grown_set HG.out _ _⟩
       refine HK.out.set2 ?_
       try rw[show (u-cv-bv+4294967296)%4294967296=u-cv-bv+4294967296 by omega]
       exact seg_set HJ.out.1 R.1 (by have:=HJ.out.2.1; omega) _
      case measure=>simp[intOf]; omega
     ·
      go_wp2
      go_roundw
      case rel=>
       have R:=HR.out
       have S:=sub_step (q:=qv) (V:=V) (s:=cv) (t:=u-cv-bv) (x:=u-cv-bv) (b':=0) R.1 R.2.2 (by rw[HX.out.2]; omega) (by rw[HX.out.1,HL.out]) (by omega)
       refine⟨k+1,xs ++ [u-cv-bv],0,(cv) / 4294967296,by omega,by go_num,rfl,by go_num,by omega,by omega,by omega,by omega,by omega,by rw[List.length_append,R.1]; rfl,lok_snoc R.2.1 (by omega) (by omega),S,?_,grown_set HG.out _ _⟩
       refine HK.out.set2 ?_
       try rw[show (u-cv-bv)%4294967296=u-cv-bv by omega]
       exact seg_set HJ.out.1 R.1 (by have:=HJ.out.2.1; omega) _
      case measure=>simp[intOf]; omega
   ·
    have hkn:k=m+3:=by omega
    subst hkn
    have c3:=c2 rfl
    subst c3
    have F:Hid (lval xs=lval U-qv*lval V+bp (m+3)*bv∧xs.length=m+3∧lok xs):=by
     rw[List.take_of_length_le (by have:=HJ.out.2.1; omega),List.take_of_length_le (by have:=HJ.out.2.2; omega),Int.zero_add]at hv
     exact⟨hv,hl,hok⟩
    have hblk2:Blk wr g 130 (seg pre xs post):=by
     rw[List.drop_of_length_le (by have:=HJ.out.2.1; omega),List.append_nil]at hblk
     exact hblk
    clear hl hok hv hblk HK HR c2 hk h1
    go_wp2
    go_loopw [7,9,10,13] (fun q bo c i wr=>∃ (qw bv:Int) (U':List Int),q = .int .u64 qw∧bo = .int .i64 bv∧0≤bv∧bv≤1∧Q≤qw∧qw<4294967296∧U'.length=m+3∧lok U'∧
      lval U'=lval U-qw*lval V+bp (m+3)*bv∧Blk wr g 130 (seg pre U' post)∧w.grownBy wr (some g)) (fun q _ _ _ _=>(intOf q).toNat)
    case atStart=>exact⟨qv,bv,xs,rfl,rfl,b0,b1,a1,a3,F.out.2.1,F.out.2.2,F.out.1,hblk2,hgr⟩
    case round=>
     obtain⟨qw,bw,U',rfl,rfl,d0,d1,d2,d3,e1,e2,e3,e4,e5⟩:=hrel
     clear F hblk2 HG
     have F:Hid (U'.length=m+3∧lok U'∧lval U'=lval U-qw*lval V+bp (m+3)*bw):=⟨e1,e2,e3⟩
     have L0:=lval_nonneg e2
     have L1:=lval_lt e2
     rw[e1]at L1
     rcases(show bw=0∨bw=1 by omega)with hbw | hbw
     ·
      subst hbw
      have hq:qw=Q:=by
       rcases Int.lt_or_le Q qw with h | h
       ·
        have h1:=Int.mul_le_mul_of_nonneg_right (show Q+1≤qw by omega) (show 0≤lval V by have:=HQ.out.2.2.2.2; omega)
        rw[Int.add_mul,Int.one_mul]at h1
        have:=HQ.out.2.2.2.1
        rw[Int.mul_zero]at e3
        omega
       · omega
      subst hq
      have F2:Hid (lval U'=lval U-qw*lval V):=by rw[Int.mul_zero,Int.add_zero]at e3; exact e3
      clear L0 L1 e3
      go_wp2
      go_returns
      exact⟨U',retI (by first | rfl | omega),e1,e2,F2.out,e4,e5⟩
     ·
      subst hbw
      have hq:Q<qw:=by
       rcases Int.lt_or_le Q qw with h | h
       · exact h
       ·
        have h1:=Int.mul_le_mul_of_nonneg_right h (show 0≤lval V by have:=HQ.out.2.2.2.2; omega)
        have:=HQ.out.2.2.1
        rw[Int.mul_one]at e3
        omega
      have B1:Blk wr g 130 (seg pre ([]++U'.drop 0) post):=e4
      clear L0 L1 e1 e2 e3
      go_wp2
      go_loopw [10,13] (fun c i wr=>∃ (k:Nat) (ys:List Int) (cv:Int),k≤m+3∧i = .int .i64 k∧c = .int .u64 cv∧0≤cv∧cv≤1∧ys.length=k∧lok ys∧
        lval ys+bp k*cv=lval (U'.take k)+lval (V.take k)∧Blk wr g 130 (seg pre (ys++U'.drop k) post)∧w.grownBy wr (some g)) (fun _ i _=>m+3-(intOf i).toNat)
      case atStart=>exact⟨0,[],0,Nat.zero_le _,rfl,rfl,by omega,by omega,rfl,lok_nil,by simp[lval],B1,e5⟩
      case round=>
       obtain⟨k,ys,cv,hk,rfl,rfl,c0,c1,hl,hok,hv,hblk,hgr⟩:=hrel
       have HR:Hid (ys.length=k∧lok ys∧lval ys+bp k*cv=lval (U'.take k)+lval (V.take k)):=⟨hl,hok,hv⟩
       have HG:=Hid.mk_ hgr
       have HK:=Hid.mk_ hblk
       clear B1 e4
       rcases Nat.lt_or_ge k (m+3)with h1 | h1
       ·
        obtain⟨u,hu⟩:∃x,U'.getD k 0=x:=⟨_,rfl⟩
        obtain⟨v,hv'⟩:∃x,V.getD k 0=x:=⟨_,rfl⟩
        have u0:=lok_getD F.out.2.1 k
        have v0:=lok_getD okV k
        rw[hu]at u0
        rw[hv']at v0
        have gU:(ys++U'.drop k).getD k 0=u:=by
         rw[← hu]
         simp only[List.getD]
         rw[List.getElem?_append_right (by omega),hl,Nat.sub_self,List.getElem?_drop,Nat.add_zero]
        have g1:wr.cell? ⟨g,j+k,none⟩=some (.int .u32 u):=by
         rw[← gU]
         exact hblk.c _ (seg_get HJ.out.1 (by rw[List.length_append,List.length_drop,hl]; have:=F.out.1; omega))
        have g2:wr.frozen? ⟨g,j+k,none⟩=false:=hblk.fr _
        rcases Nat.lt_or_ge k (m+2)with h2 | h2
        ·
         have g3:=(HV.out.grown hgr hb hne) k (by have:=HJ.out.2.2; omega)
         rw[hv']at g3
         have HX:Hid (U'.getD k 0=u∧V.getD k 0=v):=⟨hu,hv'⟩
         clear hu hv' gU hl hok hv hblk hgr
         go_wp2
         go_roundw
         case rel=>
          have R:=HR.out
          have S:=plus_step (s:=cv+u+v) R.1 R.2.2 (by rw[HX.out.1,HX.out.2]; omega)
          refine⟨k+1,ys ++ [(cv+u+v)%4294967296],(cv+u+v) / 4294967296,by omega,by go_num,by go_num,by omega,by omega,by rw[List.length_append,R.1]; rfl,lok_snoc R.2.1 (by omega) (by omega),S,?_,grown_set HG.out _ _⟩
          exact HK.out.set2 (seg_set HJ.out.1 R.1 (by have:=F.out.1; omega) _)
         case measure=>simp[intOf]; omega
        ·
         have hv0:v=0:=by rw[← hv']; have:=HJ.out.2.2; simp[List.getD,List.getElem?_eq_none (show V.length≤k by omega)]
         subst hv0
         have HX:Hid (U'.getD k 0=u∧V.getD k 0=0):=⟨hu,hv'⟩
         clear hu hv' gU hl hok hv hblk hgr
         go_wp2
         go_roundw
         case rel=>
          have R:=HR.out
          have S:=plus_step (s:=cv+u) R.1 R.2.2 (by rw[HX.out.1,HX.out.2]; omega)
          refine⟨k+1,ys ++ [(cv+u)%4294967296],(cv+u) / 4294967296,by omega,by go_num,by go_num,by omega,by omega,by rw[List.length_append,R.1]; rfl,lok_snoc R.2.1 (by omega) (by omega),S,?_,grown_set HG.out _ _⟩
          exact HK.out.set2 (seg_set HJ.out.1 R.1 (by have:=F.out.1; omega) _)
         case measure=>simp[intOf]; omega
       ·
        have hkn:k=m+3:=by omega
        subst hkn
        have F3:Hid (lval ys+bp (m+3)*cv=lval U'+lval V∧ys.length=m+3∧lok ys):=by
         rw[List.take_of_length_le (by have:=F.out.1; omega),List.take_of_length_le (by have:=HJ.out.2.2; omega)]at hv
         exact⟨hv,hl,hok⟩
        have hblk2:Blk wr g 130 (seg pre ys post):=by
         rw[List.drop_of_length_le (by have:=F.out.1; omega),List.append_nil]at hblk
         exact hblk
        clear hl hok hv hblk HK HR hk h1
        go_wp2
        go_roundw
        case rel=>
         have e1:=F.out.2.2
         have e2:=F3.out.1
         refine⟨qw-1,1-cv,ys,rfl,rfl,by omega,by omega,by omega,by omega,F3.out.2.1,F3.out.2.2,?_,hblk2,HG.out⟩
         rw[Int.sub_mul,Int.mul_sub]
         omega
        case measure=>simp[intOf]; omega
theorem rover_lt {a d:Value} {A D:Int} (w:World) (ha:Lim w a (limbs A)) (hd:Lim w d (limbs D)) (A0:0≤A) (D0:1≤D) (nA:(limbs A).length≤few) (nD:(limbs D).length≤few) (hlt:A<D) :
  Calls Tryz.prog 124 #[a,d] w fun e w'=>∃q r,e = .returned (.tuple #[q,r])∧Lim w' q (limbs (A / D))∧Lim w' r (limbs (A%D))∧Steps w w':=by
 have hc:cmpI A D = -1:=by unfold cmpI; rw[if_neg (by omega),if_pos hlt]
 have cc:Calls Tryz.prog 120 #[a,d] w fun e w'=>e = .returned (.int .i64 (-1))∧Steps w w':=by
  have:=rcompare w ha hd A0 (by omega) nA nD
  rw[hc]at this
  exact this
 have tt:∀w',Steps w w'→Calls Tryz.prog 127 #[a] w' fun e w2=>∃v,e = .returned v∧Lim w2 v (limbs A)∧Steps w' w2:=fun w' h=>by
  have:=rtrim w' (ha.steps h) nA
  rw[limbs_canon]at this
  exact this
 have q0:Hid (A / D=0∧A%D=A):=⟨Int.ediv_eq_zero_of_lt A0 hlt,Int.emod_eq_of_lt A0 hlt⟩
 obtain⟨aa,ca,rfl⟩:=ha.shape
 obtain⟨ad,cd,rfl⟩:=hd.shape
 clear ha hd hc
 go_enter Tryz.func124,Tryz.ntmps124
 go_wp2_with (first
  | (go_at_call 120; refine cc.mono ?_; rintro e w1 ⟨rfl,hs1⟩; have tt1:=tt w1 hs1)
  | (go_at_call 127; refine tt1.mono ?_; rintro e w2 ⟨v2,rfl,hv2,hs2⟩))
 go_returns
 refine⟨_,_,rfl,?_,?_,below_steps hs1 (Nat.le_refl _) hs2⟩
 · rw[q0.out.1]; exact Lim.nil _
 · rw[q0.out.2]; exact hv2
theorem rover_one {a d:Value} {A D:Int} (w:World) (ha:Lim w a (limbs A)) (hd:Lim w d (limbs D)) (A0:0≤A) (D0:1≤D) (nA:(limbs A).length≤few) (nD:(limbs D).length=1) (hlt:D≤A) :
  Calls Tryz.prog 124 #[a,d] w fun e w'=>∃q r,e = .returned (.tuple #[q,r])∧Lim w' q (limbs (A / D))∧Lim w' r (limbs (A%D))∧Steps w w':=by
 obtain⟨c,hc⟩:∃c,cmpI A D=c:=⟨_,rfl⟩
 have c0:0≤c:=by
  rw[← hc]; unfold cmpI
  split
  · omega
  · rw[if_neg (by omega)]; omega
 have cc:Calls Tryz.prog 120 #[a,d] w fun e w'=>e = .returned (.int .i64 c)∧Steps w w':=by
  have:=rcompare w ha hd A0 (by omega) nA (by unfold few; omega)
  rw[hc]at this
  exact this
 have hD:limbs D = [D]∧D<4294967296:=by
  match h:limbs D,nD with
  | [x],_=>
   have e1:=lval_limbs (show 0≤D by omega)
   have e2:=limbs_ok D
   rw[h]at e1 e2
   simp[lval]at e1
   subst e1
   exact⟨rfl,(lok_cons.1 e2).1.2⟩
 rw[hD.1]at hd
 have tt:∀w',Steps w w'→Calls Tryz.prog 149 #[a,.int .u32 D] w' fun e w2=>∃q r,e = .returned (.tuple #[q,r])∧Lim w2 q (limbs (A / D))∧Lim w2 r (limbs (A%D))∧Steps w' w2:=fun w' h=>by
  have:=rshort w' (ha.steps h) nA D0 hD.2
  rw[lval_limbs A0]at this
  exact this
 obtain⟨aa,ca,rfl⟩:=ha.shape
 obtain⟨ad,cd,rfl⟩:=hd.shape
 obtain⟨od,-,ld,fd⟩:=hd.cells
 simp only[List.length_cons,List.length_nil,Nat.zero_add]at ld fd cc⊢
 obtain⟨bd,odd,rfl,hbd,hcd⟩:=fd (by omega)
 have g0:=hcd 0 (by simp)
 simp only[Nat.add_zero,List.getD_cons_zero]at g0
 clear ha hd hc hcd fd od
 go_enter Tryz.func124,Tryz.ntmps124
 go_wp2_with (first
  | (go_at_call 120; refine cc.mono ?_; rintro e w1 ⟨rfl,hs1⟩; have tt1:=tt w1 hs1; have g1:=(hs1.cell (p:=⟨bd,odd,none⟩) hbd).trans g0)
  | (go_at_call 149; refine tt1.mono ?_; rintro e w2 ⟨q2,r2,rfl,hq2,hr2,hs2⟩))
 go_returns
 exact⟨_,_,rfl,hq2,hr2,below_steps hs1 (Nat.le_refl _) hs2⟩
theorem wrap_u32 {x:Int} (h0:0≤x) (h1:x<4294967296):IntKind.u32.wrap x=x:=by
 rw[IntKind.wrap_u32]; omega
theorem ltrim_top {l:List Int} {k:Nat} (hc:ltrim l=l) (h:l.length=k+1):l.getD k 0≠0:=by
 have hne:l≠ []:=by rintro rfl; cases h
 have:=ltrim_last hc hne
 rw[List.getLast_eq_getElem]at this
 simpa[List.getD,h]using this
theorem own_blk {w:World} {base:Nat} {e:TypeId} {v:Value} {n:Nat} {l:List Int} (h:w.ownsRow base e 1 v n (u32s l)) (hn:0<n) :
  ∃g cap post,v = .slice (some ⟨g,0,none⟩) n cap∧base≤g∧n≤cap∧Blk w g e (seg [] l post):=by
 obtain⟨h1,h2⟩:=h
 rcases h2 with⟨_,h2⟩ | ⟨g,cap,cur,rfl,hg,hh,hnc,hm,hs,ht⟩
 · omega
 ·
  refine⟨g,cap,cur.toList.drop n,rfl,hg,hnc,?_⟩
  unfold Blk seg
  rw[← ht,Nat.mul_one,List.nil_append,List.take_append_drop]
  exact hh
theorem Cells.set {w:World} {b o g i:Nat} {l:List Int} {u:Value} (h:Cells w b o l) (hne:b≠g):Cells (w.setCell ⟨g,i,none⟩ u) b o l:=
 fun t ht=>(World.cell?_of_block (a:=⟨b,o+t,none⟩) (Below.heap_setCell w ⟨g,i,none⟩ u b hne)).trans (h t ht)
theorem seg_split (U:List Int) (j n:Nat) (post:List Value):seg [] U post=seg (u32s (U.take j)) ((U.drop j).take n) (u32s (U.drop (j+n))++post):=by
 have e:U=U.take j++((U.drop j).take n++U.drop (j+n)):=by
  rw[← List.drop_drop,List.take_append_drop,List.take_append_drop]
 conv=>lhs; rw[e]
 simp[seg,u32s]
theorem seg_join (T S R:List Int) (post:List Value):seg (u32s T) S (u32s R++post)=seg [] (T++(S++R)) post:=by simp[seg,u32s]
theorem rover_many {a d:Value} {A D:Int} {m:Nat} (w:World) (ha:Lim w a (limbs A)) (hd:Lim w d (limbs D)) (A0:0≤A) (D0:1≤D) (nA:(limbs A).length≤few) (nD:(limbs D).length=m+2) (hlt:D≤A) :
  Calls Tryz.prog 124 #[a,d] w fun e w'=>∃q r,e = .returned (.tuple #[q,r])∧Lim w' q (limbs (A / D))∧Lim w' r (limbs (A%D))∧Steps w w':=by
 obtain⟨i0,hi,hz0,hz1,hz2⟩:=info_parts infoU
 have nAm:m+2≤(limbs A).length:=by
  rcases Nat.lt_or_ge (limbs A).length (m+2)with h | h
  · have:=limbs_len_lt A0 (show 0≤D by omega) (by omega); omega
  · exact h
 obtain⟨K,hK⟩:∃K,(limbs A).length+1=K+(m+2):=⟨(limbs A).length+1-(m+2),by omega⟩
 obtain⟨c,hc⟩:∃c,cmpI A D=c:=⟨_,rfl⟩
 have c0:0≤c:=by
  rw[← hc]; unfold cmpI
  split
  · omega
  · rw[if_neg (by omega)]; omega
 have cc:Calls Tryz.prog 120 #[a,d] w fun e w'=>e = .returned (.int .i64 c)∧Steps w w':=by
  have:=rcompare w ha hd A0 (by omega) nA (by omega)
  rw[hc]at this
  exact this
 have vD:=lval_limbs (show 0≤D by omega)
 have vA:=lval_limbs A0
 have oD:=limbs_ok D
 have oA:=limbs_ok A
 have tD:=ltrim_top (limbs_canon D) nD
 obtain⟨Dl,hDl⟩:∃l,limbs D=l:=⟨_,rfl⟩
 obtain⟨Al,hAl⟩:∃l,limbs A=l:=⟨_,rfl⟩
 rw[hDl]at hd vD oD tD nD
 rw[hAl]at ha vA oA nA hK nAm
 obtain⟨t,ht⟩:∃t,Dl.getD (m+1) 0=t:=⟨_,rfl⟩
 have t0:=lok_getD oD (m+1)
 rw[ht]at t0 tD
 have la:=hd
 obtain⟨aa,ca,rfl⟩:=ha.shape
 obtain⟨ad,cd,rfl⟩:=hd.shape
 obtain⟨-,-,ld,fd⟩:=hd.cells
 obtain⟨bd,odd,rfl,hbd,hcd⟩:=fd (by omega)
 have g0:=hcd (m+1) (by omega)
 rw[ht]at g0
 have HA:=Hid.mk_ ha
 have HD:=Hid.mk_ hd
 obtain⟨nl,hnl⟩:∃n,Al.length=n:=⟨_,rfl⟩
 have HF:Hid (lval Dl=D∧lval Al=A∧lok Dl∧lok Al∧Dl.length=m+2∧Al.length=nl∧Dl.getD (m+1) 0=t):=⟨vD,vA,oD,oA,nD,hnl,ht⟩
 rw[hnl]at nA nAm hK cc HA⊢
 rw[nD]at ld cc HD⊢
 have HDl:=Hid.mk_ hDl
 clear la ha hd fd hcd vD vA oD oA nD hnl ht hDl hAl hc
 unfold few at nA
 go_enter Tryz.func124,Tryz.ntmps124
 go_wp2_with (go_at_call 120; refine cc.mono ?_; rintro e w1 ⟨rfl,hs1⟩; have g1:=(hs1.cell (p:=⟨bd,odd+(m+1),none⟩) hbd).trans g0)
 go_loopw [7] (fun s wr=>∃sv:Nat,s = .int .u64 sv∧t*2^sv<4294967296∧sv≤31∧wr=w1) (fun s _=>(32-intOf s).toNat)
 case atStart=>exact⟨0,rfl,by simpa using t0.2,by omega,rfl⟩
 case round=>
  obtain⟨sv,rfl,s0,s1,rfl⟩:=hrel
  obtain⟨p,hp⟩:∃p,t*2^sv=p:=⟨_,rfl⟩
  have p0:0≤p:=by rw[← hp]; exact Int.mul_nonneg t0.1 (Int.le_of_lt (Int.pow_pos (by omega)))
  have hw:IntKind.u32.wrap (t*2^sv)=p:=by rw[hp,wrap_u32 p0 (by omega)]
  rcases Int.lt_or_le p 2147483648 with h1 | h1
  ·
   have s2:sv+1≤31:=by
    rcases Nat.lt_or_ge sv 31 with h | h
    · omega
    ·
     exfalso
     have e:sv=31:=by omega
     subst e
     have:=Int.mul_le_mul_of_nonneg_right (show 1≤t by omega) (show (0:Int)≤2^31 by decide)
     rw[hp]at this
     simp at this
     omega
   have s3:Hid (t*2^(sv+1)<4294967296):=by
    show t*2^(sv+1)<4294967296
    rw[Int.pow_succ,← Int.mul_assoc,hp]; omega
   clear hp s0
   go_wp2
   go_roundw
   case rel=>exact⟨sv+1,by go_num,s3.out,by omega,by first | rfl | trivial⟩
   case measure=>simp[intOf]; omega
  ·
   obtain⟨P,hP⟩:∃P,((2^sv:Nat):Int)=P:=⟨_,rfl⟩
   have P0:1≤P:=by have:=Nat.one_le_two_pow (n:=sv); omega
   have P1:P≤2147483648:=by have:=Nat.pow_le_pow_right (show 0<2 by omega) s1; simp at this; omega
   have PQ:P*((2^(32-sv):Nat):Int)=4294967296:=by
    rw[← hP,← Int.natCast_mul,← Nat.pow_add,show sv+(32-sv)=32 by omega]; decide
   have tP:t*P=p:=by rw[← hp,← hP]; simp
   have HN:=Hid.mk_ (fun(L:List Int) (oL:lok L) (lL:L.length=m+3) (hL:lval L=lval Dl*P)=>norm_top HF.out.2.2.1 HF.out.2.2.2.2.1 oL lL hL P0 PQ (by rw[HF.out.2.2.2.2.2.2,tP]; exact h1) (by rw[HF.out.2.2.2.2.2.2,tP,← hp]; exact s0))
   have HP:=Hid.mk_ (And.intro hP PQ)
   have cl1:Calls Tryz.prog 150 #[.slice (some ⟨bd,odd,none⟩) (m+2) cd,.int .u64 sv] wr fun e w'=>∃g cap post L,e = .returned (.slice (some ⟨g,0,none⟩) (m+3) cap)∧wr.heap.size≤g∧m+3≤cap∧lok L∧L.length=m+3∧lval L=lval Dl*P∧Blk w' g 130 (seg [] L post)∧Steps wr w':=by
    refine(rleft wr (HD.out.steps hs1) (by have:=HF.out.2.2.2.2.1; unfold few; omega) s1).mono ?_
    rintro e w' ⟨v,L,rfl,h1,h2,h3,h4,h5⟩
    rw[HF.out.2.2.2.2.1]at h3 h4
    obtain⟨g,cap,post,rfl,k1,k2,k3⟩:=own_blk h4 (by omega)
    exact⟨g,cap,post,L,rfl,k1,k2,h1.ok,h3,by rw[h2,hP],k3,h5⟩
   have cl2:∀w2,Steps wr w2→Calls Tryz.prog 150 #[.slice aa nl ca,.int .u64 sv] w2 fun e w'=>∃g cap post L,e = .returned (.slice (some ⟨g,0,none⟩) (K+(m+2)) cap)∧w2.heap.size≤g∧K+(m+2)≤cap∧lok L∧L.length=K+(m+2)∧lval L=lval Al*P∧Blk w' g 130 (seg [] L post)∧Steps w2 w':=fun w2 hs=>by
    refine(rleft w2 ((HA.out.steps hs1).steps hs) (by have:=HF.out.2.2.2.2.2.1; unfold few; omega) s1).mono ?_
    rintro e w' ⟨v,L,rfl,h1,h2,h3,h4,h5⟩
    rw[HF.out.2.2.2.2.2.1]at h3 h4
    rw[hK]at h3 h4
    obtain⟨g,cap,post,rfl,k1,k2,k3⟩:=own_blk h4 (by omega)
    exact⟨g,cap,post,L,rfl,k1,k2,h1.ok,h3,by rw[h2,hP],k3,h5⟩
   have hmk:=make_row K (by omega)
   clear hp hP PQ tP s0 g0 t0 tD
   go_wp2_with (first
    | (go_at_call 150; refine cl1.mono ?_; clear cl1; rintro e w2 ⟨gv,capv,postv,Lv,rfl,gv0,gv1,ov,lv,vv,bv,hs2⟩; have cl3:=cl2 w2 hs2)
    | (go_at_call 150; refine cl3.mono ?_; clear cl3 cl2; rintro e w3 ⟨gu,capu,postu,Lu,rfl,gu0,gu1,ou,lu,vu,bu,hs3⟩))
   have NT:=HN.out Lv ov lv vv
   obtain⟨V',hV'⟩:∃l,Lv.take (m+2)=l:=⟨_,rfl⟩
   rw[hV']at NT
   have okV:lok V':=by rw[← hV']; exact lok_take ov _
   have lV:V'.length=m+2:=by rw[← hV',List.length_take]; omega
   have cV2:Cells w2 gv 0 V':=fun t ht=>by
    rw[lV]at ht
    rw[bv.cell,seg_get (j:=0) rfl (by omega),← hV']
    simp[List.getD,List.getElem?_take,ht]
   have hgv:gv<w2.heap.size:=bv.lt
   have cV3:Cells w3 gv 0 V':=cV2.below hs3 hgv
   obtain⟨W3,hW3⟩:∃W,w3.alloc (.cells (madeCells #[.int .u32 0] K) 130)=W:=⟨_,rfl⟩
   have SW:Steps w3 W3:=by rw[← hW3]; exact(Below.refl _ _).alloc (Nat.le_refl _) _
   have K0:Blk W3 w3.heap.size 130 (u32s (List.replicate K 0 ++ [])).toArray:=by
    have:=Blk.new w3 130 (madeCells #[.int .u32 0] K)
    rw[hW3,made_zeros,← List.append_nil (List.replicate K (0:Int))]at this
    exact this
   have bu3:Blk W3 gu 130 (seg [] Lu postu):=bu.steps SW
   have cV4:Cells W3 gv 0 V':=cV3.below SW (Nat.lt_of_lt_of_le hgv hs3.size)
   have BW:Below w.heap.size w W3:=below_steps (below_steps (below_steps hs1 (Nat.le_refl _) hs2) (Nat.le_refl _) hs3) (Nat.le_refl _) SW
   have gq:w3.heap.size<W3.heap.size:=K0.lt
   have gu2:gu<w3.heap.size:=bu.lt
   have z1:=hs1.size
   have z2:=hs2.size
   have start:lval (Lu.drop K)<lval V':=by
    refine over_start (la:=nl) (A:=A) (P:=P) ou lu hK (by rw[vu,HF.out.2.1]) ?_ A0 P0 P1 (by rw[NT.1]; exact NT.2.2)
    have:=lval_lt HF.out.2.2.2.1
    rw[HF.out.2.1,HF.out.2.2.2.2.2.1]at this
    exact this
   have vV:lval V'<bp (m+2):=by have:=lval_lt okV; rwa[lV]at this
   have HS:=Hid.mk_ (And.intro NT (And.intro vu (And.intro okV (And.intro lV vV))))
   have HS0:=Hid.mk_ lu
   rw[hW3]
   clear hmk hV' cV2 cV3 bv bu NT lv lu vv vu HN ov hW3 SW okV lV vV
   go_loopw [11] (fun jv wr=>∃ (k:Nat) (Uc qs:List Int),k≤K∧jv = .int .i64 ((k:Int)-1)∧lok Uc∧Uc.length=K+(m+2)∧lok qs∧qs.length+k=K∧lval Uc+lval V'*(bp k*lval qs)=lval Al*P∧lval (Uc.drop k)<lval V'∧
     Blk wr gu 130 (seg [] Uc postu)∧Blk wr w3.heap.size 130 (u32s (List.replicate k 0++qs)).toArray∧Cells wr gv 0 V'∧Below w.heap.size w wr) (fun j _=>(intOf j+1).toNat)
   case atStart=>exact⟨K,Lu,[],Nat.le_refl _,by go_num,ou,HS0.out,lok_nil,by simp,by simp[lval]; exact HS.out.2.1,start,bu3,K0,cV4,BW⟩
   case round=>
    obtain⟨k,Uc,qs,hk,hjv,oU,lU,oq,lq,vq,dq,hbu,hbq,hcv,hnx⟩:=hrel
    clear start bu3 K0 cV4 BW
    rcases Nat.eq_zero_or_pos k with rfl | hp
    ·
     rename World=>w4
     have hjv':=hjv.trans (show Value.int .i64 (((0:Nat):Int)-1)=Value.int .i64 (-1) from rfl)
     clear hjv
     subst hjv'
     have lq0:qs.length=K:=by omega
     rw[bp_zero,Int.one_mul]at vq
     rw[List.drop_zero]at dq
     have hq0:Lim w4 (.slice (some ⟨w3.heap.size,0,none⟩) K K) qs:=by
      have:=Lim.of_blk' hbq oq
      rw[List.replicate_zero,List.nil_append,lq0]at this
      exact this
     have e0:=lval_nonneg oU
     have DP:lval V'=D*P:=by rw[HS.out.1.1,HF.out.1]
     have hP:=HP.out
     obtain⟨W,hW⟩:∃W,A%D=W:=⟨_,rfl⟩
     have QR:A / D=lval qs∧lval Uc=W*P:=by
      have h1:=quot_of (A:=A*P) (D:=D*P) (q:=lval qs) (r:=lval Uc) (by rw[← DP]; rw[HF.out.2.1]at vq; omega) e0 (by rw[← DP]; exact dq)
      rw[Int.mul_ediv_mul_of_pos_left _ _ (by omega)]at h1
      have h2:=Int.mul_ediv_add_emod A D
      have h3:A*P=(D*(A / D)+A%D)*P:=by rw[h2]
      rw[Int.add_mul,Int.mul_right_comm,hW,h1.1]at h3
      rw[HF.out.2.1,DP]at vq
      exact⟨h1.1,by omega⟩
     have TA:=take_all (n:=m+2) oU (by omega) (by have:=HS.out.2.2.2.2; omega)
     obtain⟨R,hR⟩:∃R,Uc.take (m+2)=R:=⟨_,rfl⟩
     have okR:lok R:=by rw[← hR]; exact lok_take oU _
     have lR:R.length=m+2:=by rw[← hR,List.length_take]; omega
     have vR:lval R=W*P:=by rw[← hR,TA.1,QR.2]
     have cR:∀t,t<m+2→w4.cell? ⟨gu,t,none⟩=some (.int .u32 (R.getD t 0)):=fun t ht=>by
      have h:=seg_get (post:=postu) (j:=0) (pre:= []) (t:=t) (U:=Uc) rfl (by omega)
      rw[Nat.zero_add]at h
      rw[hbu.c t h,← hR]
      simp[List.getD,List.getElem?_take,ht]
     have hgu:gu<w4.heap.size:=hbu.lt
     have HE:=Hid.mk_ (And.intro QR.1 (And.intro oq (And.intro lq0 (And.intro okR (And.intro lR vR)))))
     have HW:=Hid.mk_ hW
     clear oU lU oq lq lq0 vq dq hbu hbq hcv TA hR okR lR vR QR DP e0 HS HS0
     go_wp2
     go_loopw [13,14,15] (fun o i x wr=>∃ (k:Nat),k≤m+2∧i = .int .i64 k∧wr.ownsRow w4.heap.size 130 1 o k (u32s (dig k W))∧Below w4.heap.size w4 wr) (fun _ i _ _=>m+2-(intOf i).toNat)
     case atStart=>exact⟨0,Nat.zero_le _,rfl,World.ownsRow_nil _ _ _ _,Below.refl _ _⟩
     case round=>
      obtain⟨k,hk,rfl,hown,hnl⟩:=hrel
      have BL:=back_limb (R:=R) (k:=k) HE.out.2.2.2.1 (P:=P) (Q:=((2^(32-sv):Nat):Int))
      have hP2:(2:Int)^sv=P:=by rw[← HP.out.1]; simp
      obtain⟨u,hu⟩:∃x,R.getD k 0=x:=⟨_,rfl⟩
      obtain⟨v,hv⟩:∃x,R.getD (k+1) 0=x:=⟨_,rfl⟩
      have u0:=lok_getD HE.out.2.2.2.1 k
      have v0:=lok_getD HE.out.2.2.2.1 (k+1)
      rw[hu]at u0
      rw[hv]at v0
      have S0:k<m+2→Hid ((u+v*4294967296) / 2^sv%4294967296=W / bp k%4294967296):=fun h=>by
       have:=BL (by have:=HE.out.2.2.2.2.1; omega) P0 HP.out.2
       rw[HE.out.2.2.2.2.2,Int.mul_ediv_cancel _ (by omega),hu,hv]at this
       rw[hP2]
       exact this
      clear BL hP2
      rcases Nat.lt_or_ge k (m+2)with h1' | h1'
      ·
       have S:=S0 h1'
       have g2:=(hnl.cell (p:=⟨gu,k,none⟩) hgu).trans (cR k h1')
       rw[hu]at g2
       rcases Nat.lt_or_ge (k+1) (m+2)with h2' | h2'
       focus
        have g3:=(hnl.cell (p:=⟨gu,k+1,none⟩) hgu).trans (cR (k+1) h2')
        rw[hv]at g3
       rotate_left
       focus
        have hv0:v=0:=by rw[← hv]; have:=HE.out.2.2.2.2.1; simp[List.getD,List.getElem?_eq_none (show R.length≤k+1 by omega)]
        subst hv0
        rw[Int.zero_mul,Int.add_zero]at S
       rotate_left
       all_goals
        clear cR hu hv S0
        go_wp2_with (at_builtin; refine wpList_app rfl (.tmp 101) (.tmp 106) 28 rfl w4.heap.size 130 i0 Tryz.underlying28 hi hz0 hz1 hz2 _ k (dig k W) rfl (hown.alloc _) _ [_] rfl (Lim.one (Int.emod_nonneg _ (by decide)) (Int.emod_lt_of_pos _ (by decide))) (by simp; omega) (by rw[World.size_alloc]; have:=hnl.size; omega) ?_)
        intro v' w5 hown1 hg5 hge
        go_wp2
        go_roundw
        case rel=>
         rw[S.out]at hown1
         exact⟨k+1,by omega,by go_num,by rw[dig_snoc]; exact hown1,(hnl.alloc hnl.size _).grown hg5 (by rw[World.size_alloc]; have:=hnl.size; omega) hge⟩
        case measure=>simp[intOf]; omega
      ·
       clear cR hu hv S0
       have hkn:k=m+2:=by omega
       subst hkn
       have vW:lval (dig (m+2) W)=W:=by
        refine lval_dig ?_ ?_
        · rw[← HW.out]; exact Int.emod_nonneg _ (by omega)
        ·
         have h1:=Int.emod_lt_of_pos A (show 0<D by omega)
         rw[HW.out]at h1
         have h2:=lval_lt HF.out.2.2.1
         rw[HF.out.1,HF.out.2.2.2.2.1]at h2
         omega
       have ldW:=dig_length (m+2) W
       have HWl:=Hid.mk_ (And.intro vW (dig_ok (m+2) W))
       have Lr:=Lim.own hown (dig_ok (m+2) W)
       have Lq:=hq0.steps hnl
       have lq:qs.length≤few:=by have:=HE.out.2.2.1; unfold few; omega
       have lr:(dig (m+2) W).length≤few:=by unfold few; omega
       clear vW ldW hq0 hown
       go_wp2_with (first
        | (go_at_call 127; refine(rtrim _ Lq lq).mono ?_; clear Lq; rintro e w6 ⟨v6,rfl,hv6,hs6⟩; have Lr6:=Lr.steps hs6)
        | (go_at_call 127; refine(rtrim _ Lr6 lr).mono ?_; clear Lr6; rintro e w7 ⟨v7,rfl,hv7,hs7⟩))
       go_returns
       have HE':=HE.out
       refine⟨_,_,rfl,?_,?_,below_steps (below_steps (below_steps hnx (Nat.le_refl _) hnl) (Nat.le_refl _) hs6) (Nat.le_refl _) hs7⟩
       ·
        rw[HE'.1,limbs_lval HE'.2.1]
        exact hv6.steps hs7
       ·
        rw[HW.out]
        have:=limbs_lval HWl.out.2
        rw[HWl.out.1]at this
        rw[this]
        exact hv7
    ·
     obtain⟨j,rfl⟩:∃j,k=j+1:=⟨k-1,by omega⟩
     subst hjv
     have hcj:¬capu=j:=by omega
     have HU:=Hid.mk_ (And.intro oU (And.intro lU (And.intro oq (And.intro lq (And.intro vq dq)))))
     clear oU lU oq lq vq dq
     have dc:Calls Tryz.prog 151 #[.slice (some ⟨gu,j,none⟩) (j+(m+2)+1-j) (capu-j),.slice (some ⟨gv,0,none⟩) (m+2) capv] wr fun e w'=>∃ (x:Int) (Un:List Int),e = .returned (.int .u32 x)∧0≤x∧x<4294967296∧
       Hid (lok Un∧Un.length=K+(m+2)∧lval Un+lval V'*(bp j*lval (x::qs))=lval Al*P∧lval (Un.drop j)<lval V')∧
       Blk w' gu 130 (seg [] Un postu)∧wr.grownBy w' (some gu):=by
      obtain⟨o1,o2,o3,o4,o5,o6⟩:=HU.out
      have S:=over_step (m:=m) o1 (by omega) HS.out.2.2.2.2 o6
      have lT:(Uc.take j).length=j:=by rw[List.length_take]; omega
      have top:=HS.out.1.2.1
      have C:=rdigit (m:=m) (pre:=u32s (Uc.take j)) (post:=u32s (Uc.drop (j+(m+3)))++postu) (U:=(Uc.drop j).take (m+3)) (V:=V') (g:=gu) (j:=j) (b:=gv) (o:=0) (capu:=capu-j) (capv:=capv) wr
       (by rw[← seg_split]; exact hbu) (by rw[u32s_length]; exact lT) (by rw[List.length_take,List.length_drop]; omega) (lok_take (lok_drop o1 _) _) hcv HS.out.2.2.2.1 HS.out.2.2.1 (Nat.lt_trans (by omega) hbu.lt) (by omega) (by unfold few; omega) top S.1
      rw[show j+(m+2)+1-j=m+3 by omega]
      refine C.mono ?_
      rintro e w' ⟨U',rfl,k1,k2,k3,k4,k5⟩
      rw[S.2.1]at k3⊢
      have p1:=bp_pos (m+1)
      have hVp:0<lval V':=by rw[HS.out.1.1]; have:=HS.out.1.2.2; omega
      have e0:=Int.mul_ediv_add_emod (lval (Uc.drop j)) (lval V')
      have n0:=lval_nonneg (lok_drop o1 j)
      have q0:0≤lval (Uc.drop j) / lval V':=Int.ediv_nonneg n0 (by omega)
      have q1:lval (Uc.drop j) / lval V'<4294967296:=Int.ediv_lt_of_lt_mul hVp (by have:=S.1; rw[S.2.1,Int.mul_comm]at this; exact this)
      have m1:=Int.emod_lt_of_pos (lval (Uc.drop j)) hVp
      have N:=over_next (m:=m) (j:=j) (U:=Uc) (S:=U') (qs:=qs) (q:=lval (Uc.drop j) / lval V') (V:=lval V') k1 (by omega) S.2.2 o5 (by rw[k3,Int.mul_comm (lval (Uc.drop j) / lval V')]; omega) (by rw[k3]; exact m1)
      refine⟨_,Uc.take j++(U'++Uc.drop (j+(m+3))),rfl,q0,q1,⟨?_,?_,N.1,N.2⟩,?_,k5⟩
      · exact lok_append.2 ⟨lok_take o1 _,lok_append.2 ⟨k2,lok_drop o1 _⟩⟩
      · rw[List.length_append,List.length_append,lT,k1,List.length_drop]; omega
      · rw[← seg_join]; exact k4
     go_wp2_with (go_at_call 151; refine dc.mono ?_; clear dc; rintro e wd ⟨x,Un,rfl,x0,x1,HN,hbu',hgr⟩; have hbq':Blk wd w3.heap.size 130 (u32s (List.replicate (j+1) 0++qs)).toArray:=(hgr.block _ hbq.lt (fun e=>by have:=Option.some.inj e; omega)).trans hbq; have g2:wd.cell? ⟨w3.heap.size,j,none⟩=some (.int .u32 0):=hbq'.c _ (by simp[u32s,List.getElem?_append,List.getElem?_replicate]); have g3:wd.frozen? ⟨w3.heap.size,j,none⟩=false:=hbq'.fr _)
     go_roundw
     case rel=>
      obtain⟨o1,o2,o3,o4,o5,o6⟩:=HU.out
      refine⟨j,Un,x::qs,by omega,rfl,HN.out.1,HN.out.2.1,lok_cons.2 ⟨⟨x0,x1⟩,o3⟩,by rw[List.length_cons]; omega,HN.out.2.2.1,HN.out.2.2.2,hbu'.far' (by omega),hbq'.set2 (set_down j _ qs),(hcv.grown hgr (Nat.lt_trans (by omega) hbu.lt) (by omega)).set (by omega),?_⟩
      exact(hnx.grown hgr hnx.size (fun k hk=>by have:=Option.some.inj hk; omega)).setCell (p:=⟨w3.heap.size,j,none⟩) (show w.heap.size≤w3.heap.size by omega) _
     case measure=>simp[intOf]
end Go.Proofs.YtdkcffnmlllamaaGreat
