import Derived.Test.YtdkcffnmlllamaaGreatMLim
import Derived.BigRegion
import Derived.BigQuiet
import Derived.Deep.QuietTactic
set_option linter.unusedVariables false
set_option linter.unusedSimpArgs false
set_option maxHeartbeats 6400000
set_option maxRecDepth 1000000
namespace Go.Proofs.YtdkcffnmlllamaaGreat
open Go.RowKit
def few:Nat:=100000000
theorem rcompare {a b:Value} {x y:Int} (w:World) (ha:Lim w a (limbs x)) (hb:Lim w b (limbs y)) (hx:0≤x) (hy:0≤y) (nx:(limbs x).length≤few) (ny:(limbs y).length≤few) :
  Calls Tryz.prog 120 #[a,b] w fun e w'=>e = .returned (.int .i64 (cmpI x y))∧Steps w w':=by
 obtain⟨aa,ca,rfl⟩:=ha.shape
 obtain⟨ab,cb,rfl⟩:=hb.shape
 obtain⟨oa,-,la,fa⟩:=ha.cells
 obtain⟨ob,-,lb,fb⟩:=hb.cells
 clear ha hb
 unfold few at nx ny
 obtain⟨A,hA⟩:∃A,limbs x=A:=⟨_,rfl⟩
 obtain⟨B,hB⟩:∃B,limbs y=B:=⟨_,rfl⟩
 have vA:lval A=x:=by rw[← hA,lval_limbs hx]
 have vB:lval B=y:=by rw[← hB,lval_limbs hy]
 have hlt:A.length<B.length→x<y:=fun h=>limbs_len_lt hx hy (by rw[hA,hB]; exact h)
 have hgt:B.length<A.length→y<x:=fun h=>limbs_len_lt hy hx (by rw[hA,hB]; exact h)
 rw[hA]at fa oa la nx
 rw[hB]at fb ob lb ny
 rw[hA,hB]
 obtain⟨n,hn⟩:∃n,A.length=n:=⟨_,rfl⟩
 obtain⟨m,hm⟩:∃m,B.length=m:=⟨_,rfl⟩
 have H:Hid ((n<m→x<y)∧(m<n→y<x)∧lval A=x∧lval B=y∧A.length=n∧B.length=m):=⟨by rw[← hn,← hm]; exact hlt,by rw[← hn,← hm]; exact hgt,vA,vB,hn,hm⟩
 rw[hn]at fa la nx
 rw[hm]at fb lb ny
 rw[hn,hm]
 clear hlt hgt vA vB hn hm hA hB hx hy
 rcases Nat.lt_trichotomy n m with h | h | h
 ·
  go_enter Tryz.func120,Tryz.ntmps120
  go_wp2
  go_returns
  have:=H.out.1 h
  exact⟨retI (by unfold cmpI; rw[if_neg (by omega),if_pos this]),Below.refl _ _⟩
 ·
  subst h
  go_enter Tryz.func120,Tryz.ntmps120
  go_wp2
  go_loopw [5] (fun i wr=>∃k:Nat,k≤n∧i = .int .i64 ((k:Int)-1)∧lval (A.drop k)=lval (B.drop k)∧Below w.heap.size w wr) (fun i _=>(intOf i+1).toNat)
  case atStart=>exact⟨n,Nat.le_refl _,by go_num,by rw[List.drop_of_length_le (by have:=H.out.2.2.2.2.1; omega),List.drop_of_length_le (by have:=H.out.2.2.2.2.2; omega)],Below.refl _ _⟩
  case round=>
   obtain⟨k,hk,rfl,hd,hnx⟩:=hrel
   rcases Nat.eq_zero_or_pos k with rfl | hp
   ·
    go_wp2
    go_returns
    have h1:=H.out.2.2.1
    have h2:=H.out.2.2.2.1
    simp only[List.drop_zero]at hd
    exact⟨retI (by unfold cmpI; rw[if_pos (by omega)]),hnx⟩
   ·
    obtain⟨j,rfl⟩:∃j,k=j+1:=⟨k-1,by omega⟩
    obtain⟨ba,oa',rfl,hba,hca⟩:=fa (by omega)
    obtain⟨bb,ob',rfl,hbb,hcb⟩:=fb (by omega)
    have g1:=(hnx.cell (p:=⟨ba,oa'+j,none⟩) hba).trans (hca j (by rw[H.out.2.2.2.2.1]; omega))
    have g2:=(hnx.cell (p:=⟨bb,ob'+j,none⟩) hbb).trans (hcb j (by rw[H.out.2.2.2.2.2]; omega))
    obtain⟨u,hu⟩:∃u,A.getD j 0=u:=⟨_,rfl⟩
    obtain⟨v,hv⟩:∃v,B.getD j 0=v:=⟨_,rfl⟩
    rw[hu]at g1
    rw[hv]at g2
    have HU:Hid (A.getD j 0=u∧B.getD j 0=v):=⟨hu,hv⟩
    clear hca hcb fa fb hu hv
    have E:Hid (lval (A.drop j)=u+4294967296*lval (A.drop (j+1))∧lval (B.drop j)=v+4294967296*lval (B.drop (j+1))):=by
     rw[← HU.out.1,← HU.out.2]; exact⟨lval_drop A j,lval_drop B j⟩
    have D:Hid (u<v→x<y):=fun h=>by
     have:=cmp_at oa ob (i:=j) (by have:=H.out.2.2.2.2.1; omega) (by have:=H.out.2.2.2.2.2; omega) hd (by rw[HU.out.1,HU.out.2]; exact h)
     have h1:=H.out.2.2.1
     have h2:=H.out.2.2.2.1
     omega
    have D':Hid (v<u→y<x):=fun h=>by
     have:=cmp_at ob oa (i:=j) (by have:=H.out.2.2.2.2.2; omega) (by have:=H.out.2.2.2.2.1; omega) hd.symm (by rw[HU.out.1,HU.out.2]; exact h)
     have h1:=H.out.2.2.1
     have h2:=H.out.2.2.2.1
     omega
    go_wp2
    go_quiet (fail)
    go_wp2
    ·
     have hl:u<v:=by assumption
     go_returns
     have:=D.out hl
     exact⟨retI (by unfold cmpI; rw[if_neg (by omega),if_pos this]),belowN hnx _⟩
    ·
     go_quiet (fail)
     go_wp2
     ·
      have hl:v<u:=by assumption
      go_returns
      have:=D'.out hl
      exact⟨retI (by unfold cmpI; rw[if_neg (by omega),if_neg (by omega)]),belowN (belowN hnx _) _⟩
     ·
      go_roundw
      case rel=>exact⟨j,by omega,by go_num,by have:=E.out; omega,by first | exact belowN hnx _ | exact belowN (belowN hnx _) _⟩
      case measure=>simp[intOf]
 ·
  go_enter Tryz.func120,Tryz.ntmps120
  go_wp2
  go_returns
  have:=H.out.2.1 h
  exact⟨retI (by unfold cmpI; rw[if_neg (by omega),if_neg (by omega)]),Below.refl _ _⟩
theorem Hid.mk_ {p:Prop} (h:p):Hid p:=h
theorem infoU:(Tryz.prog.info? 130).map (fun i=>(i.zero,i.size,i.bytes))=some (some (.int .u32 0),1,4):=by kernel_rfl
theorem ltrim_take_zero {l:List Int} {k:Nat} (hk:k<l.length) (h:l.getD k 0=0):ltrim (l.take (k+1))=ltrim (l.take k):=by
 rw[List.take_succ_eq_append_getElem hk]
 have:l[k]=0:=by simpa[List.getD,hk]using h
 rw[this,ltrim_snoc_zero]
theorem ltrim_take_last {l:List Int} {k:Nat} (hk:k<l.length) (h:l.getD k 0≠0):ltrim (l.take (k+1))=l.take (k+1):=by
 rw[List.take_succ_eq_append_getElem hk]
 refine ltrim_of_last (List.append_ne_nil_of_right_ne_nil _ (List.cons_ne_nil _ _)) ?_
 rw[List.getLast_append_of_ne_nil _ (List.cons_ne_nil _ _)]
 simpa[List.getD,hk]using h
theorem rtrim {a:Value} {l:List Int} (w:World) (ha:Lim w a l) (nl:l.length≤few) :
  Calls Tryz.prog 127 #[a] w fun e w'=>∃v,e = .returned v∧Lim w' v (ltrim l)∧Steps w w':=by
 obtain⟨i0,hi,hz0,hz1,hz2⟩:=info_parts infoU
 obtain⟨aa,ca,rfl⟩:=ha.shape
 obtain⟨ol,-,la,fa⟩:=ha.cells
 have HL:Hid (Lim w (.slice aa l.length ca) l):=ha
 clear ha
 unfold few at nl
 obtain⟨n,hn⟩:∃n,l.length=n:=⟨_,rfl⟩
 have H:Hid (l.length=n):=hn
 rw[hn]at fa la nl
 rw[hn]
 clear hn
 go_enter Tryz.func127,Tryz.ntmps127
 go_wp2
 go_loopw [3] (fun i wr=>∃k:Nat,k≤n∧i = .int .i64 k∧ltrim (l.take k)=ltrim l∧Below w.heap.size w wr) (fun i _=>(intOf i).toNat)
 case atStart=>exact⟨n,Nat.le_refl _,rfl,by rw[List.take_of_length_le (by have:=H.out; omega)],Below.refl _ _⟩
 case round=>
  obtain⟨k,hk,rfl,hd,hnx⟩:=hrel
  have T:Hid (ltrim (l.take k)=ltrim l):=hd
  clear hd
  have fin:ltrim l=l.take k→Lim (wr.alloc (.cells #[] 130)) (.slice aa k ca) (ltrim l)∧(ltrim l).length=k:=fun e=>by
   have h1:=H.out
   rw[e]
   have:=HL.out
   rw[H.out]at this
   exact⟨(this.steps (hnx.alloc hnx.size _)).take (by omega),by rw[List.length_take]; omega⟩
  have K2:=hnx.size
  rcases Nat.eq_zero_or_pos k with rfl | hp
  ·
   obtain⟨hL,hl⟩:=fin (by rw[← T.out]; rfl)
   have L0:=Hid.mk_ hL
   have L1:=Hid.mk_ hl
   clear fin hL hl
   go_wp2_with (at_builtin; refine wpList_app rfl (.tmp 18) (.tmp 21) 28 rfl w.heap.size 130 i0 Tryz.underlying28 hi hz0 hz1 hz2 _ 0 [] rfl (World.ownsRow_made wr #[] 0 K2 (Nat.zero_le _) rfl) _ (ltrim l) rfl L0.out (by have:=L1.out; omega) (by rw[World.size_alloc]; omega) ?_)
   intro v' w1 hown hg hge
   have hok:=Lim.own hown (by simpa using ltrim_ok ol)
   go_wp2
   go_returns
   exact⟨_,rfl,by simpa using hok,(hnx.alloc K2 _).grown hg (by rw[World.size_alloc]; omega) hge⟩
  ·
   obtain⟨j,rfl⟩:∃j,k=j+1:=⟨k-1,by omega⟩
   obtain⟨ba,oa',rfl,hba,hca⟩:=fa (by omega)
   have g1:=(hnx.cell (p:=⟨ba,oa'+j,none⟩) hba).trans (hca j (by rw[H.out]; omega))
   obtain⟨u,hu⟩:∃u,l.getD j 0=u:=⟨_,rfl⟩
   rw[hu]at g1
   have HU:Hid (l.getD j 0=u):=hu
   have hj:j<l.length:=by have:=H.out; omega
   rcases Int.decEq u 0 with hne | rfl
   ·
    obtain⟨hL,hl⟩:=fin (by rw[← T.out]; exact ltrim_take_last hj (by rw[HU.out]; exact hne))
    have L0:=Hid.mk_ hL
    have L1:=Hid.mk_ hl
    clear fin hL hl hca fa hu hj
    go_wp2_with (at_builtin; refine wpList_app rfl (.tmp 18) (.tmp 21) 28 rfl w.heap.size 130 i0 Tryz.underlying28 hi hz0 hz1 hz2 _ 0 [] rfl (World.ownsRow_made wr #[] 0 K2 (Nat.zero_le _) rfl) _ (ltrim l) rfl L0.out (by have:=L1.out; omega) (by rw[World.size_alloc]; omega) ?_)
    intro v' w1 hown hg hge
    have hok:=Lim.own hown (by simpa using ltrim_ok ol)
    go_wp2
    go_returns
    exact⟨_,rfl,by simpa using hok,(hnx.alloc K2 _).grown hg (by rw[World.size_alloc]; omega) hge⟩
   ·
    have T2:Hid (ltrim (l.take j)=ltrim l):=by rw[← T.out]; exact(ltrim_take_zero hj HU.out).symm
    clear fin hca fa hu hj
    go_wp2
    go_roundw
    case rel=>exact⟨j,by omega,by go_num,T2.out,hnx⟩
    case measure=>simp[intOf]
theorem rplus {a b:Value} {A B:List Int} (w:World) (ha:Lim w a A) (hb:Lim w b B) (nA:A.length≤few) (nB:B.length≤few) :
  Calls Tryz.prog 152 #[a,b] w fun e w'=>∃v l,e = .returned v∧Lim w' v l∧lval l=lval A+lval B∧l.length=max A.length B.length+1∧Steps w w':=by
 obtain⟨i0,hi,hz0,hz1,hz2⟩:=info_parts infoU
 obtain⟨aa,ca,rfl⟩:=ha.shape
 obtain⟨ab,cb,rfl⟩:=hb.shape
 obtain⟨oa,-,la,fa⟩:=ha.cells
 obtain⟨ob,-,lb,fb⟩:=hb.cells
 clear ha hb
 unfold few at nA nB
 obtain⟨n,hn⟩:∃n,A.length=n:=⟨_,rfl⟩
 obtain⟨m,hm⟩:∃m,B.length=m:=⟨_,rfl⟩
 have H:Hid (A.length=n∧B.length=m):=⟨hn,hm⟩
 rw[hn]at fa la nA
 rw[hm]at fb lb nB
 rw[hn,hm]
 clear hn hm
 go_enter Tryz.func152,Tryz.ntmps152
 go_wp2
 go_loopw [5,6,7] (fun o c i wr=>∃ (k:Nat) (xs:List Int) (cv:Int),k≤max n m∧i = .int .i64 k∧c = .int .u64 cv∧0≤cv∧cv≤1∧xs.length=k∧lok xs∧lval xs+bp k*cv=lval (A.take k)+lval (B.take k)∧
   wr.ownsRow w.heap.size 130 1 o k (u32s xs)∧Below w.heap.size w wr) (fun _ _ i _=>(max n m-(intOf i).toNat))
 case atStart=>exact⟨0,[],0,Nat.zero_le _,rfl,rfl,by omega,by omega,rfl,lok_nil,by simp[lval],World.ownsRow_nil _ _ _ _,Below.refl _ _⟩
 case round=>
  obtain⟨k,xs,cv,hk,rfl,rfl,c0,c1,hl,hok,hv,hown,hnx⟩:=hrel
  have Z:=hnx.size
  have HV:Hid (xs.length=k∧lok xs∧lval xs+bp k*cv=lval (A.take k)+lval (B.take k)):=⟨hl,hok,hv⟩
  clear hl hok hv
  obtain⟨u,hu⟩:∃u,A.getD k 0=u:=⟨_,rfl⟩
  obtain⟨v,hv⟩:∃v,B.getD k 0=v:=⟨_,rfl⟩
  have u0:=lok_getD oa k
  have v0:=lok_getD ob k
  rw[hu]at u0
  rw[hv]at v0
  have HU:Hid (A.getD k 0=u∧B.getD k 0=v):=⟨hu,hv⟩
  have zu:n≤k→u=0:=fun h=>by rw[← hu]; have:=H.out.1; simp[List.getD,List.getElem?_eq_none (show A.length≤k by omega)]
  have zv:m≤k→v=0:=fun h=>by rw[← hv]; have:=H.out.2; simp[List.getD,List.getElem?_eq_none (show B.length≤k by omega)]
  rcases Nat.lt_or_ge k n with h1 | h1
  ·
   obtain⟨ba,oa',rfl,hba,hca⟩:=fa (by omega)
   have g1:=(hnx.cell (p:=⟨ba,oa'+k,none⟩) hba).trans (hca k (by rw[H.out.1]; omega))
   rw[hu]at g1
   rcases Nat.lt_or_ge k m with h2 | h2
   ·
    obtain⟨bb,ob',rfl,hbb,hcb⟩:=fb (by omega)
    have g2:=(hnx.cell (p:=⟨bb,ob'+k,none⟩) hbb).trans (hcb k (by rw[H.out.2]; omega))
    rw[hv]at g2
    clear hca hcb fa fb hu hv zu zv
    go_wp2_with (at_builtin; refine wpList_app rfl (.tmp 42) (.tmp 45) 28 rfl w.heap.size 130 i0 Tryz.underlying28 hi hz0 hz1 hz2 _ k xs rfl (hown.alloc _) _ [_] rfl (Lim.one (by omega) (by omega)) (by simp; omega) (by rw[World.size_alloc]; omega) ?_)
    intro v' w1 hown1 hg hge
    go_wp2
    go_roundw
    case rel=>
     have S:=plus_step (s:=cv+u+v) HV.out.1 HV.out.2.2 (by rw[HU.out.1,HU.out.2]; omega)
     exact⟨k+1,xs ++ [(cv+u+v)%4294967296],(cv+u+v) / 4294967296,by omega,by go_num,by go_num,by omega,by omega,by rw[List.length_append,HV.out.1]; rfl,lok_snoc HV.out.2.1 (by omega) (by omega),S,hown1,(hnx.alloc Z _).grown hg (by rw[World.size_alloc]; omega) hge⟩
    case measure=>simp[intOf]; omega
   ·
    obtain rfl:=zv h2
    clear hca fa fb hu hv zu zv
    go_wp2_with (at_builtin; refine wpList_app rfl (.tmp 42) (.tmp 45) 28 rfl w.heap.size 130 i0 Tryz.underlying28 hi hz0 hz1 hz2 _ k xs rfl (hown.alloc _) _ [_] rfl (Lim.one (by omega) (by omega)) (by simp; omega) (by rw[World.size_alloc]; omega) ?_)
    intro v' w1 hown1 hg hge
    go_wp2
    go_roundw
    case rel=>
     have S:=plus_step (s:=cv+u) HV.out.1 HV.out.2.2 (by rw[HU.out.1,HU.out.2]; omega)
     exact⟨k+1,xs ++ [(cv+u)%4294967296],(cv+u) / 4294967296,by omega,by go_num,by go_num,by omega,by omega,by rw[List.length_append,HV.out.1]; rfl,lok_snoc HV.out.2.1 (by omega) (by omega),S,hown1,(hnx.alloc Z _).grown hg (by rw[World.size_alloc]; omega) hge⟩
    case measure=>simp[intOf]; omega
  ·
   obtain rfl:=zu h1
   rcases Nat.lt_or_ge k m with h2 | h2
   ·
    obtain⟨bb,ob',rfl,hbb,hcb⟩:=fb (by omega)
    have g2:=(hnx.cell (p:=⟨bb,ob'+k,none⟩) hbb).trans (hcb k (by rw[H.out.2]; omega))
    rw[hv]at g2
    clear hcb fa fb hu hv zu zv
    go_wp2_with (at_builtin; refine wpList_app rfl (.tmp 42) (.tmp 45) 28 rfl w.heap.size 130 i0 Tryz.underlying28 hi hz0 hz1 hz2 _ k xs rfl (hown.alloc _) _ [_] rfl (Lim.one (by omega) (by omega)) (by simp; omega) (by rw[World.size_alloc]; omega) ?_)
    intro v' w1 hown1 hg hge
    go_wp2
    go_roundw
    case rel=>
     have S:=plus_step (s:=cv+v) HV.out.1 HV.out.2.2 (by rw[HU.out.1,HU.out.2]; omega)
     exact⟨k+1,xs ++ [(cv+v)%4294967296],(cv+v) / 4294967296,by omega,by go_num,by go_num,by omega,by omega,by rw[List.length_append,HV.out.1]; rfl,lok_snoc HV.out.2.1 (by omega) (by omega),S,hown1,(hnx.alloc Z _).grown hg (by rw[World.size_alloc]; omega) hge⟩
    case measure=>simp[intOf]; omega
   ·
    clear fa fb hu hv zu zv
    have E:=H.out
    go_wp2_with (at_builtin; refine wpList_app rfl (.tmp 49) (.tmp 52) 28 rfl w.heap.size 130 i0 Tryz.underlying28 hi hz0 hz1 hz2 _ k xs rfl (hown.alloc _) _ [_] rfl (Lim.one (by omega) (by omega)) (by simp; omega) (by rw[World.size_alloc]; omega) ?_)
    intro v' w1 hown1 hg hge
    go_wp2
    go_returns
    refine⟨_,xs ++ [cv],rfl,Lim.own hown1 (lok_snoc HV.out.2.1 (by omega) (by omega)),?_,?_,(hnx.alloc Z _).grown hg (by rw[World.size_alloc]; omega) hge⟩
    ·
     have:=HV.out.2.2
     rw[List.take_of_length_le (by omega),List.take_of_length_le (by omega)]at this
     rw[lval_snoc,HV.out.1]
     exact this
    ·
     rw[List.length_append,HV.out.1]
     show k+1=_
     omega
theorem wrap_u64 {x:Int} (h0:0≤x) (h1:x<18446744073709551616):IntKind.u64.wrap x=x:=by
 rw[IntKind.wrap_u64]; omega
theorem left_step {k:Nat} {A:List Int} {xs:List Int} {c s P:Int} (hl:xs.length=k) (h:lval xs+bp k*c=lval (A.take k)*P) (hs:s=c+A.getD k 0*P) :
  lval (xs ++ [s%4294967296])+bp (k+1)*(s / 4294967296)=lval (A.take (k+1))*P:=by
 rw[lval_snoc,hl,lval_take_succ,Int.add_mul,Int.mul_assoc]
 have e:=bp_split k s
 have e2:bp k*s=bp k*c+bp k*(A.getD k 0*P):=by rw[hs,Int.mul_add]
 omega
theorem rleft {a:Value} {A:List Int} {s:Nat} (w:World) (ha:Lim w a A) (nA:A.length≤few) (hs:s≤31) :
  Calls Tryz.prog 150 #[a,.int .u64 s] w fun e w'=>∃v l,e = .returned v∧Lim w' v l∧lval l=lval A*(2^s:Nat)∧l.length=A.length+1∧w'.ownsRow w.heap.size 130 1 v (A.length+1) (u32s l)∧Steps w w':=by
 obtain⟨i0,hi,hz0,hz1,hz2⟩:=info_parts infoU
 obtain⟨aa,ca,rfl⟩:=ha.shape
 obtain⟨oa,-,la,fa⟩:=ha.cells
 clear ha
 unfold few at nA
 obtain⟨n,hn⟩:∃n,A.length=n:=⟨_,rfl⟩
 have H:Hid (A.length=n):=hn
 rw[hn]at fa la nA
 rw[hn]
 clear hn
 obtain⟨P,hP⟩:∃P,((2^s:Nat):Int)=P:=⟨_,rfl⟩
 have P0:1≤P:=by have:=Nat.one_le_two_pow (n:=s); omega
 have P1:P≤2147483648:=by have:=Nat.pow_le_pow_right (show 0<2 by omega) hs; simp at this; omega
 have HP:Hid (((2^s:Nat):Int)=P):=hP
 clear hP
 go_enter Tryz.func150,Tryz.ntmps150
 go_wp2
 go_loopw [5,6,7] (fun o c i wr=>∃ (k:Nat) (xs:List Int) (cv:Int),k≤n∧i = .int .i64 k∧c = .int .u64 cv∧0≤cv∧cv<P∧xs.length=k∧lok xs∧lval xs+bp k*cv=lval (A.take k)*P∧
   wr.ownsRow w.heap.size 130 1 o k (u32s xs)∧Below w.heap.size w wr) (fun _ _ i _=>(n-(intOf i).toNat))
 case atStart=>exact⟨0,[],0,Nat.zero_le _,rfl,rfl,by omega,by omega,rfl,lok_nil,by simp[lval],World.ownsRow_nil _ _ _ _,Below.refl _ _⟩
 case round=>
  obtain⟨k,xs,cv,hk,rfl,rfl,c0,c1,hl,hok,hv,hown,hnx⟩:=hrel
  have Z:=hnx.size
  have HV:Hid (xs.length=k∧lok xs∧lval xs+bp k*cv=lval (A.take k)*P):=⟨hl,hok,hv⟩
  clear hl hok hv
  rcases Nat.lt_or_ge k n with h1 | h1
  ·
   obtain⟨u,hu⟩:∃u,A.getD k 0=u:=⟨_,rfl⟩
   have u0:=lok_getD oa k
   rw[hu]at u0
   have HU:Hid (A.getD k 0=u):=hu
   obtain⟨ba,oa',rfl,hba,hca⟩:=fa (by omega)
   have g1:=(hnx.cell (p:=⟨ba,oa'+k,none⟩) hba).trans (hca k (by rw[H.out]; omega))
   rw[hu]at g1
   obtain⟨t,ht⟩:∃t,u*P=t:=⟨_,rfl⟩
   have t0:0≤t∧t≤4294967295*P:=by
    rw[← ht]
    exact⟨Int.mul_nonneg u0.1 (by omega),Int.mul_le_mul_of_nonneg_right (by omega) (by omega)⟩
   have hw:IntKind.u64.wrap (u*2^s)=t:=by
    have e:u*2^s=t:=by rw[← ht,← HP.out]; simp
    rw[e,wrap_u64 (by omega) (by omega)]
   have HT:Hid (u*P=t):=ht
   clear hca fa hu ht
   go_wp2_with (at_builtin; refine wpList_app rfl (.tmp 23) (.tmp 26) 28 rfl w.heap.size 130 i0 Tryz.underlying28 hi hz0 hz1 hz2 _ k xs rfl (hown.alloc _) _ [_] rfl (Lim.one (by omega) (by omega)) (by simp; omega) (by rw[World.size_alloc]; omega) ?_)
   intro v' w1 hown1 hg hge
   go_wp2
   go_roundw
   case rel=>
    have S:=left_step (s:=cv+t) HV.out.1 HV.out.2.2 (by rw[HU.out,HT.out])
    exact⟨k+1,xs ++ [(cv+t)%4294967296],(cv+t) / 4294967296,by omega,by go_num,by go_num,by omega,by omega,by rw[List.length_append,HV.out.1]; rfl,lok_snoc HV.out.2.1 (by omega) (by omega),S,hown1,(hnx.alloc Z _).grown hg (by rw[World.size_alloc]; omega) hge⟩
   case measure=>simp[intOf]; omega
  ·
   clear fa
   go_wp2_with (at_builtin; refine wpList_app rfl (.tmp 30) (.tmp 33) 28 rfl w.heap.size 130 i0 Tryz.underlying28 hi hz0 hz1 hz2 _ k xs rfl (hown.alloc _) _ [_] rfl (Lim.one (by omega) (by omega)) (by simp; omega) (by rw[World.size_alloc]; omega) ?_)
   intro v' w1 hown1 hg hge
   go_wp2
   go_returns
   have hkn:k=n:=by omega
   subst hkn
   have hB:Below w.heap.size w w1:=(hnx.alloc Z _).grown hg (by rw[World.size_alloc]; omega) hge
   refine⟨_,xs ++ [cv],rfl,Lim.own hown1 (lok_snoc HV.out.2.1 (by omega) (by omega)),?_,?_,hown1,hB⟩
   ·
    have:=HV.out.2.2
    rw[List.take_of_length_le (by have:=H.out; omega)]at this
    rw[lval_snoc,HV.out.1,HP.out]
    exact this
   · rw[List.length_append,HV.out.1]; rfl
theorem rminus {a b:Value} {A B:List Int} (w:World) (ha:Lim w a A) (hb:Lim w b B) (nA:A.length≤few) (nB:B.length≤A.length) (hle:lval B≤lval A) :
  Calls Tryz.prog 153 #[a,b] w fun e w'=>∃v,e = .returned v∧Lim w' v (limbs (lval A-lval B))∧Steps w w':=by
 obtain⟨i0,hi,hz0,hz1,hz2⟩:=info_parts infoU
 obtain⟨aa,ca,rfl⟩:=ha.shape
 obtain⟨ab,cb,rfl⟩:=hb.shape
 obtain⟨oa,-,la,fa⟩:=ha.cells
 obtain⟨ob,-,lb,fb⟩:=hb.cells
 clear ha hb
 unfold few at nA
 obtain⟨n,hn⟩:∃n,A.length=n:=⟨_,rfl⟩
 obtain⟨m,hm⟩:∃m,B.length=m:=⟨_,rfl⟩
 have H:Hid (A.length=n∧B.length=m∧lval B≤lval A):=⟨hn,hm,hle⟩
 rw[hm,hn]at nB
 rw[hn]at fa la nA
 rw[hm]at fb lb
 rw[hn,hm]
 clear hn hm hle
 go_enter Tryz.func153,Tryz.ntmps153
 go_wp2
 go_loopw [5,6,7,8] (fun o c i t wr=>∃ (k:Nat) (xs:List Int) (cv:Int),k≤n∧i = .int .i64 k∧c = .int .i64 cv∧0≤cv∧cv≤1∧xs.length=k∧lok xs∧lval xs=lval (A.take k)-lval (B.take k)+bp k*cv∧
   wr.ownsRow w.heap.size 130 1 o k (u32s xs)∧Below w.heap.size w wr) (fun _ _ i _ _=>(n-(intOf i).toNat))
 case atStart=>exact⟨0,[],0,Nat.zero_le _,rfl,rfl,by omega,by omega,rfl,lok_nil,by simp[lval],World.ownsRow_nil _ _ _ _,Below.refl _ _⟩
 case round=>
  obtain⟨k,xs,cv,hk,rfl,rfl,c0,c1,hl,hok,hv,hown,hnx⟩:=hrel
  have Z:=hnx.size
  have HV:Hid (xs.length=k∧lok xs∧lval xs=lval (A.take k)-lval (B.take k)+bp k*cv):=⟨hl,hok,hv⟩
  clear hl hok hv
  obtain⟨u,hu⟩:∃u,A.getD k 0=u:=⟨_,rfl⟩
  obtain⟨v,hv⟩:∃v,B.getD k 0=v:=⟨_,rfl⟩
  have u0:=lok_getD oa k
  have v0:=lok_getD ob k
  rw[hu]at u0
  rw[hv]at v0
  have HU:Hid (A.getD k 0=u∧B.getD k 0=v):=⟨hu,hv⟩
  have zv:m≤k→v=0:=fun h=>by rw[← hv]; have:=H.out.2.1; simp[List.getD,List.getElem?_eq_none (show B.length≤k by omega)]
  rcases Nat.lt_or_ge k n with h1 | h1
  ·
   obtain⟨ba,oa',rfl,hba,hca⟩:=fa (by omega)
   have g1:=(hnx.cell (p:=⟨ba,oa'+k,none⟩) hba).trans (hca k (by rw[H.out.1]; omega))
   rw[hu]at g1
   rcases Nat.lt_or_ge k m with h2 | h2
   ·
    obtain⟨bb,ob',rfl,hbb,hcb⟩:=fb (by omega)
    have g2:=(hnx.cell (p:=⟨bb,ob'+k,none⟩) hbb).trans (hcb k (by rw[H.out.2.1]; omega))
    rw[hv]at g2
    clear hca hcb fa fb hu hv zv
    rcases Int.lt_or_le (u-cv-v) 0 with ht | ht
    ·
     go_wp2_with (at_builtin; refine wpList_app rfl (.tmp 37) (.tmp 40) 28 rfl w.heap.size 130 i0 Tryz.underlying28 hi hz0 hz1 hz2 _ k xs rfl (hown.alloc _) _ [_] rfl (Lim.one (by omega) (by omega)) (by simp; omega) (by rw[World.size_alloc]; omega) ?_)
     intro v' w1 hown1 hg hge
     go_wp2
     go_roundw
     case rel=>
      have S:=minus_step (t:=u-cv-v) (x:=u-cv-v+4294967296) (c':=1) HV.out.1 HV.out.2.2 (by rw[HU.out.1,HU.out.2]; omega) (by omega)
      have hx:(u-cv-v+4294967296)%4294967296=u-cv-v+4294967296:=by omega
      exact⟨k+1,xs ++ [u-cv-v+4294967296],1,by omega,by go_num,by go_num,by omega,by omega,by rw[List.length_append,HV.out.1]; rfl,lok_snoc HV.out.2.1 (by omega) (by omega),S,by first | exact hown1 | (rw[hx]at hown1; exact hown1),(hnx.alloc Z _).grown hg (by rw[World.size_alloc]; omega) hge⟩
     case measure=>simp[intOf]; omega
    ·
     go_wp2_with (at_builtin; refine wpList_app rfl (.tmp 37) (.tmp 40) 28 rfl w.heap.size 130 i0 Tryz.underlying28 hi hz0 hz1 hz2 _ k xs rfl (hown.alloc _) _ [_] rfl (Lim.one (by omega) (by omega)) (by simp; omega) (by rw[World.size_alloc]; omega) ?_)
     intro v' w1 hown1 hg hge
     go_wp2
     go_roundw
     case rel=>
      have S:=minus_step (t:=u-cv-v) (x:=u-cv-v) (c':=0) HV.out.1 HV.out.2.2 (by rw[HU.out.1,HU.out.2]; omega) (by omega)
      have hx:(u-cv-v)%4294967296=u-cv-v:=by omega
      exact⟨k+1,xs ++ [u-cv-v],0,by omega,by go_num,by go_num,by omega,by omega,by rw[List.length_append,HV.out.1]; rfl,lok_snoc HV.out.2.1 (by omega) (by omega),S,by first | exact hown1 | (rw[hx]at hown1; exact hown1),(hnx.alloc Z _).grown hg (by rw[World.size_alloc]; omega) hge⟩
     case measure=>simp[intOf]; omega
   ·
    obtain rfl:=zv h2
    clear hca fa fb hu hv zv
    rcases Int.lt_or_le (u-cv) 0 with ht | ht
    ·
     go_wp2_with (at_builtin; refine wpList_app rfl (.tmp 37) (.tmp 40) 28 rfl w.heap.size 130 i0 Tryz.underlying28 hi hz0 hz1 hz2 _ k xs rfl (hown.alloc _) _ [_] rfl (Lim.one (by omega) (by omega)) (by simp; omega) (by rw[World.size_alloc]; omega) ?_)
     intro v' w1 hown1 hg hge
     go_wp2
     go_roundw
     case rel=>
      have S:=minus_step (t:=u-cv) (x:=u-cv+4294967296) (c':=1) HV.out.1 HV.out.2.2 (by rw[HU.out.1,HU.out.2]; omega) (by omega)
      have hx:(u-cv+4294967296)%4294967296=u-cv+4294967296:=by omega
      exact⟨k+1,xs ++ [u-cv+4294967296],1,by omega,by go_num,by go_num,by omega,by omega,by rw[List.length_append,HV.out.1]; rfl,lok_snoc HV.out.2.1 (by omega) (by omega),S,by first | exact hown1 | (rw[hx]at hown1; exact hown1),(hnx.alloc Z _).grown hg (by rw[World.size_alloc]; omega) hge⟩
     case measure=>simp[intOf]; omega
    ·
     go_wp2_with (at_builtin; refine wpList_app rfl (.tmp 37) (.tmp 40) 28 rfl w.heap.size 130 i0 Tryz.underlying28 hi hz0 hz1 hz2 _ k xs rfl (hown.alloc _) _ [_] rfl (Lim.one (by omega) (by omega)) (by simp; omega) (by rw[World.size_alloc]; omega) ?_)
     intro v' w1 hown1 hg hge
     go_wp2
     go_roundw
     case rel=>
      have S:=minus_step (t:=u-cv) (x:=u-cv) (c':=0) HV.out.1 HV.out.2.2 (by rw[HU.out.1,HU.out.2]; omega) (by omega)
      have hx:(u-cv)%4294967296=u-cv:=by omega
      exact⟨k+1,xs ++ [u-cv],0,by omega,by go_num,by go_num,by omega,by omega,by rw[List.length_append,HV.out.1]; rfl,lok_snoc HV.out.2.1 (by omega) (by omega),S,by first | exact hown1 | (rw[hx]at hown1; exact hown1),(hnx.alloc Z _).grown hg (by rw[World.size_alloc]; omega) hge⟩
     case measure=>simp[intOf]; omega
  ·
   clear fa fb hu hv zv
   have hkn:k=n:=by omega
   subst hkn
   have e1:=HV.out.2.2
   have e2:=lval_lt HV.out.2.1
   have e4:=lval_nonneg HV.out.2.1
   have e3:=bp_pos k
   rw[List.take_of_length_le (by have:=H.out; omega),List.take_of_length_le (by have:=H.out; omega)]at e1
   rw[HV.out.1]at e2
   have hc0:cv=0:=by
    rcases(show cv=0∨cv=1 by omega)with h | h
    · exact h
    · subst h; have:=H.out.2.2; omega
   subst hc0
   rw[Int.mul_zero,Int.add_zero]at e1
   have L:=Hid.mk_ (limbs_lval HV.out.2.1)
   have L1:=Lim.own hown HV.out.2.1
   have E1:=Hid.mk_ e1
   have lx:=HV.out.1
   have lx':xs.length≤few:=by unfold few; omega
   clear e1 e2 e3 e4 lx
   go_wp2_with (go_at_call 127; refine(rtrim _ L1 lx').mono ?_; rintro e w2 ⟨v2,rfl,hv2,hs2⟩)
   go_returns
   exact⟨_,rfl,by rw[← E1.out,L.out]; exact hv2,below_steps hnx (Nat.le_refl _) hs2⟩
end Go.Proofs.YtdkcffnmlllamaaGreat
