import Derived.Test.YtdkcffnmlllamaaGreatMNe
import Derived.Deep.RegionWith
set_option linter.unusedVariables false
set_option linter.unusedSimpArgs false
set_option maxHeartbeats 6400000
set_option maxRecDepth 1000000
namespace Go.Proofs.YtdkcffnmlllamaaGreat
open Go.RowKit
def divF (x y:Int):Int:=Int.fdiv x y
def modF (x y:Int):Int:=x-y*divF x y
theorem divF_of {x y q r:Int} (h:x=y*q+r) (hr:(0≤r∧r<y)∨(y<r∧r≤0)):divF x y=q∧modF x y=r:=by
 have e:divF x y=q:=by
  unfold divF
  rcases hr with⟨h0,h1⟩ | ⟨h0,h1⟩
  ·
   rw[Int.fdiv_eq_ediv_of_nonneg x (by omega)]
   exact(quot_of h h0 h1).1
  ·
   rw[← Int.neg_fdiv_neg,Int.fdiv_eq_ediv_of_nonneg (-x) (show 0≤-y by omega)]
   exact(quot_of (r:= -r) (by rw[h,Int.neg_add,Int.neg_mul]) (by omega) (by omega)).1
 exact⟨e,by unfold modF; rw[e]; omega⟩
theorem div_same {g:Bool} {x y:Int} (gx:decide (x<0)=g) (gy:decide (y<0)=g) (h:y≠0):divF x y=zv false (absN x / absN y)∧modF x y=zv g (absN x%absN y):=by
 have hy:0<absN y:=by unfold absN; omega
 have e:=Int.mul_ediv_add_emod (absN x) (absN y)
 have m0:=Int.emod_nonneg (absN x) (show absN y≠0 by omega)
 have m1:=Int.emod_lt_of_pos (absN x) hy
 have X:=absN_cases x
 have Y:=absN_cases y
 cases g
 ·
  simp at gx gy
  have e1:absN y*(absN x / absN y)=y*(absN x / absN y):=congrArg (· * (absN x / absN y)) (show absN y=y by omega)
  refine divF_of ?_ (Or.inl ⟨?_,?_⟩)
  all_goals simp only[zv,Bool.false_eq_true,if_false]; omega
 ·
  simp at gx gy
  have e1:absN y*(absN x / absN y) = -(y*(absN x / absN y)):=(congrArg (· * (absN x / absN y)) (show absN y = -y by omega)).trans (Int.neg_mul _ _)
  refine divF_of ?_ (Or.inr ⟨?_,?_⟩)
  all_goals simp only[zv,Bool.false_eq_true,if_false,if_true]; omega
theorem div_diff {gx gy:Bool} {x y:Int} (hx:decide (x<0)=gx) (hy:decide (y<0)=gy) (hg:gx≠gy) (h:y≠0) :
  (absN x%absN y=0→divF x y=zv true (absN x / absN y)∧modF x y=zv gx (absN x%absN y))∧
  (0<absN x%absN y→divF x y=zv true (absN x / absN y) + -1∧modF x y=zv gx (absN x%absN y)+y):=by
 have hy0:0<absN y:=by unfold absN; omega
 have e:=Int.mul_ediv_add_emod (absN x) (absN y)
 have m0:=Int.emod_nonneg (absN x) (show absN y≠0 by omega)
 have m1:=Int.emod_lt_of_pos (absN x) hy0
 have X:=absN_cases x
 have Y:=absN_cases y
 have e1:y<0→absN y*(absN x / absN y) = -(y*(absN x / absN y)):=fun g=>(congrArg (· * (absN x / absN y)) (show absN y = -y by omega)).trans (Int.neg_mul _ _)
 have e2:0≤y→absN y*(absN x / absN y)=y*(absN x / absN y):=fun g=>congrArg (· * (absN x / absN y)) (show absN y=y by omega)
 have e3:y * -(absN x / absN y) = -(y*(absN x / absN y)):=Int.mul_neg _ _
 have e4:y*(-(absN x / absN y) + -1) = -(y*(absN x / absN y))-y:=by rw[Int.mul_add,Int.mul_neg]; omega
 cases gx<;>cases gy
 · exact absurd rfl hg
 ·
  simp at hx hy
  refine⟨fun hz=>divF_of ?_ (Or.inr ⟨?_,?_⟩),fun hz=>divF_of ?_ (Or.inr ⟨?_,?_⟩)⟩
  all_goals simp only[zv,Bool.false_eq_true,if_false,if_true]; omega
 ·
  simp at hx hy
  refine⟨fun hz=>divF_of ?_ (Or.inl ⟨?_,?_⟩),fun hz=>divF_of ?_ (Or.inl ⟨?_,?_⟩)⟩
  all_goals simp only[zv,Bool.false_eq_true,if_false,if_true]; omega
 · exact absurd rfl hg
theorem fits_le {z x:Int} (h:absN z≤absN x) (hx:fits x):fits z:=Nat.le_trans (limbs_le (absN_nonneg z) h) hx
theorem div_fits {x y:Int} (h:y≠0):absN (divF x y)≤absN x∧absN (modF x y)≤absN y∧absN x / absN y≤absN x∧absN x%absN y≤absN y:=by
 have hy0:0<absN y:=by unfold absN; omega
 have e:=Int.mul_ediv_add_emod (absN x) (absN y)
 have m0:=Int.emod_nonneg (absN x) (show absN y≠0 by omega)
 have m1:=Int.emod_lt_of_pos (absN x) hy0
 have q0:0≤absN x / absN y:=Int.ediv_nonneg (absN_nonneg x) (by omega)
 have l1:=Int.mul_le_mul_of_nonneg_right (show 1≤absN y by omega) q0
 have Y:=absN_cases y
 obtain⟨gx,hx⟩:∃b,decide (x<0)=b:=⟨_,rfl⟩
 obtain⟨gy,hy⟩:∃b,decide (y<0)=b:=⟨_,rfl⟩
 have za:∀ (g:Bool) {m:Int},0≤m→absN (zv g m)=m:=fun g m h=>absN_zv g h
 refine⟨?_,?_,by omega,by omega⟩
 all_goals
  by_cases hs:gx=gy
  ·
   subst hs
   have S:=div_same hx hy h
   first
    | (rw[S.1,za _ q0]; omega)
    | (rw[S.2,za _ m0]; omega)
  ·
   have D:=div_diff hx hy hs h
   rcases Int.lt_or_le 0 (absN x%absN y)with hr | hr
   ·
    have D':=D.2 hr
    have l2:=Int.mul_le_mul_of_nonneg_right (show 2≤absN y by omega) q0
    first
     | (rw[D'.1]; simp only[zv,if_true]; unfold absN at *; omega)
     | (rw[D'.2]; cases gx<;>cases gy<;>first | exact absurd rfl hs | (simp at hx hy; simp only[zv,if_true,Bool.false_eq_true,if_false]; unfold absN at *; omega))
   ·
    have D':=D.1 (by omega)
    first
     | (rw[D'.1,za _ q0]; omega)
     | (rw[D'.2,za _ m0]; omega)
theorem rdivmod_same {va vb:Value} {x y:Int} (w:World) (ha:Num w va x) (hb:Num w vb y) (fx:fits x) (fy:fits y) (hy:y≠0) (hss:(decide (x<0)=decide (y<0))=True) :
  Calls Tryz.prog 91 #[va,vb] w fun e w'=>∃q r,e = .returned (.tuple #[q,r,.int .i64 0])∧Num w' q (divF x y)∧Num w' r (modF x y)∧Steps w w':=by
 have bo:∀w',Steps w w'→Calls Tryz.prog 118 #[va,vb] w' fun e w2=>e = .returned (.int .i64 0)∧Steps w' w2:=fun w' h=>rboth_ok w' (ha.steps h) (hb.steps h) fx fy
 have F:=div_fits (x:=x) hy
 have fq:fits (divF x y):=fits_le F.1 fx
 have fr':fits (modF x y):=fits_le F.2.1 fy
 have hy0:0<absN y:=by unfold absN; omega
 have q0:0≤absN x / absN y:=Int.ediv_nonneg (absN_nonneg x) (by omega)
 have m0:=Int.emod_nonneg (absN x) (show absN y≠0 by omega)
 have mkq:∀ (d:Bool) (s:Value) (w':World),Lim w' s (limbs (absN x / absN y))→Calls Tryz.prog 97 #[.bool d,s] w' fun e w2=>∃v,e = .returned (.tuple #[v,.int .i64 0])∧Num w2 v (zv d (absN x / absN y))∧Steps w' w2:=fun d s w' h=>by
  have fz:fits (zv d (absN x / absN y)):=fits_le (by rw[absN_zv d q0]; exact F.2.2.1) fx
  have:=rmadeN d w' h (by have:=limbs_le q0 F.2.2.1; unfold fits at fx; unfold few; omega)
  rw[lval_limbs q0,errN_fits fz,clipN_fits fz]at this
  exact this
 have mkr:∀ (d:Bool) (s:Value) (w':World),Lim w' s (limbs (absN x%absN y))→Calls Tryz.prog 97 #[.bool d,s] w' fun e w2=>∃v,e = .returned (.tuple #[v,.int .i64 0])∧Num w2 v (zv d (absN x%absN y))∧Steps w' w2:=fun d s w' h=>by
  have fz:fits (zv d (absN x%absN y)):=fits_le (by rw[absN_zv d m0]; exact F.2.2.2) fy
  have:=rmadeN d w' h (by have:=limbs_le m0 F.2.2.2; unfold fits at fy; unfold few; omega)
  rw[lval_limbs m0,errN_fits fz,clipN_fits fz]at this
  exact this
 have fzq:∀d,fits (zv d (absN x / absN y)):=fun d=>fits_le (by rw[absN_zv d q0]; exact F.2.2.1) fx
 have fzr:∀d,fits (zv d (absN x%absN y)):=fun d=>fits_le (by rw[absN_zv d m0]; exact F.2.2.2) fy
 have nb':Num w vb y:=hb
 obtain⟨aa,ca,rfl,pa⟩:=ha.parts
 obtain⟨ab,cb,rfl,pb⟩:=hb.parts
 have ov:∀w',Steps w w'→Calls Tryz.prog 124 #[.slice aa (limbs (absN x)).length ca,.slice ab (limbs (absN y)).length cb] w' fun e w2=>∃q r,e = .returned (.tuple #[q,r])∧Lim w2 q (limbs (absN x / absN y))∧Lim w2 r (limbs (absN x%absN y))∧Steps w' w2:=fun w' h=>
  rover w' (pa.steps h) (pb.steps h) (absN_nonneg x) (by omega) (by unfold fits at fx; unfold few; omega) (by unfold fits at fy; unfold few; omega)
 have m1:0<(limbs (absN y)).length:=List.length_pos_iff.2 (fun e=>by have:=(limbs_nil (absN_nonneg y)).1 e; omega)
 obtain⟨n,hn⟩:∃n,(limbs (absN x)).length=n:=⟨_,rfl⟩
 obtain⟨m,hm⟩:∃m,(limbs (absN y)).length=m:=⟨_,rfl⟩
 rw[hn]at bo ov⊢
 rw[hm]at bo ov nb' m1⊢
 obtain⟨gx,hgx⟩:∃b,decide (x<0)=b:=⟨_,rfl⟩
 obtain⟨gy,hgy⟩:∃b,decide (y<0)=b:=⟨_,rfl⟩
 rw[hgy]at nb'
 rw[hgx,hgy]at bo hss⊢
 have HG:=Hid.mk_ (And.intro hgx hgy)
 have HY:=Hid.mk_ hy
 have HFQ:=Hid.mk_ (And.intro fq fr')
 have HZ:=Hid.mk_ (And.intro fzq fzr)
 have HYF:=Hid.mk_ fy
 obtain⟨ln,hln⟩:∃l,(limbs (absN x%absN y)).length=l:=⟨_,rfl⟩
 have lz:(ln=0↔absN x%absN y=0):=by
  rw[← hln,List.length_eq_zero_iff]; exact limbs_nil m0
 have HLN:=Hid.mk_ (And.intro hln (And.intro lz m0))
 clear ha hb hn hm hgx hgy fx fy fq fr' F q0 m0 fzq fzr hy hln lz hy0
 have hs:gx=gy:=by rw[hss]; trivial
 subst hs
 clear hss
 go_enter Tryz.func91,Tryz.ntmps91
 go_wp2_with fail
 refine(bo _ belowB).mono ?_
 rintro e w1 ⟨rfl,st⟩
 have Bn:=bA w st
 have oa:Blk w1 (w.heap.size) 30 #[.bool gx,.slice aa n ca]:=Blk.stepsA st
 have ob:Blk w1 (w.heap.size+1) 30 #[.bool gx,.slice ab m cb]:=Blk.stepsA st
 have or:Blk w1 (w.heap.size+1+1) 30 #[.bool false,.slice none 0 0]:=Blk.stepsA st
 have ot:Blk w1 (w.heap.size+1+1+1) 30 #[.bool false,.slice none 0 0]:=Blk.stepsA st
 clear st
 have B:=Bn
 clear Bn
 obtain⟨ca0,ca1,fa,la⟩:=oa.s1
 obtain⟨cb0,cb1,fb,lb⟩:=ob.s1
 obtain⟨cr0,cr1,fr,lr⟩:=or.s1
 obtain⟨ct0,ct1,ft,lt⟩:=ot.s1
 clear bo
 go_wp2_with fail
 refine(ov _ B).mono ?_
 rintro e w2 ⟨sq,sr,rfl,hq,hr,st⟩
 have Bn:=bA w st
 have na:=oa.stq st
 have nb:=ob.stq st
 have nr:=or.stq st
 have nt:=ot.stq st
 clear B oa ob or ot ca0 ca1 fa la cb0 cb1 fb lb cr0 cr1 fr lr ct0 ct1 ft lt
 clear st
 have B:=Bn
 clear Bn
 have oa:=na
 clear na
 obtain⟨ca0,ca1,fa,la⟩:=oa.s1
 have ob:=nb
 clear nb
 obtain⟨cb0,cb1,fb,lb⟩:=ob.s1
 have or:=nr
 clear nr
 obtain⟨cr0,cr1,fr,lr⟩:=or.s1
 have ot:=nt
 clear nt
 obtain⟨ct0,ct1,ft,lt⟩:=ot.s1
 clear ov
 obtain⟨ar,cr',hsr⟩:=hr.shape
 rw[HLN.out.1]at hsr
 subst hsr
 have HQ:=Hid.mk_ hq
 have HR:=Hid.mk_ hr
 clear hq hr
 go_wp2_with fail
 refine(mkq false _ _ HQ.out).mono ?_
 rintro e w3 ⟨vq,rfl,hnq,hb3⟩
 have st:Steps _ w3:=hb3
 have Bn:=bA w st
 have na:=oa.stq st
 have nb:=ob.stq st
 have nr:=or.stq st
 have nt:=ot.stq st
 clear B oa ob or ot ca0 ca1 fa la cb0 cb1 fb lb cr0 cr1 fr lr ct0 ct1 ft lt
 clear st
 have B:=Bn
 clear Bn
 have oa:=na
 clear na
 obtain⟨ca0,ca1,fa,la⟩:=oa.s1
 have ob:=nb
 clear nb
 obtain⟨cb0,cb1,fb,lb⟩:=ob.s1
 have or:=nr
 clear nr
 obtain⟨cr0,cr1,fr,lr⟩:=or.s1
 have ot:=nt
 clear nt
 obtain⟨ct0,ct1,ft,lt⟩:=ot.s1
 clear mkq
 have HT3:=Hid.mk_ ot.lt
 have HR3:=Hid.mk_ (HR.out.steps hb3)
 obtain⟨bq,aq,nq',cq,rfl⟩:=hnq.shape
 have NQ:=Hid.mk_ hnq
 clear hnq HQ HR
 go_wp2_with fail
 refine(mkr gx _ _ (HR3.out.steps belowB)).mono ?_
 rintro e w4 ⟨vr,rfl,hnr,hb4⟩
 have st:Steps _ w4:=hb4
 have Bn:=bA w st
 have na:=oa.stq st
 have nb:=ob.stq st
 have nr:=or.stq st
 have nt:=ot.stq st
 have oq:Blk w4 (w3.heap.size) 30 #[.bool bq,.slice aq nq' cq]:=Blk.stepsA st
 clear B oa ob or ot ca0 ca1 fa la cb0 cb1 fb lb cr0 cr1 fr lr ct0 ct1 ft lt
 clear st
 have B:=Bn
 clear Bn
 have oa:=na
 clear na
 obtain⟨ca0,ca1,fa,la⟩:=oa.s1
 have ob:=nb
 clear nb
 obtain⟨cb0,cb1,fb,lb⟩:=ob.s1
 have or:=nr
 clear nr
 obtain⟨cr0,cr1,fr,lr⟩:=or.s1
 have ot:=nt
 clear nt
 obtain⟨ct0,ct1,ft,lt⟩:=ot.s1
 obtain⟨cq0,cq1,fq,lq⟩:=oq.s1
 clear mkr
 obtain⟨br,ar',nr',cr'',rfl⟩:=hnr.shape
 have NR:=Hid.mk_ hnr
 have NQ4:=Hid.mk_ ((NQ.out.steps belowB).steps hb4)
 clear hnr NQ HR3
 have HQS:=Hid.mk_ (And.intro (show w.heap.size+1+1+1<w3.heap.size from HT3.out) oq.lt)
 have S:=Hid.mk_ (div_same HG.out.1 HG.out.2 HY.out)
 go_wp2_with fail
 all_goals go_region
 all_goals go_wp2
 all_goals refine bodyPost_ret (by simp[results,Tryz.results91,go_sem,ca0,ca1,fa,la,cb0,cb1,fb,lb,cr0,cr1,fr,lr,ct0,ct1,ft,lt,cq0,cq1,fq,lq]; rfl) rfl ?_
 all_goals refine⟨_,_,rfl,?_,?_,belowB⟩
 all_goals (try (rw[(S.out.1)]; exact Num.drew_ (Num.alloc_ ((NQ4.out.put2 or).put2 ((ot.far' (by omega)).far' (by omega))) _)))
 all_goals (try (rw[(S.out.2)]; exact Num.drew_ (Num.alloc_ ((NR.out.put2 or).put2 ((ot.far' (by omega)).far' (by omega))) _)))
theorem rdivmod_diff {va vb:Value} {x y:Int} (w:World) (ha:Num w va x) (hb:Num w vb y) (fx:fits x) (fy:fits y) (hy:y≠0) (hss:(decide (x<0)=decide (y<0))=False) :
  Calls Tryz.prog 91 #[va,vb] w fun e w'=>∃q r,e = .returned (.tuple #[q,r,.int .i64 0])∧Num w' q (divF x y)∧Num w' r (modF x y)∧Steps w w':=by
 have bo:∀w',Steps w w'→Calls Tryz.prog 118 #[va,vb] w' fun e w2=>e = .returned (.int .i64 0)∧Steps w' w2:=fun w' h=>rboth_ok w' (ha.steps h) (hb.steps h) fx fy
 have F:=div_fits (x:=x) hy
 have fq:fits (divF x y):=fits_le F.1 fx
 have fr':fits (modF x y):=fits_le F.2.1 fy
 have hy0:0<absN y:=by unfold absN; omega
 have q0:0≤absN x / absN y:=Int.ediv_nonneg (absN_nonneg x) (by omega)
 have m0:=Int.emod_nonneg (absN x) (show absN y≠0 by omega)
 have mkq:∀ (d:Bool) (s:Value) (w':World),Lim w' s (limbs (absN x / absN y))→Calls Tryz.prog 97 #[.bool d,s] w' fun e w2=>∃v,e = .returned (.tuple #[v,.int .i64 0])∧Num w2 v (zv d (absN x / absN y))∧Steps w' w2:=fun d s w' h=>by
  have fz:fits (zv d (absN x / absN y)):=fits_le (by rw[absN_zv d q0]; exact F.2.2.1) fx
  have:=rmadeN d w' h (by have:=limbs_le q0 F.2.2.1; unfold fits at fx; unfold few; omega)
  rw[lval_limbs q0,errN_fits fz,clipN_fits fz]at this
  exact this
 have mkr:∀ (d:Bool) (s:Value) (w':World),Lim w' s (limbs (absN x%absN y))→Calls Tryz.prog 97 #[.bool d,s] w' fun e w2=>∃v,e = .returned (.tuple #[v,.int .i64 0])∧Num w2 v (zv d (absN x%absN y))∧Steps w' w2:=fun d s w' h=>by
  have fz:fits (zv d (absN x%absN y)):=fits_le (by rw[absN_zv d m0]; exact F.2.2.2) fy
  have:=rmadeN d w' h (by have:=limbs_le m0 F.2.2.2; unfold fits at fy; unfold few; omega)
  rw[lval_limbs m0,errN_fits fz,clipN_fits fz]at this
  exact this
 have fzq:∀d,fits (zv d (absN x / absN y)):=fun d=>fits_le (by rw[absN_zv d q0]; exact F.2.2.1) fx
 have fzr:∀d,fits (zv d (absN x%absN y)):=fun d=>fits_le (by rw[absN_zv d m0]; exact F.2.2.2) fy
 have nb':Num w vb y:=hb
 obtain⟨aa,ca,rfl,pa⟩:=ha.parts
 obtain⟨ab,cb,rfl,pb⟩:=hb.parts
 have ov:∀w',Steps w w'→Calls Tryz.prog 124 #[.slice aa (limbs (absN x)).length ca,.slice ab (limbs (absN y)).length cb] w' fun e w2=>∃q r,e = .returned (.tuple #[q,r])∧Lim w2 q (limbs (absN x / absN y))∧Lim w2 r (limbs (absN x%absN y))∧Steps w' w2:=fun w' h=>
  rover w' (pa.steps h) (pb.steps h) (absN_nonneg x) (by omega) (by unfold fits at fx; unfold few; omega) (by unfold fits at fy; unfold few; omega)
 have m1:0<(limbs (absN y)).length:=List.length_pos_iff.2 (fun e=>by have:=(limbs_nil (absN_nonneg y)).1 e; omega)
 obtain⟨n,hn⟩:∃n,(limbs (absN x)).length=n:=⟨_,rfl⟩
 obtain⟨m,hm⟩:∃m,(limbs (absN y)).length=m:=⟨_,rfl⟩
 rw[hn]at bo ov⊢
 rw[hm]at bo ov nb' m1⊢
 obtain⟨gx,hgx⟩:∃b,decide (x<0)=b:=⟨_,rfl⟩
 obtain⟨gy,hgy⟩:∃b,decide (y<0)=b:=⟨_,rfl⟩
 rw[hgy]at nb'
 rw[hgx,hgy]at bo hss⊢
 have HG:=Hid.mk_ (And.intro hgx hgy)
 have HY:=Hid.mk_ hy
 have HFQ:=Hid.mk_ (And.intro fq fr')
 have HZ:=Hid.mk_ (And.intro fzq fzr)
 have HYF:=Hid.mk_ fy
 obtain⟨ln,hln⟩:∃l,(limbs (absN x%absN y)).length=l:=⟨_,rfl⟩
 have lz:(ln=0↔absN x%absN y=0):=by
  rw[← hln,List.length_eq_zero_iff]; exact limbs_nil m0
 have HLN:=Hid.mk_ (And.intro hln (And.intro lz m0))
 clear ha hb hn hm hgx hgy fx fy fq fr' F q0 m0 fzq fzr hy hln lz hy0
 have hs:¬gx=gy:=by rw[hss]; exact id
 have hgd:(gx==gy)=false:=by simp[hs]
 have D:=Hid.mk_ (div_diff HG.out.1 HG.out.2 hs HY.out)
 clear hss hs
 go_enter Tryz.func91,Tryz.ntmps91
 go_wp2_with fail
 refine(bo _ belowB).mono ?_
 rintro e w1 ⟨rfl,st⟩
 have Bn:=bA w st
 have oa:Blk w1 (w.heap.size) 30 #[.bool gx,.slice aa n ca]:=Blk.stepsA st
 have ob:Blk w1 (w.heap.size+1) 30 #[.bool gy,.slice ab m cb]:=Blk.stepsA st
 have or:Blk w1 (w.heap.size+1+1) 30 #[.bool false,.slice none 0 0]:=Blk.stepsA st
 have ot:Blk w1 (w.heap.size+1+1+1) 30 #[.bool false,.slice none 0 0]:=Blk.stepsA st
 clear st
 have B:=Bn
 clear Bn
 obtain⟨ca0,ca1,fa,la⟩:=oa.s1
 obtain⟨cb0,cb1,fb,lb⟩:=ob.s1
 obtain⟨cr0,cr1,fr,lr⟩:=or.s1
 obtain⟨ct0,ct1,ft,lt⟩:=ot.s1
 clear bo
 go_wp2_with fail
 refine(ov _ B).mono ?_
 rintro e w2 ⟨sq,sr,rfl,hq,hr,st⟩
 have Bn:=bA w st
 have na:=oa.stq st
 have nb:=ob.stq st
 have nr:=or.stq st
 have nt:=ot.stq st
 clear B oa ob or ot ca0 ca1 fa la cb0 cb1 fb lb cr0 cr1 fr lr ct0 ct1 ft lt
 clear st
 have B:=Bn
 clear Bn
 have oa:=na
 clear na
 obtain⟨ca0,ca1,fa,la⟩:=oa.s1
 have ob:=nb
 clear nb
 obtain⟨cb0,cb1,fb,lb⟩:=ob.s1
 have or:=nr
 clear nr
 obtain⟨cr0,cr1,fr,lr⟩:=or.s1
 have ot:=nt
 clear nt
 obtain⟨ct0,ct1,ft,lt⟩:=ot.s1
 clear ov
 obtain⟨ar,cr',hsr⟩:=hr.shape
 rw[HLN.out.1]at hsr
 subst hsr
 have HQ:=Hid.mk_ hq
 have HR:=Hid.mk_ hr
 clear hq hr
 go_wp2_with fail
 refine(mkq true _ _ HQ.out).mono ?_
 rintro e w3 ⟨vq,rfl,hnq,hb3⟩
 have st:Steps _ w3:=hb3
 have Bn:=bA w st
 have na:=oa.stq st
 have nb:=ob.stq st
 have nr:=or.stq st
 have nt:=ot.stq st
 clear B oa ob or ot ca0 ca1 fa la cb0 cb1 fb lb cr0 cr1 fr lr ct0 ct1 ft lt
 clear st
 have B:=Bn
 clear Bn
 have oa:=na
 clear na
 obtain⟨ca0,ca1,fa,la⟩:=oa.s1
 have ob:=nb
 clear nb
 obtain⟨cb0,cb1,fb,lb⟩:=ob.s1
 have or:=nr
 clear nr
 obtain⟨cr0,cr1,fr,lr⟩:=or.s1
 have ot:=nt
 clear nt
 obtain⟨ct0,ct1,ft,lt⟩:=ot.s1
 clear mkq
 have HT3:=Hid.mk_ ot.lt
 have HR3:=Hid.mk_ (HR.out.steps hb3)
 obtain⟨bq,aq,nq',cq,rfl⟩:=hnq.shape
 have NQ:=Hid.mk_ hnq
 clear hnq HQ HR
 go_wp2_with fail
 refine(mkr gx _ _ (HR3.out.steps belowB)).mono ?_
 rintro e w4 ⟨vr,rfl,hnr,hb4⟩
 have st:Steps _ w4:=hb4
 have Bn:=bA w st
 have na:=oa.stq st
 have nb:=ob.stq st
 have nr:=or.stq st
 have nt:=ot.stq st
 have oq:Blk w4 (w3.heap.size) 30 #[.bool bq,.slice aq nq' cq]:=Blk.stepsA st
 clear B oa ob or ot ca0 ca1 fa la cb0 cb1 fb lb cr0 cr1 fr lr ct0 ct1 ft lt
 clear st
 have B:=Bn
 clear Bn
 have oa:=na
 clear na
 obtain⟨ca0,ca1,fa,la⟩:=oa.s1
 have ob:=nb
 clear nb
 obtain⟨cb0,cb1,fb,lb⟩:=ob.s1
 have or:=nr
 clear nr
 obtain⟨cr0,cr1,fr,lr⟩:=or.s1
 have ot:=nt
 clear nt
 obtain⟨ct0,ct1,ft,lt⟩:=ot.s1
 obtain⟨cq0,cq1,fq,lq⟩:=oq.s1
 clear mkr
 obtain⟨br,ar',nr',cr'',rfl⟩:=hnr.shape
 have NR:=Hid.mk_ hnr
 have NQ4:=Hid.mk_ ((NQ.out.steps belowB).steps hb4)
 clear hnr NQ HR3
 have HQS:=Hid.mk_ (And.intro (show w.heap.size+1+1+1<w3.heap.size from HT3.out) oq.lt)
 rcases Nat.eq_zero_or_pos ln with h0 | h0
 ·
  have E:=Hid.mk_ (D.out.1 (HLN.out.2.1.1 h0))
  subst h0
  go_wp2_with fail
  all_goals go_region
  all_goals go_wp2
  all_goals refine bodyPost_ret (by simp[results,Tryz.results91,go_sem,ca0,ca1,fa,la,cb0,cb1,fb,lb,cr0,cr1,fr,lr,ct0,ct1,ft,lt,cq0,cq1,fq,lq]; rfl) rfl ?_
  all_goals refine⟨_,_,rfl,?_,?_,belowB⟩
  all_goals (try (rw[(E.out.1)]; exact Num.drew_ (Num.alloc_ ((NQ4.out.put2 or).put2 ((ot.far' (by omega)).far' (by omega))) _)))
  all_goals (try (rw[(E.out.2)]; exact Num.drew_ (Num.alloc_ ((NR.out.put2 or).put2 ((ot.far' (by omega)).far' (by omega))) _)))
 ·
  have E:=Hid.mk_ (D.out.2 (by have:=HLN.out.2.1; have:=HLN.out.2.2; omega))
  go_wp2_with fail
  have NB:=Hid.mk_ (nb'.steps B)
  have hqs:w3.heap.size<w4.heap.size:=HQS.out.2
  have ht3:w.heap.size+1+1+1<w3.heap.size:=HQS.out.1
  have n1:¬w4.heap.size=w3.heap.size:=by omega
  have n2:¬w.heap.size=w3.heap.size:=by omega
  have n3:¬w.heap.size+1=w3.heap.size:=by omega
  have n4:¬w3.heap.size=w4.heap.size:=by omega
  have n5:¬w3.heap.size=w.heap.size:=by omega
  have n6:¬w3.heap.size=w.heap.size+1:=by omega
  have eq0:errN (zv true (absN x / absN y) + -1)=0:=errN_fits (by rw[← E.out.1]; exact HFQ.out.1)
  have eq1:Hid (clipN (zv true (absN x / absN y) + -1)=divF x y):=by show clipN _=_; rw[← E.out.1]; exact clipN_fits HFQ.out.1
  have eq2:Hid (clipN (zv gx (absN x%absN y)+y)=modF x y):=by show clipN _=_; rw[← E.out.2]; exact clipN_fits HFQ.out.2
  go_region_with (first
   | (go_at_call 65; refine(rfrom (-1) _ (by omega) (by omega)).mono ?_; rintro e wv ⟨vo,rfl,hno,hbv⟩; go_must (have NQ5:=Hid.mk_ ((NQ4.out.steps belowB).steps hbv); have NR5:=Hid.mk_ ((NR.out.steps belowB).steps hbv); have NB5:=Hid.mk_ ((NB.out.steps belowB).steps hbv); obtain⟨bo',ao',no',co',rfl⟩:=hno.shape; have NO:=Hid.mk_ hno; clear hno; have st:Steps _ wv:=hbv; have Bn:=bA w st; have na:Blk wv (w.heap.size) 30 #[.bool gx,.slice aa n ca]:=Blk.stepsA st; have nb:Blk wv (w.heap.size+1) 30 #[.bool gy,.slice ab m cb]:=Blk.stepsA st; have nr:Blk wv (w.heap.size+1+1) 30 #[.bool false,.slice none 0 0]:=Blk.stepsA st; have nt:Blk wv (w.heap.size+1+1+1) 30 #[.bool false,.slice none 0 0]:=Blk.stepsA st; have nq:Blk wv (w3.heap.size) 30 #[.bool bq,.slice aq nq' cq]:=Blk.stepsA st; have ns:Blk wv (w4.heap.size) 30 #[.bool br,.slice ar' nr' cr'']:=Blk.stepsA st; clear B oa ob or ot oq ca0 ca1 fa la cb0 cb1 fb lb cr0 cr1 fr lr ct0 ct1 ft lt cq0 cq1 fq lq; clear st; have B:=Bn; clear Bn; have oa:=na; clear na; have ca0:World.cell? wv ⟨w.heap.size,0,none⟩=some (.bool gx):=oa.c 0 rfl; have ca1:World.cell? wv ⟨w.heap.size,1,none⟩=some (.slice aa n ca):=oa.c 1 rfl; have fa:=oa.fr; have la:=oa.lt; have ob:=nb; clear nb; have cb0:World.cell? wv ⟨w.heap.size+1,0,none⟩=some (.bool gy):=ob.c 0 rfl; have cb1:World.cell? wv ⟨w.heap.size+1,1,none⟩=some (.slice ab m cb):=ob.c 1 rfl; have fb:=ob.fr; have lb:=ob.lt; have or:=nr; clear nr; have cr0:World.cell? wv ⟨w.heap.size+1+1,0,none⟩=some (.bool false):=or.c 0 rfl; have cr1:World.cell? wv ⟨w.heap.size+1+1,1,none⟩=some (.slice none 0 0):=or.c 1 rfl; have fr:=or.fr; have lr:=or.lt; have ot:=nt; clear nt; have ct0:World.cell? wv ⟨w.heap.size+1+1+1,0,none⟩=some (.bool false):=ot.c 0 rfl; have ct1:World.cell? wv ⟨w.heap.size+1+1+1,1,none⟩=some (.slice none 0 0):=ot.c 1 rfl; have ft:=ot.fr; have lt:=ot.lt; have oq:=nq; clear nq; have cq0:World.cell? wv ⟨w3.heap.size,0,none⟩=some (.bool bq):=oq.c 0 rfl; have cq1:World.cell? wv ⟨w3.heap.size,1,none⟩=some (.slice aq nq' cq):=oq.c 1 rfl; have fq:=oq.fr; have lq:=oq.lt; have os:=ns; clear ns; have cs0:World.cell? wv ⟨w4.heap.size,0,none⟩=some (.bool br):=os.c 0 rfl; have cs1:World.cell? wv ⟨w4.heap.size,1,none⟩=some (.slice ar' nr' cr''):=os.c 1 rfl; have fs:=os.fr; have ls:=os.lt))
   | (go_at_call 125; refine(rsum _ NQ5.out NO.out (HZ.out.1 _) (fits_small (by unfold absN; omega))).mono ?_; rintro e wv ⟨vs,rfl,hns,hbv⟩; go_must (have NR6:=Hid.mk_ ((NR5.out.steps belowB).steps hbv); have NB6:=Hid.mk_ ((NB5.out.steps belowB).steps hbv); obtain⟨bs,aas,ns9,cs9,rfl⟩:=hns.shape; have NS:=Hid.mk_ hns; clear hns; have st:Steps _ wv:=hbv; have Bn:=bA w st; have na:Blk wv (w.heap.size) 30 #[.bool gx,.slice aa n ca]:=Blk.stepsA st; have nb:Blk wv (w.heap.size+1) 30 #[.bool gy,.slice ab m cb]:=Blk.stepsA st; have nr:Blk wv (w.heap.size+1+1) 30 #[.bool false,.slice none 0 0]:=Blk.stepsA st; have nt:Blk wv (w.heap.size+1+1+1) 30 #[.bool false,.slice none 0 0]:=Blk.stepsA st; have nq:Blk wv (w3.heap.size) 30 #[.bool bq,.slice aq nq' cq]:=Blk.stepsA st; have ns:Blk wv (w4.heap.size) 30 #[.bool br,.slice ar' nr' cr'']:=Blk.stepsA st; clear B oa ob or ot oq os ca0 ca1 fa la cb0 cb1 fb lb cr0 cr1 fr lr ct0 ct1 ft lt cq0 cq1 fq lq cs0 cs1 fs ls; clear st; have B:=Bn; clear Bn; have oa:=na; clear na; have ca0:World.cell? wv ⟨w.heap.size,0,none⟩=some (.bool gx):=oa.c 0 rfl; have ca1:World.cell? wv ⟨w.heap.size,1,none⟩=some (.slice aa n ca):=oa.c 1 rfl; have fa:=oa.fr; have la:=oa.lt; have ob:=nb; clear nb; have cb0:World.cell? wv ⟨w.heap.size+1,0,none⟩=some (.bool gy):=ob.c 0 rfl; have cb1:World.cell? wv ⟨w.heap.size+1,1,none⟩=some (.slice ab m cb):=ob.c 1 rfl; have fb:=ob.fr; have lb:=ob.lt; have or:=nr; clear nr; have cr0:World.cell? wv ⟨w.heap.size+1+1,0,none⟩=some (.bool false):=or.c 0 rfl; have cr1:World.cell? wv ⟨w.heap.size+1+1,1,none⟩=some (.slice none 0 0):=or.c 1 rfl; have fr:=or.fr; have lr:=or.lt; have ot:=nt; clear nt; have ct0:World.cell? wv ⟨w.heap.size+1+1+1,0,none⟩=some (.bool false):=ot.c 0 rfl; have ct1:World.cell? wv ⟨w.heap.size+1+1+1,1,none⟩=some (.slice none 0 0):=ot.c 1 rfl; have ft:=ot.fr; have lt:=ot.lt; have oq:=nq; clear nq; have cq0:World.cell? wv ⟨w3.heap.size,0,none⟩=some (.bool bq):=oq.c 0 rfl; have cq1:World.cell? wv ⟨w3.heap.size,1,none⟩=some (.slice aq nq' cq):=oq.c 1 rfl; have fq:=oq.fr; have lq:=oq.lt; have os:=ns; clear ns; have cs0:World.cell? wv ⟨w4.heap.size,0,none⟩=some (.bool br):=os.c 0 rfl; have cs1:World.cell? wv ⟨w4.heap.size,1,none⟩=some (.slice ar' nr' cr''):=os.c 1 rfl; have fs:=os.fr; have ls:=os.lt)))
  all_goals
   go_wp2_with fail
   refine(rsum _ (NR6.out.put2 oq) (NB6.out.put2 oq) (HZ.out.2 _) HYF.out).mono ?_
   rintro e w8 ⟨vr2,rfl,hnr2,hb8⟩
   have NQ8:=Hid.mk_ ((NS.out.put2 oq).steps hb8)
   rw[eq1.out]at NQ8
   rw[eq2.out]at hnr2
   obtain⟨b9,a9,n9,c9,rfl⟩:=hnr2.shape
   have NR8:=Hid.mk_ hnr2
   clear hnr2
   have st:Steps _ w8:=hb8
   have Bn:=bA w st
   have na:=oa.stq st
   have nb:=ob.stq st
   have nr:=or.stq st
   have nt:=ot.stq st
   replace oq:Blk w8 (w3.heap.size) 30 #[.bool bs,.slice aas ns9 cs9]:=Blk.stepsA st
   replace os:Blk w8 (w4.heap.size) 30 #[.bool br,.slice ar' nr' cr'']:=Blk.stepsA st
   clear B oa ob or ot ca0 ca1 fa la cb0 cb1 fb lb cr0 cr1 fr lr ct0 ct1 ft lt cq0 cq1 fq lq cs0 cs1 fs ls
   clear st
   have B:=Bn
   clear Bn
   have oa:=na
   clear na
   obtain⟨ca0,ca1,fa,la⟩:=oa.s1
   have ob:=nb
   clear nb
   obtain⟨cb0,cb1,fb,lb⟩:=ob.s1
   have or:=nr
   clear nr
   obtain⟨cr0,cr1,fr,lr⟩:=or.s1
   have ot:=nt
   clear nt
   obtain⟨ct0,ct1,ft,lt⟩:=ot.s1
   obtain⟨cq0,cq1,fq,lq⟩:=oq.s1
   obtain⟨cs0,cs1,fs,ls⟩:=os.s1
   go_wp2_with fail
   go_region
   go_wp2
   refine bodyPost_ret (by simp[results,Tryz.results91,go_sem,ca0,ca1,fa,la,cb0,cb1,fb,lb,cr0,cr1,fr,lr,ct0,ct1,ft,lt,cq0,cq1,fq,lq,cs0,cs1,fs,ls]; rfl) rfl ?_
   refine⟨_,_,rfl,?_,?_,belowB⟩
   · exact Num.drew_ (((NQ8.out.put2 os).put2 ((or.far' (by omega)).far' (by omega))).put2 ((((ot.far' (by omega)).far' (by omega)).far' (by omega)).far' (by omega)))
   · exact Num.drew_ (((NR8.out.put2 os).put2 ((or.far' (by omega)).far' (by omega))).put2 ((((ot.far' (by omega)).far' (by omega)).far' (by omega)).far' (by omega)))
theorem rdivmod {va vb:Value} {x y:Int} (w:World) (ha:Num w va x) (hb:Num w vb y) (fx:fits x) (fy:fits y) (hy:y≠0) :
  Calls Tryz.prog 91 #[va,vb] w fun e w'=>∃q r,e = .returned (.tuple #[q,r,.int .i64 0])∧Num w' q (divF x y)∧Num w' r (modF x y)∧Steps w w':=by
 by_cases h:decide (x<0)=decide (y<0)
 · exact rdivmod_same w ha hb fx fy hy (by simp[h])
 · exact rdivmod_diff w ha hb fx fy hy (by simp[h])
def validF (gx:Bool) (la:List Int) (gy:Bool) (lb:List Int):Prop:=valid gx la∧valid gy lb∧gy=false∧lb≠ []∧gcdI (zv gx (lval la)) (zv gy (lval lb))=1
instance (gx:Bool) (la:List Int) (gy:Bool) (lb:List Int):Decidable (validF gx la gy lb):=inferInstanceAs (Decidable (_∧_∧_∧_∧_))
theorem rfcheck (gx gy:Bool) {sa sb:Value} {la lb:List Int} (w:World) (ha:Lim w sa la) (hb:Lim w sb lb) :
  Calls Tryz.prog 90 #[.agg #[.bool gx,sa,.bool gy,sb]] w fun e w'=>e = .returned (.int .i64 (errC (validF gx la gy lb)))∧Steps w w':=by
 have cka:∀w',Steps w w'→Calls Tryz.prog 94 #[.agg #[.bool gx,sa]] w' fun e w2=>e = .returned (.int .i64 (errC (valid gx la)))∧Steps w' w2:=fun w' h=>rcheckN gx w' (ha.steps h)
 have ckb:∀w',Steps w w'→Calls Tryz.prog 94 #[.agg #[.bool gy,sb]] w' fun e w2=>e = .returned (.int .i64 (errC (valid gy lb)))∧Steps w' w2:=fun w' h=>rcheckN gy w' (hb.steps h)
 have gc:valid gx la→valid gy lb→∀w',Steps w w'→Calls Tryz.prog 122 #[.agg #[.bool gx,sa],.agg #[.bool gy,sb]] w' fun e w2=>∃v,e = .returned (.tuple #[v,.int .i64 0])∧Num w2 v (gcdI (zv gx (lval la)) (zv gy (lval lb)))∧fits (gcdI (zv gx (lval la)) (zv gy (lval lb)))∧Steps w' w2:=fun va vb w' h=>
  rgcd w' (valid_num (ha.steps h) va) (valid_num (hb.steps h) vb) (valid_fits ha.ok va) (valid_fits hb.ok vb)
 obtain⟨aa,ca,rfl⟩:=ha.shape
 obtain⟨ab,cb,rfl⟩:=hb.shape
 obtain⟨n,hn⟩:∃n,la.length=n:=⟨_,rfl⟩
 obtain⟨m,hm⟩:∃m,lb.length=m:=⟨_,rfl⟩
 rw[hn]at cka gc⊢
 rw[hm]at ckb gc⊢
 have hm0:m=0↔lb = []:=by rw[← hm]; exact List.length_eq_zero_iff
 clear ha hb hn hm
 by_cases h1:valid gx la
 ·
  have E1:errC (valid gx la)=0:=if_pos h1
  rw[E1]at cka
  by_cases h2:valid gy lb
  ·
   have E2:errC (valid gy lb)=0:=if_pos h2
   rw[E2]at ckb
   have gc':=gc h1 h2
   clear gc E1 E2
   cases gy with
   | true=>
    have H:Hid (errC (validF gx la true lb)=8):=if_neg (fun h=>by have:=h.2.2.1; cases this)
    clear h1 h2 gc' hm0
    go_enter Tryz.func90,Tryz.ntmps90
    go_wp2_with fail
    refine(cka _ belowB).mono ?_
    rintro e w1 ⟨rfl,hb1⟩
    have st:Steps _ w1:=hb1
    have Bn:=bA w st
    have of:Blk w1 (w.heap.size) 32 #[.bool gx,.slice aa n ca,.bool true,.slice ab m cb]:=Blk.stepsA st
    clear st
    have B:=Bn
    clear Bn
    obtain⟨cf0,cf1,cf2,cf3,ff,lf⟩:=of.s3
    clear cka
    go_wp2_with fail
    refine(ckb _ B).mono ?_
    rintro e w2 ⟨rfl,hb2⟩
    have st:Steps _ w2:=hb2
    have Bn:=bA w st
    have nf:=of.stq st
    clear B of cf0 cf1 cf2 cf3 ff lf
    clear st
    have B:=Bn
    clear Bn
    have of:=nf
    clear nf
    obtain⟨cf0,cf1,cf2,cf3,ff,lf⟩:=of.s3
    clear ckb
    go_wp2
    go_returns
    exact⟨retI H.out.symm,belowB⟩
   | false=>
    rcases Nat.eq_zero_or_pos m with h0 | h0
    ·
     have H:Hid (errC (validF gx la false lb)=8):=if_neg (fun h=>h.2.2.2.1 (hm0.1 h0))
     subst h0
     clear h1 h2 gc' hm0
     go_enter Tryz.func90,Tryz.ntmps90
     go_wp2_with fail
     refine(cka _ belowB).mono ?_
     rintro e w1 ⟨rfl,hb1⟩
     have st:Steps _ w1:=hb1
     have Bn:=bA w st
     have of:Blk w1 (w.heap.size) 32 #[.bool gx,.slice aa n ca,.bool false,.slice ab 0 cb]:=Blk.stepsA st
     clear st
     have B:=Bn
     clear Bn
     obtain⟨cf0,cf1,cf2,cf3,ff,lf⟩:=of.s3
     clear cka
     go_wp2_with fail
     refine(ckb _ B).mono ?_
     rintro e w2 ⟨rfl,hb2⟩
     have st:Steps _ w2:=hb2
     have Bn:=bA w st
     have nf:=of.stq st
     clear B of cf0 cf1 cf2 cf3 ff lf
     clear st
     have B:=Bn
     clear Bn
     have of:=nf
     clear nf
     obtain⟨cf0,cf1,cf2,cf3,ff,lf⟩:=of.s3
     clear ckb
     go_wp2
     go_returns
     exact⟨retI H.out.symm,belowB⟩
    ·
     have hne:lb≠ []:=fun e=>by have:=hm0.2 e; omega
     have HV:Hid (errC (validF gx la false lb)=if gcdI (zv gx (lval la)) (zv false (lval lb))=1 then 0 else 8):=by
      show errC (validF gx la false lb)=_
      by_cases hg:gcdI (zv gx (lval la)) (zv false (lval lb))=1
      · rw[if_pos hg]; exact if_pos ⟨h1,h2,rfl,hne,hg⟩
      · rw[if_neg hg]; exact if_neg (fun h=>hg h.2.2.2.2)
     obtain⟨G,hG⟩:∃G,gcdI (zv gx (lval la)) (zv false (lval lb))=G:=⟨_,rfl⟩
     rw[hG]at gc' HV
     clear h1 h2 hm0 hG hne
     go_enter Tryz.func90,Tryz.ntmps90
     go_wp2_with fail
     refine(cka _ belowB).mono ?_
     rintro e w1 ⟨rfl,hb1⟩
     have st:Steps _ w1:=hb1
     have Bn:=bA w st
     have of:Blk w1 (w.heap.size) 32 #[.bool gx,.slice aa n ca,.bool false,.slice ab m cb]:=Blk.stepsA st
     clear st
     have B:=Bn
     clear Bn
     obtain⟨cf0,cf1,cf2,cf3,ff,lf⟩:=of.s3
     clear cka
     go_wp2_with fail
     refine(ckb _ B).mono ?_
     rintro e w2 ⟨rfl,hb2⟩
     have st:Steps _ w2:=hb2
     have Bn:=bA w st
     have nf:=of.stq st
     clear B of cf0 cf1 cf2 cf3 ff lf
     clear st
     have B:=Bn
     clear Bn
     have of:=nf
     clear nf
     obtain⟨cf0,cf1,cf2,cf3,ff,lf⟩:=of.s3
     clear ckb
     go_wp2_with fail
     refine(gc' _ B).mono ?_
     rintro e w3 ⟨vg,rfl,hng,fitG,st⟩
     have Bn:=bA w st
     have nf:=of.stq st
     clear B of cf0 cf1 cf2 cf3 ff lf
     clear st
     have B:=Bn
     clear Bn
     have of:=nf
     clear nf
     obtain⟨cf0,cf1,cf2,cf3,ff,lf⟩:=of.s3
     clear gc'
     obtain⟨bg,ag,ng,cg,rfl⟩:=hng.shape
     have NG:=Hid.mk_ hng
     clear hng
     go_wp2_with fail
     have hf3:w.heap.size<w3.heap.size:=of.lt
     go_region_with (first
      | (go_at_call 65; refine(rfrom 1 _ (by omega) (by omega)).mono ?_; rintro e wv ⟨vo,rfl,hno,hbv⟩; go_must (have NG5:=Hid.mk_ ((NG.out.steps belowB).steps hbv); obtain⟨bo',ao',no',co',rfl⟩:=hno.shape; have NO:=Hid.mk_ hno; clear hno; have st:Steps _ wv:=hbv; have Bn:=bA w st; have nf:Blk wv (w.heap.size) 32 #[.bool gx,.slice aa n ca,.bool false,.slice ab m cb]:=Blk.stepsA st; have ng:Blk wv (w3.heap.size) 30 #[.bool bg,.slice ag ng cg]:=Blk.stepsA st; clear B of cf0 cf1 cf2 cf3 ff lf; clear st; have B:=Bn; clear Bn; have of:=nf; clear nf; have cf0:World.cell? wv ⟨w.heap.size,0,none⟩=some (.bool gx):=of.c 0 rfl; have cf1:World.cell? wv ⟨w.heap.size,1,none⟩=some (.slice aa n ca):=of.c 1 rfl; have cf2:World.cell? wv ⟨w.heap.size,2,none⟩=some (.bool false):=of.c 2 rfl; have cf3:World.cell? wv ⟨w.heap.size,3,none⟩=some (.slice ab m cb):=of.c 3 rfl; have ff:=of.fr; have lf:=of.lt; have og:=ng; clear ng; have cg0:World.cell? wv ⟨w3.heap.size,0,none⟩=some (.bool bg):=og.c 0 rfl; have cg1:World.cell? wv ⟨w3.heap.size,1,none⟩=some (.slice ag ng cg):=og.c 1 rfl; have fg:=og.fr; have lg:=og.lt))
      | (go_at_call 123; refine(rsame _ NG5.out NO.out fitG (fits_small (by unfold absN; omega))).mono ?_; rintro e wv ⟨rfl,hbv⟩; go_must (have st:Steps _ wv:=hbv; have Bn:=bA w st; have nf:Blk wv (w.heap.size) 32 #[.bool gx,.slice aa n ca,.bool false,.slice ab m cb]:=Blk.stepsA st; have ng:Blk wv (w3.heap.size) 30 #[.bool bg,.slice ag ng cg]:=Blk.stepsA st; clear B of og cf0 cf1 cf2 cf3 ff lf cg0 cg1 fg lg; clear st; have B:=Bn; clear Bn; have of:=nf; clear nf; have cf0:World.cell? wv ⟨w.heap.size,0,none⟩=some (.bool gx):=of.c 0 rfl; have cf1:World.cell? wv ⟨w.heap.size,1,none⟩=some (.slice aa n ca):=of.c 1 rfl; have cf2:World.cell? wv ⟨w.heap.size,2,none⟩=some (.bool false):=of.c 2 rfl; have cf3:World.cell? wv ⟨w.heap.size,3,none⟩=some (.slice ab m cb):=of.c 3 rfl; have ff:=of.fr; have lf:=of.lt; have og:=ng; clear ng; have cg0:World.cell? wv ⟨w3.heap.size,0,none⟩=some (.bool bg):=og.c 0 rfl; have cg1:World.cell? wv ⟨w3.heap.size,1,none⟩=some (.slice ag ng cg):=og.c 1 rfl; have fg:=og.fr; have lg:=og.lt)))
     all_goals
      go_wp2
      all_goals go_returns
      ·
       first
        | (
          have h:(!decide (G=1))=true:=by assumption
          have hn:¬G=1:=by simpa using h
          exact⟨retI (HV.out.trans (if_neg hn)).symm,belowB⟩)
      ·
       first
        | (
          have h:(!decide (G=1))=false:=by assumption
          have hn:G=1:=by simpa using h
          exact⟨retI (HV.out.trans (if_pos hn)).symm,belowB⟩)
  ·
   have E2:errC (valid gy lb)=8:=if_neg h2
   rw[E2]at ckb
   have H:Hid (errC (validF gx la gy lb)=8):=if_neg (fun h=>h2 h.2.1)
   clear h1 h2 gc hm0 E1 E2
   go_enter Tryz.func90,Tryz.ntmps90
   go_wp2_with fail
   refine(cka _ belowB).mono ?_
   rintro e w1 ⟨rfl,hb1⟩
   have st:Steps _ w1:=hb1
   have Bn:=bA w st
   have of:Blk w1 (w.heap.size) 32 #[.bool gx,.slice aa n ca,.bool gy,.slice ab m cb]:=Blk.stepsA st
   clear st
   have B:=Bn
   clear Bn
   obtain⟨cf0,cf1,cf2,cf3,ff,lf⟩:=of.s3
   clear cka
   go_wp2_with fail
   refine(ckb _ B).mono ?_
   rintro e w2 ⟨rfl,hb2⟩
   have st:Steps _ w2:=hb2
   have Bn:=bA w st
   have nf:=of.stq st
   clear B of cf0 cf1 cf2 cf3 ff lf
   clear st
   have B:=Bn
   clear Bn
   have of:=nf
   clear nf
   obtain⟨cf0,cf1,cf2,cf3,ff,lf⟩:=of.s3
   clear ckb
   go_wp2
   go_returns
   exact⟨retI H.out.symm,belowB⟩
 ·
  have E1:errC (valid gx la)=8:=if_neg h1
  rw[E1]at cka
  have H:Hid (errC (validF gx la gy lb)=8):=if_neg (fun h=>h1 h.1)
  clear h1 gc hm0 E1 ckb
  go_enter Tryz.func90,Tryz.ntmps90
  go_wp2_with fail
  refine(cka _ belowB).mono ?_
  rintro e w1 ⟨rfl,hb1⟩
  have st:Steps _ w1:=hb1
  have Bn:=bA w st
  have of:Blk w1 (w.heap.size) 32 #[.bool gx,.slice aa n ca,.bool gy,.slice ab m cb]:=Blk.stepsA st
  clear st
  have B:=Bn
  clear Bn
  obtain⟨cf0,cf1,cf2,cf3,ff,lf⟩:=of.s3
  clear cka
  go_wp2
  go_returns
  exact⟨retI H.out.symm,belowB⟩
end Go.Proofs.YtdkcffnmlllamaaGreat
