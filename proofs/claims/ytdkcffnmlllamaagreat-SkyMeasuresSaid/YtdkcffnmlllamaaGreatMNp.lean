import Derived.Test.YtdkcffnmlllamaaGreatMNo
import Derived.Test.YtdkcffnmlllamaaGreatMTz
set_option linter.unusedVariables false
set_option linter.unusedSimpArgs false
set_option maxHeartbeats 6400000
set_option maxRecDepth 1000000
namespace Go.Proofs.YtdkcffnmlllamaaGreat
open Go.RowKit
theorem zv_mul (x y:Int):zv (decide (x<0) != decide (y<0)) (absN x*absN y)=x*y:=by
 by_cases h1:x<0
 ·
  by_cases h2:y<0
  ·
   have e:absN x*absN y=x*y:=by
    rw[show absN x = -x by unfold absN; omega,show absN y = -y by unfold absN; omega,Int.neg_mul_neg]
   simp[h1,h2,zv,e]
  ·
   have e:absN x*absN y = -(x*y):=by
    rw[show absN x = -x by unfold absN; omega,show absN y=y by unfold absN; omega,Int.neg_mul]
   simp[h1,h2,zv,e]
 ·
  by_cases h2:y<0
  ·
   have e:absN x*absN y = -(x*y):=by
    rw[show absN x=x by unfold absN; omega,show absN y = -y by unfold absN; omega,Int.mul_neg]
   simp[h1,h2,zv,e]
  ·
   have e:absN x*absN y=x*y:=by
    rw[show absN x=x by unfold absN; omega,show absN y=y by unfold absN; omega]
   simp[h1,h2,zv,e]
theorem nmul {va vb:Value} {x y:Int} (w:World) (ha:Num w va x) (hb:Num w vb y) (fx:fits x) (fy:fits y) :
  Calls Tryz.prog 83 #[va,vb] w fun e w'=>∃v,e = .returned (.tuple #[v,.int .i64 (errN (x*y))])∧Num w' v (clipN (x*y))∧Steps w w':=by
 have bo:=fun(w':World) (h:Steps w w')=>rboth_ok w' (ha.steps h) (hb.steps h) fx fy
 obtain⟨aa,ca,rfl,pa⟩:=ha.parts
 obtain⟨ab,cb,rfl,pb⟩:=hb.parts
 unfold fits at fx fy
 have nx:(limbs (absN x)).length≤few:=by unfold few; omega
 have ny:(limbs (absN y)).length≤few:=by unfold few; omega
 have vx:=lval_limbs (absN_nonneg x)
 have vy:=lval_limbs (absN_nonneg y)
 obtain⟨g,hg⟩:∃g,(decide (x<0) != decide (y<0))=g:=⟨_,rfl⟩
 have tm:∀w',Steps w w'→Calls Tryz.prog 119 #[.slice aa (limbs (absN x)).length ca,.slice ab (limbs (absN y)).length cb] w' fun e w2=>∃v l,e = .returned v∧Lim w2 v l∧lval l=absN x*absN y∧l.length≤few∧Steps w' w2:=fun w' h=>by
  refine(ntimes w' (pa.steps h) (pb.steps h) nx ny).mono ?_
  rintro e w2 ⟨v,l,rfl,h1,h2,h3,h4⟩
  exact⟨v,l,rfl,h1,by rw[h2,vx,vy],by unfold few; omega,h4⟩
 have mk:∀w' s l,Lim w' s l→lval l=absN x*absN y→l.length≤few→Calls Tryz.prog 97 #[.bool g,s] w' fun e w2=>∃v,e = .returned (.tuple #[v,.int .i64 (errN (x*y))])∧Num w2 v (clipN (x*y))∧Steps w' w2:=fun w' s l h h2 h3=>by
  have:=rmadeN g w' h h3
  rw[h2,← hg,zv_mul]at this
  rw[← hg]
  exact this
 obtain⟨n,hn⟩:∃n,(limbs (absN x)).length=n:=⟨_,rfl⟩
 obtain⟨m,hm⟩:∃m,(limbs (absN y)).length=m:=⟨_,rfl⟩
 rw[hn]at bo tm⊢
 rw[hm]at bo tm⊢
 obtain⟨gx,hgx⟩:∃b,decide (x<0)=b:=⟨_,rfl⟩
 obtain⟨gy,hgy⟩:∃b,decide (y<0)=b:=⟨_,rfl⟩
 rw[hgx,hgy]at hg bo⊢
 have hgg:(gx==gy) = !g:=by rw[← hg]; cases gx<;>cases gy<;>rfl
 clear ha hb pa pb hn hm hgx hgy hg fx fy nx ny vx vy
 go_enter Tryz.func83,Tryz.ntmps83
 go_wp2_with fail
 refine(bo _ belowB).mono ?_
 rintro e w1 ⟨rfl,st⟩
 have Bn:=bA w st
 have oa:Blk w1 (w.heap.size) 30 #[.bool gx,.slice aa n ca]:=Blk.stepsA st
 have ob:Blk w1 (w.heap.size+1) 30 #[.bool gy,.slice ab m cb]:=Blk.stepsA st
 have or:Blk w1 (w.heap.size+1+1) 30 #[.bool false,.slice none 0 0]:=Blk.stepsA st
 clear st
 have B:=Bn
 clear Bn
 obtain⟨ca0,ca1,fa,la⟩:=oa.s1
 obtain⟨cb0,cb1,fb,lb⟩:=ob.s1
 obtain⟨cr0,cr1,fr,lr⟩:=or.s1
 clear bo
 go_wp2_with fail
 go_region_held3 (fun w'=>w'.cell? ⟨w.heap.size,0,none⟩=some (.bool gx)∧w'.cell? ⟨w.heap.size,1,none⟩=some (.slice aa n ca)∧w'.cell? ⟨w.heap.size+1,0,none⟩=some (.bool gy)∧w'.cell? ⟨w.heap.size+1,1,none⟩=some (.slice ab m cb))
  ((refine⟨Blk.c (t:=30) (cs:=#[.bool gx,.slice aa n ca]) ?_ 0 rfl,Blk.c (t:=30) (cs:=#[.bool gx,.slice aa n ca]) ?_ 1 rfl,Blk.c (t:=30) (cs:=#[.bool gy,.slice ab m cb]) ?_ 0 rfl,Blk.c (t:=30) (cs:=#[.bool gy,.slice ab m cb]) ?_ 1 rfl⟩<;>(repeat' first | with_reducible assumption | (with_reducible refine Blk.new' ?_; first | with_reducible rfl | (simp only[World.size_alloc,World.size_setCell,World.size_drew]; done)) | with_reducible refine Blk.alloc ?_ _ | with_reducible refine Blk.drew ?_ | with_reducible refine Blk.drewN ?_ _ | with_reducible apply Blk.both | with_reducible refine Blk.far' ?_ ?_ | (show _≠_; omega))))
  (first
   | ((go_at_call 119; refine(tm _ belowB).mono ?_; rintro e wv ⟨v1,l1,rfl,hv1,vl1,ll1,hbv⟩; go_must (have HV1:=Hid.mk_ vl1; clear vl1; have st:Steps _ wv:=hbv; have Bn:=bA w st; have na:Blk wv (w.heap.size) 30 #[.bool gx,.slice aa n ca]:=Blk.stepsA st; have nb:Blk wv (w.heap.size+1) 30 #[.bool gy,.slice ab m cb]:=Blk.stepsA st; have nr:Blk wv (w.heap.size+1+1) 30 #[.bool false,.slice none 0 0]:=Blk.stepsA st; clear B oa ob or ca0 ca1 fa la cb0 cb1 fb lb cr0 cr1 fr lr; clear st; have B:=Bn; clear Bn; have oa:=na; clear na; have ca0:World.cell? wv ⟨w.heap.size,0,none⟩=some (.bool gx):=oa.c 0 rfl; have ca1:World.cell? wv ⟨w.heap.size,1,none⟩=some (.slice aa n ca):=oa.c 1 rfl; have fa:=oa.fr; have la:=oa.lt; have ob:=nb; clear nb; have cb0:World.cell? wv ⟨w.heap.size+1,0,none⟩=some (.bool gy):=ob.c 0 rfl; have cb1:World.cell? wv ⟨w.heap.size+1,1,none⟩=some (.slice ab m cb):=ob.c 1 rfl; have fb:=ob.fr; have lb:=ob.lt; have or:=nr; clear nr; have cr0:World.cell? wv ⟨w.heap.size+1+1,0,none⟩=some (.bool false):=or.c 0 rfl; have cr1:World.cell? wv ⟨w.heap.size+1+1,1,none⟩=some (.slice none 0 0):=or.c 1 rfl; have fr:=or.fr; have lr:=or.lt)))
   | ((go_at_call 97; refine(mk _ _ l1 hv1 HV1.out ll1).mono ?_; rintro e wv ⟨v2,rfl,hv2,hbv⟩; go_must (have st:Steps _ wv:=hbv; have Bn:=bA w st; have na:Blk wv (w.heap.size) 30 #[.bool gx,.slice aa n ca]:=Blk.stepsA st; have nb:Blk wv (w.heap.size+1) 30 #[.bool gy,.slice ab m cb]:=Blk.stepsA st; have nr:Blk wv (w.heap.size+1+1) 30 #[.bool false,.slice none 0 0]:=Blk.stepsA st; clear B oa ob or ca0 ca1 fa la cb0 cb1 fb lb cr0 cr1 fr lr; clear st; have B:=Bn; clear Bn; have oa:=na; clear na; have ca0:World.cell? wv ⟨w.heap.size,0,none⟩=some (.bool gx):=oa.c 0 rfl; have ca1:World.cell? wv ⟨w.heap.size,1,none⟩=some (.slice aa n ca):=oa.c 1 rfl; have fa:=oa.fr; have la:=oa.lt; have ob:=nb; clear nb; have cb0:World.cell? wv ⟨w.heap.size+1,0,none⟩=some (.bool gy):=ob.c 0 rfl; have cb1:World.cell? wv ⟨w.heap.size+1,1,none⟩=some (.slice ab m cb):=ob.c 1 rfl; have fb:=ob.fr; have lb:=ob.lt; have or:=nr; clear nr; have cr0:World.cell? wv ⟨w.heap.size+1+1,0,none⟩=some (.bool false):=or.c 0 rfl; have cr1:World.cell? wv ⟨w.heap.size+1+1,1,none⟩=some (.slice none 0 0):=or.c 1 rfl; have fr:=or.fr; have lr:=or.lt; obtain⟨bb,ao2,n2,c2,rfl⟩:=hv2.shape))))
 have HV2:=Hid.mk_ hv2
 clear hv2
 go_wp2
 refine bodyPost_ret (by simp[results,Tryz.results83,go_sem,ca0,ca1,fa,la,cb0,cb1,fb,lb,cr0,cr1,fr,lr]; rfl) rfl ?_
 exact⟨_,rfl,HV2.out.put2 or,belowB⟩
theorem nadd {va vb:Value} {x y:Int} (w:World) (ha:Num w va x) (hb:Num w vb y) (fx:fits x) (fy:fits y) :
  Calls Tryz.prog 93 #[va,vb] w fun e w'=>∃v,e = .returned (.tuple #[v,.int .i64 (errN (x+y))])∧Num w' v (clipN (x+y))∧Steps w w':=by
 have bo:=fun(w':World) (h:Steps w w')=>rboth_ok w' (ha.steps h) (hb.steps h) fx fy
 have sm:=fun(w':World) (h:Steps w w')=>rsum w' (ha.steps h) (hb.steps h) fx fy
 obtain⟨aa,ca,rfl,pa⟩:=ha.parts
 obtain⟨ab,cb,rfl,pb⟩:=hb.parts
 obtain⟨n,hn⟩:∃n,(limbs (absN x)).length=n:=⟨_,rfl⟩
 obtain⟨m,hm⟩:∃m,(limbs (absN y)).length=m:=⟨_,rfl⟩
 rw[hn]at bo sm⊢
 rw[hm]at bo sm⊢
 obtain⟨gx,hgx⟩:∃b,decide (x<0)=b:=⟨_,rfl⟩
 obtain⟨gy,hgy⟩:∃b,decide (y<0)=b:=⟨_,rfl⟩
 rw[hgx]at bo sm⊢
 rw[hgy]at bo sm⊢
 clear ha hb pa pb hn hm hgx hgy fx fy
 go_enter Tryz.func93,Tryz.ntmps93
 go_wp2_with fail
 refine(bo _ belowB).mono ?_
 rintro e w1 ⟨rfl,st⟩
 have Bn:=bA w st
 have oa:Blk w1 (w.heap.size) 30 #[.bool gx,.slice aa n ca]:=Blk.stepsA st
 have ob:Blk w1 (w.heap.size+1) 30 #[.bool gy,.slice ab m cb]:=Blk.stepsA st
 have or:Blk w1 (w.heap.size+1+1) 30 #[.bool false,.slice none 0 0]:=Blk.stepsA st
 clear st
 have B:=Bn
 clear Bn
 obtain⟨ca0,ca1,fa,la⟩:=oa.s1
 obtain⟨cb0,cb1,fb,lb⟩:=ob.s1
 obtain⟨cr0,cr1,fr,lr⟩:=or.s1
 clear bo
 go_wp2_with fail
 refine(sm _ B).mono ?_
 rintro e w2 ⟨v2,rfl,hv2,st⟩
 have Bn:=bA w st
 have na:=oa.stq st
 have nb:=ob.stq st
 have nr:=or.stq st
 clear B oa ob or ca0 ca1 fa la cb0 cb1 fb lb cr0 cr1 fr lr
 clear st
 have B:=Bn
 clear Bn
 have oa:=na
 clear na
 obtain⟨ca0,ca1,fa,la⟩:=oa.s1
 have ob:=nb
 clear nb
 obtain⟨cb0,cb1,fb,lb⟩:=ob.s1
 have or:=nr
 clear nr
 obtain⟨cr0,cr1,fr,lr⟩:=or.s1
 clear sm
 obtain⟨bb,ao2,n2,c2,rfl⟩:=hv2.shape
 have HV2:=Hid.mk_ hv2
 clear hv2
 go_wp2
 refine bodyPost_ret (by simp[results,Tryz.results93,go_sem,ca0,ca1,fa,la,cb0,cb1,fb,lb,cr0,cr1,fr,lr]; rfl) rfl ?_
 exact⟨_,rfl,HV2.out.put2 or,belowB⟩
theorem Num.neg_parts {w:World} {y:Int} {ab:Option Addr} {m cb:Nat} (h:Lim w (.slice ab m cb) (limbs (absN y))):Num w (.agg #[.bool (decide (-y<0)),.slice ab m cb]) (-y):=
 ⟨_,rfl,by rw[absN_neg]; exact h⟩
theorem nsub {va vb:Value} {x y:Int} (w:World) (ha:Num w va x) (hb:Num w vb y) (fx:fits x) (fy:fits y) :
  Calls Tryz.prog 92 #[va,vb] w fun e w'=>∃v,e = .returned (.tuple #[v,.int .i64 (errN (x-y))])∧Num w' v (clipN (x-y))∧Steps w w':=by
 have bo:=fun(w':World) (h:Steps w w')=>rboth_ok w' (ha.steps h) (hb.steps h) fx fy
 obtain⟨aa,ca,rfl,pa⟩:=ha.parts
 obtain⟨ab,cb,rfl,pb⟩:=hb.parts
 have sm:∀w' v,Steps w w'→Num w' v (-y)→Calls Tryz.prog 125 #[.agg #[.bool (decide (x<0)),.slice aa (limbs (absN x)).length ca],v] w' fun e w2=>∃v',e = .returned (.tuple #[v',.int .i64 (errN (x-y))])∧Num w2 v' (clipN (x-y))∧Steps w' w2:=fun w' v h hv=>by
  have:=rsum w' (ha.steps h) hv fx (fits_neg fy)
  rw[← Int.sub_eq_add_neg]at this
  exact this
 have y0:(limbs (absN y)).length=0↔y=0:=by
  rw[List.length_eq_zero_iff,limbs_nil (absN_nonneg y)]
  unfold absN; omega
 have ngp:=fun(w':World) (h:Steps w w')=>Num.neg_parts (pb.steps h)
 obtain⟨n,hn⟩:∃n,(limbs (absN x)).length=n:=⟨_,rfl⟩
 obtain⟨m,hm⟩:∃m,(limbs (absN y)).length=m:=⟨_,rfl⟩
 rw[hn]at bo sm⊢
 rw[hm]at bo ngp y0⊢
 obtain⟨gx,hgx⟩:∃b,decide (x<0)=b:=⟨_,rfl⟩
 rw[hgx]at bo sm⊢
 clear ha hb pa pb hn hm hgx fx fy
 rcases(show y<0∨y=0∨0<y by omega)with h | h | h
 focus
  have e1:decide (y<0)=true:=by simp; omega
  have e2:decide (-y<0)=false:=by simp; omega
  rw[e1]at bo⊢
  rw[e2]at ngp
  clear e1 e2 y0 h
  go_enter Tryz.func92,Tryz.ntmps92
  go_wp2_with fail
  refine(bo _ belowB).mono ?_
  rintro e w1 ⟨rfl,hb1⟩
  have st:Steps _ w1:=hb1
  have Bn:=bA w st
  have oa:Blk w1 (w.heap.size) 30 #[.bool gx,.slice aa n ca]:=Blk.stepsA st
  have ob:Blk w1 (w.heap.size+1) 30 #[.bool true,.slice ab m cb]:=Blk.stepsA st
 rotate_left
 focus
  have e1:decide (y<0)=false:=by simp; omega
  have e2:decide (-y<0)=false:=by simp; omega
  rw[e1]at bo⊢
  rw[e2]at ngp
  have hm0:m=0:=y0.2 h
  subst hm0
  clear e1 e2 y0 h
  go_enter Tryz.func92,Tryz.ntmps92
  go_wp2_with fail
  refine(bo _ belowB).mono ?_
  rintro e w1 ⟨rfl,hb1⟩
  have st:Steps _ w1:=hb1
  have Bn:=bA w st
  have oa:Blk w1 (w.heap.size) 30 #[.bool gx,.slice aa n ca]:=Blk.stepsA st
  have ob:Blk w1 (w.heap.size+1) 30 #[.bool false,.slice ab 0 cb]:=Blk.stepsA st
 rotate_left
 focus
  have e1:decide (y<0)=false:=by simp; omega
  have e2:decide (-y<0)=true:=by simp; omega
  rw[e1]at bo⊢
  rw[e2]at ngp
  have hm0:0<m:=by rcases Nat.eq_zero_or_pos m with g | g; (have:=y0.1 g; omega); exact g
  have hm1:decide (0<m)=true:=decide_eq_true hm0
  have hm2:decide (0<(m:Int))=true:=decide_eq_true (by omega)
  clear e1 e2 y0 h
  go_enter Tryz.func92,Tryz.ntmps92
  go_wp2_with fail
  refine(bo _ belowB).mono ?_
  rintro e w1 ⟨rfl,hb1⟩
  have st:Steps _ w1:=hb1
  have Bn:=bA w st
  have oa:Blk w1 (w.heap.size) 30 #[.bool gx,.slice aa n ca]:=Blk.stepsA st
  have ob:Blk w1 (w.heap.size+1) 30 #[.bool false,.slice ab m cb]:=Blk.stepsA st
 rotate_left
 all_goals
  have or:Blk w1 (w.heap.size+1+1) 30 #[.bool false,.slice none 0 0]:=Blk.stepsA st
  clear st
  have B:=Bn
  clear Bn
  obtain⟨ca0,ca1,fa,la⟩:=oa.s1
  obtain⟨cb0,cb1,fb,lb⟩:=ob.s1
  obtain⟨cr0,cr1,fr,lr⟩:=or.s1
  clear bo
  go_wp2_with fail
  refine(sm _ _ B (ngp _ B)).mono ?_
  rintro e w2 ⟨v2,rfl,hv2,hb2⟩
  have st:Steps _ w2:=hb2
  have Bn:=bA w st
  have na:=oa.stq st
  have nb:=ob.stq st
  have nr:=or.stq st
  clear B oa ob or ca0 ca1 fa la cb0 cb1 fb lb cr0 cr1 fr lr
  clear st
  have B:=Bn
  clear Bn
  have oa:=na
  clear na
  obtain⟨ca0,ca1,fa,la⟩:=oa.s1
  have ob:=nb
  clear nb
  obtain⟨cb0,cb1,fb,lb⟩:=ob.s1
  have or:=nr
  clear nr
  obtain⟨cr0,cr1,fr,lr⟩:=or.s1
  clear sm ngp
  obtain⟨bb,ao2,n2,c2,rfl⟩:=hv2.shape
  have HV2:=Hid.mk_ hv2
  clear hv2
  go_wp2
  refine bodyPost_ret (by simp[results,Tryz.results92,go_sem,ca0,ca1,fa,la,cb0,cb1,fb,lb,cr0,cr1,fr,lr]; rfl) rfl ?_
  exact⟨_,rfl,HV2.out.put2 or,belowB⟩
theorem Frc.fit {w:World} {v:Value} {p q:Int} (h:Frc w v p q):fits p∧fits q∧0<q:=by
 obtain⟨_,_,_,_,_,q0,_,fp,fq⟩:=h
 exact⟨fp,fq,q0⟩
theorem rmul_fits {va vb:Value} {x y:Int} (w:World) (ha:Num w va x) (hb:Num w vb y) (fx:fits x) (fy:fits y) (fm:fits (x*y)) :
  Calls Tryz.prog 83 #[va,vb] w fun e w'=>∃v,e = .returned (.tuple #[v,.int .i64 0])∧Num w' v (x*y)∧Steps w w':=by
 have:=nmul w ha hb fx fy
 rw[errN_fits fm,clipN_fits fm]at this
 exact this
theorem radd_fits {va vb:Value} {x y:Int} (w:World) (ha:Num w va x) (hb:Num w vb y) (fx:fits x) (fy:fits y) (fm:fits (x+y)) :
  Calls Tryz.prog 93 #[va,vb] w fun e w'=>∃v,e = .returned (.tuple #[v,.int .i64 0])∧Num w' v (x+y)∧Steps w w':=by
 have:=nadd w ha hb fx fy
 rw[errN_fits fm,clipN_fits fm]at this
 exact this
theorem rsub_fits {va vb:Value} {x y:Int} (w:World) (ha:Num w va x) (hb:Num w vb y) (fx:fits x) (fy:fits y) (fm:fits (x-y)) :
  Calls Tryz.prog 92 #[va,vb] w fun e w'=>∃v,e = .returned (.tuple #[v,.int .i64 0])∧Num w' v (x-y)∧Steps w w':=by
 have:=nsub w ha hb fx fy
 rw[errN_fits fm,clipN_fits fm]at this
 exact this
theorem rproduct {va vb vc vd:Value} {x y z u:Int} (w:World) (ha:Num w va x) (hb:Num w vb y) (hc:Num w vc z) (hd:Num w vd u) (fx:fits x) (fy:fits y) (fz:fits z) (fu:fits u) (f1:fits (x*y)) (f2:fits (z*u)) (h0:z*u≠0) :
  Calls Tryz.prog 86 #[va,vb,vc,vd] w fun e w'=>∃v,e = .returned (.tuple #[v,.int .i64 0])∧Frc w' v (rdP (x*y) (z*u)) (rdQ (x*y) (z*u))∧Steps w w':=by
 have m1:=fun(w':World) (h:Steps w w')=>rmul_fits w' (ha.steps h) (hb.steps h) fx fy f1
 have m2:=fun(w':World) (h:Steps w w')=>rmul_fits w' (hc.steps h) (hd.steps h) fz fu f2
 have rd:∀w' v1 v2,Num w' v1 (x*y)→Num w' v2 (z*u)→Calls Tryz.prog 96 #[v1,v2] w' fun e w2=>∃v,e = .returned v∧Frc w2 v (rdP (x*y) (z*u)) (rdQ (x*y) (z*u))∧Steps w' w2:=fun w' v1 v2 h1 h2=>rreduced w' h1 h2 f1 f2 h0
 obtain⟨X,hX⟩:∃X,x*y=X:=⟨_,rfl⟩
 obtain⟨Y,hY⟩:∃Y,z*u=Y:=⟨_,rfl⟩
 rw[hX]at m1 rd⊢
 rw[hY]at m2 rd⊢
 obtain⟨ga,sa,ja,ea,rfl⟩:=ha.shape
 obtain⟨gb,sb,jb,eb,rfl⟩:=hb.shape
 obtain⟨gc,sc,jc,ec,rfl⟩:=hc.shape
 obtain⟨gd,sd,jd,ed,rfl⟩:=hd.shape
 clear ha hb hc hd fx fy fz fu f1 f2 h0 hX hY
 go_enter Tryz.func86,Tryz.ntmps86
 go_wp2_with fail
 refine(m1 _ belowB).mono ?_
 rintro e w1 ⟨v1,rfl,hn1,st⟩
 have Bn:=bA w st
 have oa:Blk w1 (w.heap.size) 30 #[.bool ga,.slice sa ja ea]:=Blk.stepsA st
 have ob:Blk w1 (w.heap.size+1) 30 #[.bool gb,.slice sb jb eb]:=Blk.stepsA st
 have oc:Blk w1 (w.heap.size+1+1) 30 #[.bool gc,.slice sc jc ec]:=Blk.stepsA st
 have od:Blk w1 (w.heap.size+1+1+1) 30 #[.bool gd,.slice sd jd ed]:=Blk.stepsA st
 have or:Blk w1 (w.heap.size+1+1+1+1) 32 #[.bool false,.slice none 0 0,.bool false,.slice none 0 0]:=Blk.stepsA st
 clear st
 have B:=Bn
 clear Bn
 obtain⟨ca0,ca1,fa,la⟩:=oa.s1
 obtain⟨cb0,cb1,fb,lb⟩:=ob.s1
 obtain⟨cc0,cc1,fc,lc⟩:=oc.s1
 obtain⟨cd0,cd1,fd,ld⟩:=od.s1
 obtain⟨cr0,cr1,cr2,cr3,fr,lr⟩:=or.s3
 clear m1
 obtain⟨g1,s1,k1,c1,rfl⟩:=hn1.shape
 have N1:=Hid.mk_ hn1
 clear hn1
 have z1:w.heap.size+1+1+1+1<w1.heap.size:=or.lt
 go_wp2_with fail
 refine(m2 _ belowB).mono ?_
 rintro e w2 ⟨v2,rfl,hn2,hb2⟩
 have st:Steps _ w2:=hb2
 have Bn:=bA w st
 have na:=oa.stq st
 have nb:=ob.stq st
 have nc:=oc.stq st
 have nd:=od.stq st
 have nr:=or.stq st
 have ox:Blk w2 (w1.heap.size) 30 #[.bool g1,.slice s1 k1 c1]:=Blk.stepsA st
 clear B oa ob oc od or ca0 ca1 fa la cb0 cb1 fb lb cc0 cc1 fc lc cd0 cd1 fd ld cr0 cr1 cr2 cr3 fr lr
 clear st
 have B:=Bn
 clear Bn
 have oa:=na
 clear na
 obtain⟨ca0,ca1,fa,la⟩:=oa.s1
 have ob:=nb
 clear nb
 obtain⟨cb0,cb1,fb,lb⟩:=ob.s1
 have oc:=nc
 clear nc
 obtain⟨cc0,cc1,fc,lc⟩:=oc.s1
 have od:=nd
 clear nd
 obtain⟨cd0,cd1,fd,ld⟩:=od.s1
 have or:=nr
 clear nr
 obtain⟨cr0,cr1,cr2,cr3,fr,lr⟩:=or.s3
 obtain⟨cx0,cx1,fx,lx⟩:=ox.s1
 clear m2
 obtain⟨g2,s2,k2,c2,rfl⟩:=hn2.shape
 have N2:=Hid.mk_ hn2
 clear hn2
 have N1b:=Hid.mk_ ((N1.out.alloc_ (.cells #[.bool g1,.slice s1 k1 c1] 30)).steps hb2)
 clear N1
 have z2:w1.heap.size<w2.heap.size:=ox.lt
 go_wp2_with fail
 refine(rd _ _ _ (N1b.out.alloc_ _) (N2.out.alloc_ _)).mono ?_
 rintro e w3 ⟨v3,rfl,hf,st⟩
 have Bn:=bA w st
 have na:=oa.stq st
 have nb:=ob.stq st
 have nc:=oc.stq st
 have nd:=od.stq st
 have nr:=or.stq st
 have nx:=ox.stq st
 have oy:Blk w3 (w2.heap.size) 30 #[.bool g2,.slice s2 k2 c2]:=Blk.stepsA st
 clear B oa ob oc od or ox ca0 ca1 fa la cb0 cb1 fb lb cc0 cc1 fc lc cd0 cd1 fd ld cr0 cr1 cr2 cr3 fr lr cx0 cx1 fx lx
 clear st
 have B:=Bn
 clear Bn
 have oa:=na
 clear na
 obtain⟨ca0,ca1,fa,la⟩:=oa.s1
 have ob:=nb
 clear nb
 obtain⟨cb0,cb1,fb,lb⟩:=ob.s1
 have oc:=nc
 clear nc
 obtain⟨cc0,cc1,fc,lc⟩:=oc.s1
 have od:=nd
 clear nd
 obtain⟨cd0,cd1,fd,ld⟩:=od.s1
 have or:=nr
 clear nr
 obtain⟨cr0,cr1,cr2,cr3,fr,lr⟩:=or.s3
 have ox:=nx
 clear nx
 obtain⟨cx0,cx1,fx,lx⟩:=ox.s1
 obtain⟨cy0,cy1,fy,ly⟩:=oy.s1
 clear rd N1b N2
 obtain⟨h1,h2,h3,h4,h5,h6,h7,h8,rfl⟩:=hf.shape
 have HF:=Hid.mk_ hf
 clear hf
 dsimp only; repeat' (first | go_values | go_skip | go_guarded | go_step | go_upon)
 refine bodyPost_ret (by simp[results,Tryz.results86,go_sem,ca0,ca1,fa,la,cb0,cb1,fb,lb,cc0,cc1,fc,lc,cd0,cd1,fd,ld,cr0,cr1,cr2,cr3,fr,lr,cx0,cx1,fx,lx,cy0,cy1,fy,ly]; rfl) rfl ?_
 exact⟨_,rfl,HF.out.only or rfl ((Only.refl _ _).set.set.set.set),belowB⟩
theorem radded_more {va vb:Value} {p q x y:Int} (w:World) (ha:Frc w va p q) (hb:Frc w vb x y) (f1:fits (p*y)) (f2:fits (x*q)) (f3:fits (q*y)) (f4:fits (p*y+x*q)) (f5:fits (p*y-x*q)) :
  Calls Tryz.prog 121 #[va,vb,.bool false] w fun e w'=>∃v,e = .returned (.tuple #[v,.int .i64 0])∧Frc w' v (rdP (p*y+x*q) (q*y)) (rdQ (p*y+x*q) (q*y))∧Steps w w':=by
 have fa:=ha.fit
 have fb:=hb.fit
 obtain⟨ap,np,cp,aq,nq,cq,rfl,hp,hq⟩:=ha.nums
 obtain⟨bp_,mp,dp,bq,mq,dq,rfl,kp,kq⟩:=hb.nums
 have m1:=fun(w':World) (h:Steps w w')=>rmul_fits w' (hp.steps h) (kq.steps h) fa.1 fb.2.1 f1
 have m2:=fun(w':World) (h:Steps w w')=>rmul_fits w' (kp.steps h) (hq.steps h) fb.1 fa.2.1 f2
 have m3:=fun(w':World) (h:Steps w w')=>rmul_fits w' (hq.steps h) (kq.steps h) fa.2.1 fb.2.1 f3
 have h0:q*y≠0:=by have:=Int.mul_pos fa.2.2 fb.2.2; omega
 obtain⟨sgx,hgx⟩:∃b,decide (p<0)=b:=⟨_,rfl⟩
 obtain⟨sgy,hgy⟩:∃b,decide (x<0)=b:=⟨_,rfl⟩
 rw[hgx]at m1⊢
 rw[hgy]at m2⊢
 obtain⟨X,hX⟩:∃X,p*y=X:=⟨_,rfl⟩
 obtain⟨Y,hY⟩:∃Y,x*q=Y:=⟨_,rfl⟩
 obtain⟨Z,hZ⟩:∃Z,q*y=Z:=⟨_,rfl⟩
 rw[hX]at f1 f4 f5 m1⊢
 rw[hY]at f2 f4 f5 m2⊢
 rw[hZ]at f3 h0 m3⊢
 have ad:∀w' v1 v2,Num w' v1 X→Num w' v2 Y→Calls Tryz.prog 93 #[v1,v2] w' fun e w2=>∃v,e = .returned (.tuple #[v,.int .i64 0])∧Num w2 v (X+Y)∧Steps w' w2:=fun w' v1 v2 h1 h2=>radd_fits w' h1 h2 f1 f2 f4
 have rd:∀w' v1 v2,Num w' v1 (X+Y)→Num w' v2 Z→Calls Tryz.prog 96 #[v1,v2] w' fun e w2=>∃v,e = .returned v∧Frc w2 v (rdP (X+Y) Z) (rdQ (X+Y) Z)∧Steps w' w2:=fun w' v1 v2 h1 h2=>rreduced w' h1 h2 f4 f3 h0
 clear hp hq kp kq fa fb ha hb f1 f2 f3 f4 f5 h0 hX hY hZ hgx hgy
 go_enter Tryz.func121,Tryz.ntmps121
 go_wp2_with fail
 refine(m1 _ belowB).mono ?_
 rintro e w1 ⟨v1,rfl,hv1,st⟩
 have Bn:=bA w st
 have oa:Blk w1 (w.heap.size) 32 #[.bool sgx,.slice ap np cp,.bool false,.slice aq nq cq]:=Blk.stepsA st
 have ob:Blk w1 (w.heap.size+1) 32 #[.bool sgy,.slice bp_ mp dp,.bool false,.slice bq mq dq]:=Blk.stepsA st
 have or:Blk w1 (w.heap.size+1+1) 32 #[.bool false,.slice none 0 0,.bool false,.slice none 0 0]:=Blk.stepsA st
 clear st
 have B:=Bn
 clear Bn
 obtain⟨ca0,ca1,ca2,ca3,fa,la⟩:=oa.s3
 obtain⟨cb0,cb1,cb2,cb3,fb,lb⟩:=ob.s3
 obtain⟨cr0,cr1,cr2,cr3,fr,lr⟩:=or.s3
 clear m1
 obtain⟨gx,sx,kx,ex,rfl⟩:=hv1.shape
 have Nx:=Hid.mk_ hv1
 clear hv1
 have zx:w.heap.size+1+1<w1.heap.size:=or.lt
 go_wp2_with fail
 refine(m2 _ belowB).mono ?_
 rintro e w2 ⟨v2,rfl,hv2,hb2⟩
 have st:Steps _ w2:=hb2
 have Bn:=bA w st
 have na:=oa.stq st
 have nb:=ob.stq st
 have nr:=or.stq st
 have ox:Blk w2 (w1.heap.size) 30 #[.bool gx,.slice sx kx ex]:=Blk.stepsA st
 clear B oa ob or ca0 ca1 ca2 ca3 fa la cb0 cb1 cb2 cb3 fb lb cr0 cr1 cr2 cr3 fr lr
 clear st
 have B:=Bn
 clear Bn
 have oa:=na
 clear na
 obtain⟨ca0,ca1,ca2,ca3,fa,la⟩:=oa.s3
 have ob:=nb
 clear nb
 obtain⟨cb0,cb1,cb2,cb3,fb,lb⟩:=ob.s3
 have or:=nr
 clear nr
 obtain⟨cr0,cr1,cr2,cr3,fr,lr⟩:=or.s3
 obtain⟨cx0,cx1,fx,lx⟩:=ox.s1
 clear m2
 have Nx2:=Hid.mk_ ((Nx.out.alloc_ (.cells #[.bool gx,.slice sx kx ex] 30)).steps hb2)
 clear Nx
 obtain⟨gy,sy,ky,ey,rfl⟩:=hv2.shape
 have Ny:=Hid.mk_ hv2
 clear hv2
 have zy:w1.heap.size<w2.heap.size:=ox.lt
 go_wp2_with fail
 refine(m3 _ belowB).mono ?_
 rintro e w3 ⟨v3,rfl,hv3,hb3⟩
 have st:Steps _ w3:=hb3
 have Bn:=bA w st
 have na:=oa.stq st
 have nb:=ob.stq st
 have nr:=or.stq st
 have nx:=ox.stq st
 have oy:Blk w3 (w2.heap.size) 30 #[.bool gy,.slice sy ky ey]:=Blk.stepsA st
 clear B oa ob or ox ca0 ca1 ca2 ca3 fa la cb0 cb1 cb2 cb3 fb lb cr0 cr1 cr2 cr3 fr lr cx0 cx1 fx lx
 clear st
 have B:=Bn
 clear Bn
 have oa:=na
 clear na
 obtain⟨ca0,ca1,ca2,ca3,fa,la⟩:=oa.s3
 have ob:=nb
 clear nb
 obtain⟨cb0,cb1,cb2,cb3,fb,lb⟩:=ob.s3
 have or:=nr
 clear nr
 obtain⟨cr0,cr1,cr2,cr3,fr,lr⟩:=or.s3
 have ox:=nx
 clear nx
 obtain⟨cx0,cx1,fx,lx⟩:=ox.s1
 obtain⟨cy0,cy1,fy,ly⟩:=oy.s1
 clear m3
 have Nx3:=Hid.mk_ ((Nx2.out.alloc_ (.cells #[.bool gy,.slice sy ky ey] 30)).steps hb3)
 have Ny3:=Hid.mk_ ((Ny.out.alloc_ (.cells #[.bool gy,.slice sy ky ey] 30)).steps hb3)
 clear Nx2 Ny
 obtain⟨gd,sd,kd,ed,rfl⟩:=hv3.shape
 have Nd:=Hid.mk_ hv3
 clear hv3
 have zd:w2.heap.size<w3.heap.size:=oy.lt
 go_wp2_with fail
 refine(ad _ _ _ (Nx3.out.alloc_ _) (Ny3.out.alloc_ _)).mono ?_
 rintro e w4 ⟨v4,rfl,hv4,hb4⟩
 have st:Steps _ w4:=hb4
 have Bn:=bA w st
 have na:=oa.stq st
 have nb:=ob.stq st
 have nr:=or.stq st
 have nx:=ox.stq st
 have ny:=oy.stq st
 have od:Blk w4 (w3.heap.size) 30 #[.bool gd,.slice sd kd ed]:=Blk.stepsA st
 clear B oa ob or ox oy ca0 ca1 ca2 ca3 fa la cb0 cb1 cb2 cb3 fb lb cr0 cr1 cr2 cr3 fr lr cx0 cx1 fx lx cy0 cy1 fy ly
 clear st
 have B:=Bn
 clear Bn
 have oa:=na
 clear na
 obtain⟨ca0,ca1,ca2,ca3,fa,la⟩:=oa.s3
 have ob:=nb
 clear nb
 obtain⟨cb0,cb1,cb2,cb3,fb,lb⟩:=ob.s3
 have or:=nr
 clear nr
 obtain⟨cr0,cr1,cr2,cr3,fr,lr⟩:=or.s3
 have ox:=nx
 clear nx
 obtain⟨cx0,cx1,fx,lx⟩:=ox.s1
 have oy:=ny
 clear ny
 obtain⟨cy0,cy1,fy,ly⟩:=oy.s1
 obtain⟨cd0,cd1,fd,ld⟩:=od.s1
 clear ad
 have Nd4:=Hid.mk_ ((Nd.out.alloc_ (.cells #[.bool gd,.slice sd kd ed] 30)).steps hb4)
 clear Nd
 clear Nx3 Ny3
 obtain⟨gn,sn,kn,en,rfl⟩:=hv4.shape
 have Nn:=Hid.mk_ hv4
 clear hv4
 have zn:w3.heap.size<w4.heap.size:=od.lt
 go_wp2_with fail
 refine(rd _ _ _ (Nn.out.alloc_ _) (Nd4.out.alloc_ _)).mono ?_
 rintro e w5 ⟨v6,rfl,hf,st⟩
 have Bn:=bA w st
 have na:=oa.stq st
 have nb:=ob.stq st
 have nr:=or.stq st
 have nx:=ox.stq st
 have ny:=oy.stq st
 have nd:=od.stq st
 have on:Blk w5 (w4.heap.size) 30 #[.bool gn,.slice sn kn en]:=Blk.stepsA st
 clear B oa ob or ox oy od ca0 ca1 ca2 ca3 fa la cb0 cb1 cb2 cb3 fb lb cr0 cr1 cr2 cr3 fr lr cx0 cx1 fx lx cy0 cy1 fy ly cd0 cd1 fd ld
 clear st
 have B:=Bn
 clear Bn
 have oa:=na
 clear na
 obtain⟨ca0,ca1,ca2,ca3,fa,la⟩:=oa.s3
 have ob:=nb
 clear nb
 obtain⟨cb0,cb1,cb2,cb3,fb,lb⟩:=ob.s3
 have or:=nr
 clear nr
 obtain⟨cr0,cr1,cr2,cr3,fr,lr⟩:=or.s3
 have ox:=nx
 clear nx
 obtain⟨cx0,cx1,fx,lx⟩:=ox.s1
 have oy:=ny
 clear ny
 obtain⟨cy0,cy1,fy,ly⟩:=oy.s1
 have od:=nd
 clear nd
 obtain⟨cd0,cd1,fd,ld⟩:=od.s1
 obtain⟨cn0,cn1,fn,ln⟩:=on.s1
 clear rd Nn Nd4
 obtain⟨h1,h2,h3,h4,h5,h6,h7,h8,rfl⟩:=hf.shape
 have HF:=Hid.mk_ hf
 clear hf
 dsimp only; repeat' (first | go_values | go_skip | go_guarded | go_step | go_upon)
 refine bodyPost_ret (by simp[results,Tryz.results121,go_sem,ca0,ca1,ca2,ca3,fa,la,cb0,cb1,cb2,cb3,fb,lb,cr0,cr1,cr2,cr3,fr,lr,cx0,cx1,fx,lx,cy0,cy1,fy,ly,cd0,cd1,fd,ld,cn0,cn1,fn,ln]; rfl) rfl ?_
 exact⟨_,rfl,HF.out.only or rfl ((Only.refl _ _).set.set.set.set),belowB⟩
theorem radded_less {va vb:Value} {p q x y:Int} (w:World) (ha:Frc w va p q) (hb:Frc w vb x y) (f1:fits (p*y)) (f2:fits (x*q)) (f3:fits (q*y)) (f4:fits (p*y+x*q)) (f5:fits (p*y-x*q)) :
  Calls Tryz.prog 121 #[va,vb,.bool true] w fun e w'=>∃v,e = .returned (.tuple #[v,.int .i64 0])∧Frc w' v (rdP (p*y-x*q) (q*y)) (rdQ (p*y-x*q) (q*y))∧Steps w w':=by
 have fa:=ha.fit
 have fb:=hb.fit
 obtain⟨ap,np,cp,aq,nq,cq,rfl,hp,hq⟩:=ha.nums
 obtain⟨bp_,mp,dp,bq,mq,dq,rfl,kp,kq⟩:=hb.nums
 have m1:=fun(w':World) (h:Steps w w')=>rmul_fits w' (hp.steps h) (kq.steps h) fa.1 fb.2.1 f1
 have m2:=fun(w':World) (h:Steps w w')=>rmul_fits w' (kp.steps h) (hq.steps h) fb.1 fa.2.1 f2
 have m3:=fun(w':World) (h:Steps w w')=>rmul_fits w' (hq.steps h) (kq.steps h) fa.2.1 fb.2.1 f3
 have h0:q*y≠0:=by have:=Int.mul_pos fa.2.2 fb.2.2; omega
 obtain⟨sgx,hgx⟩:∃b,decide (p<0)=b:=⟨_,rfl⟩
 obtain⟨sgy,hgy⟩:∃b,decide (x<0)=b:=⟨_,rfl⟩
 rw[hgx]at m1⊢
 rw[hgy]at m2⊢
 obtain⟨X,hX⟩:∃X,p*y=X:=⟨_,rfl⟩
 obtain⟨Y,hY⟩:∃Y,x*q=Y:=⟨_,rfl⟩
 obtain⟨Z,hZ⟩:∃Z,q*y=Z:=⟨_,rfl⟩
 rw[hX]at f1 f4 f5 m1⊢
 rw[hY]at f2 f4 f5 m2⊢
 rw[hZ]at f3 h0 m3⊢
 have ad:∀w' v1 v2,Num w' v1 X→Num w' v2 Y→Calls Tryz.prog 93 #[v1,v2] w' fun e w2=>∃v,e = .returned (.tuple #[v,.int .i64 0])∧Num w2 v (X+Y)∧Steps w' w2:=fun w' v1 v2 h1 h2=>radd_fits w' h1 h2 f1 f2 f4
 have sb:∀w' v1 v2,Num w' v1 X→Num w' v2 Y→Calls Tryz.prog 92 #[v1,v2] w' fun e w2=>∃v,e = .returned (.tuple #[v,.int .i64 0])∧Num w2 v (X-Y)∧Steps w' w2:=fun w' v1 v2 h1 h2=>rsub_fits w' h1 h2 f1 f2 f5
 have rd:∀w' v1 v2,Num w' v1 (X-Y)→Num w' v2 Z→Calls Tryz.prog 96 #[v1,v2] w' fun e w2=>∃v,e = .returned v∧Frc w2 v (rdP (X-Y) Z) (rdQ (X-Y) Z)∧Steps w' w2:=fun w' v1 v2 h1 h2=>rreduced w' h1 h2 f5 f3 h0
 clear hp hq kp kq fa fb ha hb f1 f2 f3 f4 f5 h0 hX hY hZ hgx hgy
 go_enter Tryz.func121,Tryz.ntmps121
 go_wp2_with fail
 refine(m1 _ belowB).mono ?_
 rintro e w1 ⟨v1,rfl,hv1,st⟩
 have Bn:=bA w st
 have oa:Blk w1 (w.heap.size) 32 #[.bool sgx,.slice ap np cp,.bool false,.slice aq nq cq]:=Blk.stepsA st
 have ob:Blk w1 (w.heap.size+1) 32 #[.bool sgy,.slice bp_ mp dp,.bool false,.slice bq mq dq]:=Blk.stepsA st
 have or:Blk w1 (w.heap.size+1+1) 32 #[.bool false,.slice none 0 0,.bool false,.slice none 0 0]:=Blk.stepsA st
 clear st
 have B:=Bn
 clear Bn
 obtain⟨ca0,ca1,ca2,ca3,fa,la⟩:=oa.s3
 obtain⟨cb0,cb1,cb2,cb3,fb,lb⟩:=ob.s3
 obtain⟨cr0,cr1,cr2,cr3,fr,lr⟩:=or.s3
 clear m1
 obtain⟨gx,sx,kx,ex,rfl⟩:=hv1.shape
 have Nx:=Hid.mk_ hv1
 clear hv1
 have zx:w.heap.size+1+1<w1.heap.size:=or.lt
 go_wp2_with fail
 refine(m2 _ belowB).mono ?_
 rintro e w2 ⟨v2,rfl,hv2,hb2⟩
 have st:Steps _ w2:=hb2
 have Bn:=bA w st
 have na:=oa.stq st
 have nb:=ob.stq st
 have nr:=or.stq st
 have ox:Blk w2 (w1.heap.size) 30 #[.bool gx,.slice sx kx ex]:=Blk.stepsA st
 clear B oa ob or ca0 ca1 ca2 ca3 fa la cb0 cb1 cb2 cb3 fb lb cr0 cr1 cr2 cr3 fr lr
 clear st
 have B:=Bn
 clear Bn
 have oa:=na
 clear na
 obtain⟨ca0,ca1,ca2,ca3,fa,la⟩:=oa.s3
 have ob:=nb
 clear nb
 obtain⟨cb0,cb1,cb2,cb3,fb,lb⟩:=ob.s3
 have or:=nr
 clear nr
 obtain⟨cr0,cr1,cr2,cr3,fr,lr⟩:=or.s3
 obtain⟨cx0,cx1,fx,lx⟩:=ox.s1
 clear m2
 have Nx2:=Hid.mk_ ((Nx.out.alloc_ (.cells #[.bool gx,.slice sx kx ex] 30)).steps hb2)
 clear Nx
 obtain⟨gy,sy,ky,ey,rfl⟩:=hv2.shape
 have Ny:=Hid.mk_ hv2
 clear hv2
 have zy:w1.heap.size<w2.heap.size:=ox.lt
 go_wp2_with fail
 refine(m3 _ belowB).mono ?_
 rintro e w3 ⟨v3,rfl,hv3,hb3⟩
 have st:Steps _ w3:=hb3
 have Bn:=bA w st
 have na:=oa.stq st
 have nb:=ob.stq st
 have nr:=or.stq st
 have nx:=ox.stq st
 have oy:Blk w3 (w2.heap.size) 30 #[.bool gy,.slice sy ky ey]:=Blk.stepsA st
 clear B oa ob or ox ca0 ca1 ca2 ca3 fa la cb0 cb1 cb2 cb3 fb lb cr0 cr1 cr2 cr3 fr lr cx0 cx1 fx lx
 clear st
 have B:=Bn
 clear Bn
 have oa:=na
 clear na
 obtain⟨ca0,ca1,ca2,ca3,fa,la⟩:=oa.s3
 have ob:=nb
 clear nb
 obtain⟨cb0,cb1,cb2,cb3,fb,lb⟩:=ob.s3
 have or:=nr
 clear nr
 obtain⟨cr0,cr1,cr2,cr3,fr,lr⟩:=or.s3
 have ox:=nx
 clear nx
 obtain⟨cx0,cx1,fx,lx⟩:=ox.s1
 obtain⟨cy0,cy1,fy,ly⟩:=oy.s1
 clear m3
 have Nx3:=Hid.mk_ ((Nx2.out.alloc_ (.cells #[.bool gy,.slice sy ky ey] 30)).steps hb3)
 have Ny3:=Hid.mk_ ((Ny.out.alloc_ (.cells #[.bool gy,.slice sy ky ey] 30)).steps hb3)
 clear Nx2 Ny
 obtain⟨gd,sd,kd,ed,rfl⟩:=hv3.shape
 have Nd:=Hid.mk_ hv3
 clear hv3
 have zd:w2.heap.size<w3.heap.size:=oy.lt
 go_wp2_with fail
 refine(ad _ _ _ (Nx3.out.alloc_ _) (Ny3.out.alloc_ _)).mono ?_
 rintro e w4 ⟨v4,rfl,hv4,hb4⟩
 have st:Steps _ w4:=hb4
 have Bn:=bA w st
 have na:=oa.stq st
 have nb:=ob.stq st
 have nr:=or.stq st
 have nx:=ox.stq st
 have ny:=oy.stq st
 have od:Blk w4 (w3.heap.size) 30 #[.bool gd,.slice sd kd ed]:=Blk.stepsA st
 clear B oa ob or ox oy ca0 ca1 ca2 ca3 fa la cb0 cb1 cb2 cb3 fb lb cr0 cr1 cr2 cr3 fr lr cx0 cx1 fx lx cy0 cy1 fy ly
 clear st
 have B:=Bn
 clear Bn
 have oa:=na
 clear na
 obtain⟨ca0,ca1,ca2,ca3,fa,la⟩:=oa.s3
 have ob:=nb
 clear nb
 obtain⟨cb0,cb1,cb2,cb3,fb,lb⟩:=ob.s3
 have or:=nr
 clear nr
 obtain⟨cr0,cr1,cr2,cr3,fr,lr⟩:=or.s3
 have ox:=nx
 clear nx
 obtain⟨cx0,cx1,fx,lx⟩:=ox.s1
 have oy:=ny
 clear ny
 obtain⟨cy0,cy1,fy,ly⟩:=oy.s1
 obtain⟨cd0,cd1,fd,ld⟩:=od.s1
 clear ad
 have Nd4:=Hid.mk_ ((Nd.out.alloc_ (.cells #[.bool gd,.slice sd kd ed] 30)).steps hb4)
 clear Nd
 have Nx4:=Hid.mk_ ((Nx3.out.alloc_ (.cells #[.bool gd,.slice sd kd ed] 30)).steps hb4)
 have Ny4:=Hid.mk_ ((Ny3.out.alloc_ (.cells #[.bool gd,.slice sd kd ed] 30)).steps hb4)
 clear Nx3 Ny3
 obtain⟨gn,sn,kn,en,rfl⟩:=hv4.shape
 have Nn:=Hid.mk_ hv4
 clear hv4
 have zn:w3.heap.size<w4.heap.size:=od.lt
 go_wp2_with fail
 refine(sb _ _ _ (Nx4.out.alloc_ _) (Ny4.out.alloc_ _)).mono ?_
 rintro e w5 ⟨v5,rfl,hv5,hb5⟩
 have st:Steps _ w5:=hb5
 have Bn:=bA w st
 have na:=oa.stq st
 have nb:=ob.stq st
 have nr:=or.stq st
 have nx:=ox.stq st
 have ny:=oy.stq st
 have nd:=od.stq st
 have on:Blk w5 (w4.heap.size) 30 #[.bool gn,.slice sn kn en]:=Blk.stepsA st
 clear B oa ob or ox oy od ca0 ca1 ca2 ca3 fa la cb0 cb1 cb2 cb3 fb lb cr0 cr1 cr2 cr3 fr lr cx0 cx1 fx lx cy0 cy1 fy ly cd0 cd1 fd ld
 clear st
 have B:=Bn
 clear Bn
 have oa:=na
 clear na
 obtain⟨ca0,ca1,ca2,ca3,fa,la⟩:=oa.s3
 have ob:=nb
 clear nb
 obtain⟨cb0,cb1,cb2,cb3,fb,lb⟩:=ob.s3
 have or:=nr
 clear nr
 obtain⟨cr0,cr1,cr2,cr3,fr,lr⟩:=or.s3
 have ox:=nx
 clear nx
 obtain⟨cx0,cx1,fx,lx⟩:=ox.s1
 have oy:=ny
 clear ny
 obtain⟨cy0,cy1,fy,ly⟩:=oy.s1
 have od:=nd
 clear nd
 obtain⟨cd0,cd1,fd,ld⟩:=od.s1
 obtain⟨cn0,cn1,fn,ln⟩:=on.s1
 clear sb Nx4 Ny4
 obtain⟨gm,sm,km,em,rfl⟩:=hv5.shape
 have Nm:=Hid.mk_ hv5
 clear hv5
 have on':=on
 have Nd5:=Hid.mk_ ((Nd4.out.alloc_ (.cells #[.bool gn,.slice sn kn en] 30)).steps hb5)
 clear Nd4 Nn
 go_wp2_with fail
 refine(rd _ _ _ (Nm.out.put2 on') (Nd5.out.put2 on')).mono ?_
 rintro e w6 ⟨v6,rfl,hf,st⟩
 have Bn:=bA w st
 have na:=oa.stq st
 have nb:=ob.stq st
 have nr:=or.stq st
 have nx:=ox.stq st
 have ny:=oy.stq st
 have nd:=od.stq st
 replace on:Blk w6 (w4.heap.size) 30 #[.bool gm,.slice sm km em]:=Blk.stepsA st
 clear B oa ob or ox oy od ca0 ca1 ca2 ca3 fa la cb0 cb1 cb2 cb3 fb lb cr0 cr1 cr2 cr3 fr lr cx0 cx1 fx lx cy0 cy1 fy ly cd0 cd1 fd ld cn0 cn1 fn ln
 clear st
 have B:=Bn
 clear Bn
 have oa:=na
 clear na
 obtain⟨ca0,ca1,ca2,ca3,fa,la⟩:=oa.s3
 have ob:=nb
 clear nb
 obtain⟨cb0,cb1,cb2,cb3,fb,lb⟩:=ob.s3
 have or:=nr
 clear nr
 obtain⟨cr0,cr1,cr2,cr3,fr,lr⟩:=or.s3
 have ox:=nx
 clear nx
 obtain⟨cx0,cx1,fx,lx⟩:=ox.s1
 have oy:=ny
 clear ny
 obtain⟨cy0,cy1,fy,ly⟩:=oy.s1
 have od:=nd
 clear nd
 obtain⟨cd0,cd1,fd,ld⟩:=od.s1
 obtain⟨cn0,cn1,fn,ln⟩:=on.s1
 clear rd
 obtain⟨h1,h2,h3,h4,h5,h6,h7,h8,rfl⟩:=hf.shape
 have HF:=Hid.mk_ hf
 clear hf
 dsimp only; repeat' (first | go_values | go_skip | go_guarded | go_step | go_upon)
 refine bodyPost_ret (by simp[results,Tryz.results121,go_sem,ca0,ca1,ca2,ca3,fa,la,cb0,cb1,cb2,cb3,fb,lb,cr0,cr1,cr2,cr3,fr,lr,cx0,cx1,fx,lx,cy0,cy1,fy,ly,cd0,cd1,fd,ld,cn0,cn1,fn,ln]; rfl) rfl ?_
 exact⟨_,rfl,HF.out.only or rfl ((Only.refl _ _).set.set.set.set),belowB⟩
def Bad (w:World) (v:Value):Prop:=∃gx sa gy sb la lb,v = .agg #[.bool gx,sa,.bool gy,sb]∧Lim w sa la∧Lim w sb lb∧¬validF gx la gy lb
theorem Bad.keeps {w w':World} {v:Value} (h:Bad w v) (k:Keeps w w'):Bad w' v:=by
 obtain⟨gx,sa,gy,sb,la,lb,e,l1,l2,hv⟩:=h
 exact⟨gx,sa,gy,sb,la,lb,e,k _ _ l1,k _ _ l2,hv⟩
theorem Bad.shape {w:World} {v:Value} (h:Bad w v):∃a s n c b t m d,v = .agg #[.bool a,.slice s n c,.bool b,.slice t m d]:=by
 obtain⟨gx,sa,gy,sb,la,lb,e,l1,l2,hv⟩:=h
 obtain⟨s,c,rfl⟩:=l1.shape
 obtain⟨t,d,rfl⟩:=l2.shape
 exact⟨_,_,_,_,_,_,_,_,e⟩
theorem raw_cases {w:World} {gx gy:Bool} {sa sb:Value} {la lb:List Int} (ha:Lim w sa la) (hb:Lim w sb lb):(∃r,FR w (.agg #[.bool gx,sa,.bool gy,sb]) r∧absN r.num≤bp la.length∧(r.den:Int)≤bp lb.length)∨Bad w (.agg #[.bool gx,sa,.bool gy,sb]):=by
 by_cases h:validF gx la gy lb
 ·
  left
  obtain⟨r,e1,e2,hr⟩:=(Frc.of_valid ha hb h).fr
  have h1:=lval_lt ha.ok
  have h2:=lval_lt hb.ok
  refine⟨r,hr,?_,by rw[e2]; omega⟩
  rw[e1,absN_zv gx (lval_nonneg ha.ok)]; omega
 · right; exact⟨gx,sa,gy,sb,la,lb,rfl,ha,hb,h⟩
theorem rfcheck_q {v:Value} {r:Rat} (w:World) (h:FR w v r):Calls Tryz.prog 90 #[v] w fun e w'=>e = .returned (.int .i64 0)∧Steps w w':=rfcheck_ok w h
theorem rfcheck_bad {v:Value} (w:World) (h:Bad w v):Calls Tryz.prog 90 #[v] w fun e w'=>e = .returned (.int .i64 8)∧Steps w w':=by
 obtain⟨gx,sa,gy,sb,la,lb,rfl,l1,l2,hv⟩:=h
 have:=rfcheck gx gy w l1 l2
 rw[errC_eq,if_neg hv]at this
 exact this
theorem rfboth_q {va vb:Value} {r s:Rat} (w:World) (ha:FR w va r) (hb:FR w vb s) :
  Calls Tryz.prog 82 #[va,vb] w fun e w'=>e = .returned (.int .i64 0)∧Steps w w':=by
 obtain⟨a1,a2,a3,a4,a5,a6,a7,a8,rfl⟩:=ha.shape
 obtain⟨b1,b2,b3,b4,b5,b6,b7,b8,rfl⟩:=hb.shape
 have Fa:=Hid.mk_ ha
 clear ha
 have Fb:=Hid.mk_ hb
 clear hb
 go_enter Tryz.func82,Tryz.ntmps82
 go_wp2_with fail
 refine(rfcheck_q _ (Fa.out.keeps keepsB)).mono ?_
 rintro e w1 ⟨rfl,st⟩
 have Bn:=bA w st
 have kp:=kB w st
 have oa:Blk w1 (w.heap.size) 32 #[.bool a1,.slice a2 a3 a4,.bool a5,.slice a6 a7 a8]:=Blk.stepsK st
 have ob:Blk w1 (w.heap.size+1) 32 #[.bool b1,.slice b2 b3 b4,.bool b5,.slice b6 b7 b8]:=Blk.stepsK st
 clear st
 have B:=Bn
 clear Bn
 replace Fa:=Hid.mk_ (Fa.out.keeps kp)
 replace Fb:=Hid.mk_ (Fb.out.keeps kp)
 clear kp
 obtain⟨ca0,ca1,ca2,ca3,fa,la⟩:=oa.s3
 obtain⟨cb0,cb1,cb2,cb3,fb,lb⟩:=ob.s3
 go_wp2_with fail
 refine(rfcheck_q _ (Fb.out.keeps keepsB)).mono ?_
 rintro e w2 ⟨rfl,st⟩
 have Bn:=bA w st
 have kp:=kB w1 st
 have na:=oa.stp st
 have nb:=ob.stp st
 clear B oa ob ca0 ca1 ca2 ca3 fa la cb0 cb1 cb2 cb3 fb lb
 clear st
 have B:=Bn
 clear Bn
 replace Fa:=Hid.mk_ (Fa.out.keeps kp)
 replace Fb:=Hid.mk_ (Fb.out.keeps kp)
 clear kp
 have oa:=na
 clear na
 obtain⟨ca0,ca1,ca2,ca3,fa,la⟩:=oa.s3
 have ob:=nb
 clear nb
 obtain⟨cb0,cb1,cb2,cb3,fb,lb⟩:=ob.s3
 go_wp2
 go_returns
 exact⟨rfl,belowB⟩
theorem rMulQ {va vb:Value} {r s:Rat} {i j:Nat} (w:World) (ha:FR w va r) (hb:FR w vb s) (hr:sz r i) (hs:sz s j) (hk:i+j≤4095) :
  Calls Tryz.prog 55 #[va,vb] w fun e w'=>∃v,e = .returned (.tuple #[v,.int .i64 0])∧FR w' v (r*s)∧Steps w w':=by
 have fa:=ha.fit
 have fb:=hb.fit
 have bo:=fun(w':World) (h:Steps w w')=>rfboth_q w' (ha.steps h) (hb.steps h)
 obtain⟨a2,a3,a4,a6,a7,a8,rfl,na,da,-⟩:=ha.nums
 obtain⟨b2,b3,b4,b6,b7,b8,rfl,nb',db,-⟩:=hb.nums
 have d1:absN (r.den:Int)≤bp i:=by rw[den_abs]; exact hr.2
 have d2:absN (s.den:Int)≤bp j:=by rw[den_abs]; exact hs.2
 have g1:=fits_bp (absN_mul_le hr.1 hs.1) hk
 have g2:=fits_bp (absN_mul_le d1 d2) hk
 have pr:∀w',Steps w w'→Calls Tryz.prog 86 #[.agg #[.bool (decide (r<0)),.slice a2 a3 a4],.agg #[.bool (decide (s<0)),.slice b2 b3 b4],.agg #[.bool false,.slice a6 a7 a8],.agg #[.bool false,.slice b6 b7 b8]] w' fun e w2=>∃v,e = .returned (.tuple #[v,.int .i64 0])∧FR w2 v (r*s)∧Steps w' w2:=fun w' h=>by
  refine(rproduct w' (na.steps h) (nb'.steps h) (da.steps h) (db.steps h) fa.1 fb.1 fa.2 fb.2 g1 g2 (dens_ne r s)).mono ?_
  rintro e w2 ⟨v,rfl,h1,h2⟩
  have h3:=FR.of_rd (dens_ne r s) h1
  rw[mul_frac]at h3
  exact⟨v,rfl,h3,h2⟩
 obtain⟨ga,hga⟩:∃g,decide (r<0)=g:=⟨_,rfl⟩
 obtain⟨gb,hgb⟩:∃g,decide (s<0)=g:=⟨_,rfl⟩
 rw[hga,hgb]at pr bo⊢
 clear hga hgb na da nb' db d1 d2 g1 g2 fa fb ha hb hr hs hk
 go_enter Tryz.func55,Tryz.ntmps55
 go_wp2_with fail
 refine(bo _ belowB).mono ?_
 rintro e w1 ⟨rfl,st⟩
 have Bn:=bA w st
 have oa:Blk w1 (w.heap.size) 32 #[.bool ga,.slice a2 a3 a4,.bool false,.slice a6 a7 a8]:=Blk.stepsK st
 have ob:Blk w1 (w.heap.size+1) 32 #[.bool gb,.slice b2 b3 b4,.bool false,.slice b6 b7 b8]:=Blk.stepsK st
 have or:Blk w1 (w.heap.size+1+1) 32 #[.bool false,.slice none 0 0,.bool false,.slice none 0 0]:=Blk.stepsK st
 clear st
 have B:=Bn
 clear Bn
 obtain⟨ca0,ca1,ca2,ca3,fa,la⟩:=oa.s3
 obtain⟨cb0,cb1,cb2,cb3,fb,lb⟩:=ob.s3
 obtain⟨cr0,cr1,cr2,cr3,fr,lr⟩:=or.s3
 clear bo
 go_wp2_with fail
 refine(pr _ B).mono ?_
 rintro e w2 ⟨vq,rfl,hvq,st⟩
 have Bn:=bA w st
 have na:=oa.stp st
 have nb:=ob.stp st
 have nr:=or.stp st
 clear B oa ob or ca0 ca1 ca2 ca3 fa la cb0 cb1 cb2 cb3 fb lb cr0 cr1 cr2 cr3 fr lr
 clear st
 have B:=Bn
 clear Bn
 have oa:=na
 clear na
 obtain⟨ca0,ca1,ca2,ca3,fa,la⟩:=oa.s3
 have ob:=nb
 clear nb
 obtain⟨cb0,cb1,cb2,cb3,fb,lb⟩:=ob.s3
 have or:=nr
 clear nr
 obtain⟨cr0,cr1,cr2,cr3,fr,lr⟩:=or.s3
 obtain⟨q1,q2,q3,q4,q5,q6,q7,q8,rfl⟩:=hvq.shape
 have Fq:=Hid.mk_ hvq
 clear hvq
 clear pr
 dsimp only; repeat' (first | go_values | go_skip | go_guarded | go_step | go_upon)
 refine bodyPost_ret (by simp[results,Tryz.results55,go_sem,ca0,ca1,ca2,ca3,fa,la,cb0,cb1,cb2,cb3,fb,lb,cr0,cr1,cr2,cr3,fr,lr]; rfl) rfl ?_
 exact⟨_,rfl,Fq.out.keeps keepsB,belowB⟩
theorem rAddQ {va vb:Value} {r s:Rat} {i j:Nat} (w:World) (ha:FR w va r) (hb:FR w vb s) (hr:sz r i) (hs:sz s j) (hk:i+j≤4094) :
  Calls Tryz.prog 87 #[va,vb] w fun e w'=>∃v,e = .returned (.tuple #[v,.int .i64 0])∧FR w' v (r+s)∧Steps w w':=by
 have fa:=ha.fit
 have fb:=hb.fit
 have bo:=fun(w':World) (h:Steps w w')=>rfboth_q w' (ha.steps h) (hb.steps h)
 obtain⟨h1,h2,h3⟩:=sum_size hr hs
 have g1:=fits_bp h1 (by omega)
 have g2:=fits_bp h2 (by omega)
 have g3:=fits_bp h3 (by omega)
 have g4:=fits_bp (absN_add_le h1 h2) (by omega)
 have g5:fits (r.num*s.den-s.num*r.den):=by rw[Int.sub_eq_add_neg]; exact fits_bp (absN_add_le h1 (by rw[absN_neg]; exact h2)) (by omega)
 have pr:∀w',Steps w w'→Calls Tryz.prog 121 #[va,vb,.bool false] w' fun e w2=>∃v,e = .returned (.tuple #[v,.int .i64 0])∧FR w2 v (r+s)∧Steps w' w2:=fun w' h=>by
  refine(radded_more w' (ha.steps h) (hb.steps h) g1 g2 g3 g4 g5).mono ?_
  rintro e w2 ⟨v,rfl,h1,h2⟩
  have h3:=FR.of_rd (dens_ne r s) h1
  rw[add_frac]at h3
  exact⟨v,rfl,h3,h2⟩
 obtain⟨a1,a2,a3,a4,a5,a6,a7,a8,rfl⟩:=ha.shape
 obtain⟨b1,b2,b3,b4,b5,b6,b7,b8,rfl⟩:=hb.shape
 clear g1 g2 g3 g4 g5 h1 h2 h3 fa fb ha hb hr hs hk
 go_enter Tryz.func87,Tryz.ntmps87
 go_wp2_with fail
 refine(bo _ belowB).mono ?_
 rintro e w1 ⟨rfl,st⟩
 have Bn:=bA w st
 have oa:Blk w1 (w.heap.size) 32 #[.bool a1,.slice a2 a3 a4,.bool a5,.slice a6 a7 a8]:=Blk.stepsK st
 have ob:Blk w1 (w.heap.size+1) 32 #[.bool b1,.slice b2 b3 b4,.bool b5,.slice b6 b7 b8]:=Blk.stepsK st
 have or:Blk w1 (w.heap.size+1+1) 32 #[.bool false,.slice none 0 0,.bool false,.slice none 0 0]:=Blk.stepsK st
 clear st
 have B:=Bn
 clear Bn
 obtain⟨ca0,ca1,ca2,ca3,fa,la⟩:=oa.s3
 obtain⟨cb0,cb1,cb2,cb3,fb,lb⟩:=ob.s3
 obtain⟨cr0,cr1,cr2,cr3,fr,lr⟩:=or.s3
 clear bo
 go_wp2_with fail
 refine(pr _ B).mono ?_
 rintro e w2 ⟨vq,rfl,hvq,st⟩
 have Bn:=bA w st
 have na:=oa.stp st
 have nb:=ob.stp st
 have nr:=or.stp st
 clear B oa ob or ca0 ca1 ca2 ca3 fa la cb0 cb1 cb2 cb3 fb lb cr0 cr1 cr2 cr3 fr lr
 clear st
 have B:=Bn
 clear Bn
 have oa:=na
 clear na
 obtain⟨ca0,ca1,ca2,ca3,fa,la⟩:=oa.s3
 have ob:=nb
 clear nb
 obtain⟨cb0,cb1,cb2,cb3,fb,lb⟩:=ob.s3
 have or:=nr
 clear nr
 obtain⟨cr0,cr1,cr2,cr3,fr,lr⟩:=or.s3
 obtain⟨q1,q2,q3,q4,q5,q6,q7,q8,rfl⟩:=hvq.shape
 have Fq:=Hid.mk_ hvq
 clear hvq
 clear pr
 dsimp only; repeat' (first | go_values | go_skip | go_guarded | go_step | go_upon)
 refine bodyPost_ret (by simp[results,Tryz.results87,go_sem,ca0,ca1,ca2,ca3,fa,la,cb0,cb1,cb2,cb3,fb,lb,cr0,cr1,cr2,cr3,fr,lr]; rfl) rfl ?_
 exact⟨_,rfl,Fq.out.keeps keepsB,belowB⟩
theorem rSubQ {va vb:Value} {r s:Rat} {i j:Nat} (w:World) (ha:FR w va r) (hb:FR w vb s) (hr:sz r i) (hs:sz s j) (hk:i+j≤4094) :
  Calls Tryz.prog 89 #[va,vb] w fun e w'=>∃v,e = .returned (.tuple #[v,.int .i64 0])∧FR w' v (r-s)∧Steps w w':=by
 have fa:=ha.fit
 have fb:=hb.fit
 have bo:=fun(w':World) (h:Steps w w')=>rfboth_q w' (ha.steps h) (hb.steps h)
 obtain⟨h1,h2,h3⟩:=sum_size hr hs
 have g1:=fits_bp h1 (by omega)
 have g2:=fits_bp h2 (by omega)
 have g3:=fits_bp h3 (by omega)
 have g4:=fits_bp (absN_add_le h1 h2) (by omega)
 have g5:fits (r.num*s.den-s.num*r.den):=by rw[Int.sub_eq_add_neg]; exact fits_bp (absN_add_le h1 (by rw[absN_neg]; exact h2)) (by omega)
 have pr:∀w',Steps w w'→Calls Tryz.prog 121 #[va,vb,.bool true] w' fun e w2=>∃v,e = .returned (.tuple #[v,.int .i64 0])∧FR w2 v (r-s)∧Steps w' w2:=fun w' h=>by
  refine(radded_less w' (ha.steps h) (hb.steps h) g1 g2 g3 g4 g5).mono ?_
  rintro e w2 ⟨v,rfl,h1,h2⟩
  have h3:=FR.of_rd (dens_ne r s) h1
  rw[sub_frac]at h3
  exact⟨v,rfl,h3,h2⟩
 obtain⟨a1,a2,a3,a4,a5,a6,a7,a8,rfl⟩:=ha.shape
 obtain⟨b1,b2,b3,b4,b5,b6,b7,b8,rfl⟩:=hb.shape
 clear g1 g2 g3 g4 g5 h1 h2 h3 fa fb ha hb hr hs hk
 go_enter Tryz.func89,Tryz.ntmps89
 go_wp2_with fail
 refine(bo _ belowB).mono ?_
 rintro e w1 ⟨rfl,st⟩
 have Bn:=bA w st
 have oa:Blk w1 (w.heap.size) 32 #[.bool a1,.slice a2 a3 a4,.bool a5,.slice a6 a7 a8]:=Blk.stepsK st
 have ob:Blk w1 (w.heap.size+1) 32 #[.bool b1,.slice b2 b3 b4,.bool b5,.slice b6 b7 b8]:=Blk.stepsK st
 have or:Blk w1 (w.heap.size+1+1) 32 #[.bool false,.slice none 0 0,.bool false,.slice none 0 0]:=Blk.stepsK st
 clear st
 have B:=Bn
 clear Bn
 obtain⟨ca0,ca1,ca2,ca3,fa,la⟩:=oa.s3
 obtain⟨cb0,cb1,cb2,cb3,fb,lb⟩:=ob.s3
 obtain⟨cr0,cr1,cr2,cr3,fr,lr⟩:=or.s3
 clear bo
 go_wp2_with fail
 refine(pr _ B).mono ?_
 rintro e w2 ⟨vq,rfl,hvq,st⟩
 have Bn:=bA w st
 have na:=oa.stp st
 have nb:=ob.stp st
 have nr:=or.stp st
 clear B oa ob or ca0 ca1 ca2 ca3 fa la cb0 cb1 cb2 cb3 fb lb cr0 cr1 cr2 cr3 fr lr
 clear st
 have B:=Bn
 clear Bn
 have oa:=na
 clear na
 obtain⟨ca0,ca1,ca2,ca3,fa,la⟩:=oa.s3
 have ob:=nb
 clear nb
 obtain⟨cb0,cb1,cb2,cb3,fb,lb⟩:=ob.s3
 have or:=nr
 clear nr
 obtain⟨cr0,cr1,cr2,cr3,fr,lr⟩:=or.s3
 obtain⟨q1,q2,q3,q4,q5,q6,q7,q8,rfl⟩:=hvq.shape
 have Fq:=Hid.mk_ hvq
 clear hvq
 clear pr
 dsimp only; repeat' (first | go_values | go_skip | go_guarded | go_step | go_upon)
 refine bodyPost_ret (by simp[results,Tryz.results89,go_sem,ca0,ca1,ca2,ca3,fa,la,cb0,cb1,cb2,cb3,fb,lb,cr0,cr1,cr2,cr3,fr,lr]; rfl) rfl ?_
 exact⟨_,rfl,Fq.out.keeps keepsB,belowB⟩
theorem rCmpQ {va vb:Value} {r s:Rat} {i j:Nat} (w:World) (ha:FR w va r) (hb:FR w vb s) (hr:sz r i) (hs:sz s j) (hk:i+j≤4095) :
  Calls Tryz.prog 52 #[va,vb] w fun e w'=>e = .returned (.tuple #[.int .i64 (cmpQ r s),.int .i64 0])∧Steps w w':=by
 have fa:=ha.fit
 have fb:=hb.fit
 have bo:=fun(w':World) (h:Steps w w')=>rfboth_q w' (ha.steps h) (hb.steps h)
 obtain⟨h1,h2,h3⟩:=sum_size hr hs
 have g1:=fits_bp h1 hk
 have g2:=fits_bp h2 hk
 obtain⟨a2,a3,a4,a6,a7,a8,rfl,na,da,-⟩:=ha.nums
 obtain⟨b2,b3,b4,b6,b7,b8,rfl,nb',db,-⟩:=hb.nums
 have m1:=fun(w':World) (h:Steps w w')=>rmul_fits w' (na.steps h) (db.steps h) fa.1 fb.2 g1
 have m2:=fun(w':World) (h:Steps w w')=>rmul_fits w' (nb'.steps h) (da.steps h) fb.1 fa.2 g2
 have cm:∀w' v u,Num w' v (r.num*s.den)→Num w' u (s.num*r.den)→Calls Tryz.prog 84 #[v,u] w' fun e w2=>e = .returned (.int .i64 (cmpQ r s))∧Steps w' w2:=fun w' v u h1 h2=>by
  have:=rcompared w' h1 h2 g1 g2
  rw[cmpI_rat]at this
  exact this
 obtain⟨ga,hga⟩:∃g,decide (r<0)=g:=⟨_,rfl⟩
 obtain⟨gb,hgb⟩:∃g,decide (s<0)=g:=⟨_,rfl⟩
 obtain⟨c,hc⟩:∃c,cmpQ r s=c:=⟨_,rfl⟩
 rw[hga]at m1 bo⊢
 rw[hgb]at m2 bo⊢
 rw[hc]at cm⊢
 obtain⟨X,hX⟩:∃X:Int,r.num*s.den=X:=⟨_,rfl⟩
 obtain⟨Y,hY⟩:∃X:Int,s.num*r.den=X:=⟨_,rfl⟩
 rw[hX]at m1 cm
 rw[hY]at m2 cm
 clear hga hgb hc hX hY na da nb' db g1 g2 h1 h2 h3 fa fb ha hb hr hs hk
 go_enter Tryz.func52,Tryz.ntmps52
 go_wp2_with fail
 refine(bo _ belowB).mono ?_
 rintro e w1 ⟨rfl,st⟩
 have Bn:=bA w st
 have oa:Blk w1 (w.heap.size) 32 #[.bool ga,.slice a2 a3 a4,.bool false,.slice a6 a7 a8]:=Blk.stepsK st
 have ob:Blk w1 (w.heap.size+1) 32 #[.bool gb,.slice b2 b3 b4,.bool false,.slice b6 b7 b8]:=Blk.stepsK st
 clear st
 have B:=Bn
 clear Bn
 obtain⟨ca0,ca1,ca2,ca3,fa,la⟩:=oa.s3
 obtain⟨cb0,cb1,cb2,cb3,fb,lb⟩:=ob.s3
 clear bo
 go_wp2_with fail
 refine(m1 _ B).mono ?_
 rintro e w2 ⟨vx,rfl,hvx,st⟩
 have Bn:=bA w st
 have na:=oa.stp st
 have nb:=ob.stp st
 clear B oa ob ca0 ca1 ca2 ca3 fa la cb0 cb1 cb2 cb3 fb lb
 clear st
 have B:=Bn
 clear Bn
 have oa:=na
 clear na
 obtain⟨ca0,ca1,ca2,ca3,fa,la⟩:=oa.s3
 have ob:=nb
 clear nb
 obtain⟨cb0,cb1,cb2,cb3,fb,lb⟩:=ob.s3
 obtain⟨x1,x2,x3,x4,rfl⟩:=hvx.shape
 have Fx:=Hid.mk_ hvx
 clear hvx
 clear m1
 have zx:w.heap.size+1<w2.heap.size:=ob.lt
 go_wp2_with fail
 refine(m2 _ belowB).mono ?_
 rintro e w3 ⟨vy,rfl,hvy,st⟩
 have Bn:=bA w st
 have kp:=kB w2 st
 have na:=oa.stp st
 have nb:=ob.stp st
 have ox:Blk w3 (w2.heap.size) 30 #[.bool x1,.slice x2 x3 x4]:=Blk.stepsK st
 clear B oa ob ca0 ca1 ca2 ca3 fa la cb0 cb1 cb2 cb3 fb lb
 clear st
 have B:=Bn
 clear Bn
 replace Fx:=Hid.mk_ (Fx.out.keeps kp)
 clear kp
 have oa:=na
 clear na
 obtain⟨ca0,ca1,ca2,ca3,fa,la⟩:=oa.s3
 have ob:=nb
 clear nb
 obtain⟨cb0,cb1,cb2,cb3,fb,lb⟩:=ob.s3
 obtain⟨cx0,cx1,fx,lx⟩:=ox.s1
 obtain⟨y1,y2,y3,y4,rfl⟩:=hvy.shape
 have Fy:=Hid.mk_ hvy
 clear hvy
 clear m2
 have zy:w2.heap.size<w3.heap.size:=ox.lt
 go_wp2_with fail
 refine(cm _ _ _ (Fx.out.keeps keepsB) (Fy.out.keeps keepsB)).mono ?_
 rintro e w4 ⟨rfl,st⟩
 have Bn:=bA w st
 have kp:=kB w3 st
 have na:=oa.stp st
 have nb:=ob.stp st
 have nx:=ox.stp st
 have oy:Blk w4 (w3.heap.size) 30 #[.bool y1,.slice y2 y3 y4]:=Blk.stepsK st
 clear B oa ob ox ca0 ca1 ca2 ca3 fa la cb0 cb1 cb2 cb3 fb lb cx0 cx1 fx lx
 clear st
 have B:=Bn
 clear Bn
 replace Fx:=Hid.mk_ (Fx.out.keeps kp)
 replace Fy:=Hid.mk_ (Fy.out.keeps kp)
 clear kp
 have oa:=na
 clear na
 obtain⟨ca0,ca1,ca2,ca3,fa,la⟩:=oa.s3
 have ob:=nb
 clear nb
 obtain⟨cb0,cb1,cb2,cb3,fb,lb⟩:=ob.s3
 have ox:=nx
 clear nx
 obtain⟨cx0,cx1,fx,lx⟩:=ox.s1
 obtain⟨cy0,cy1,fy,ly⟩:=oy.s1
 go_wp2
 go_returns
 exact⟨rfl,belowB⟩
end Go.Proofs.YtdkcffnmlllamaaGreat
/- Quads as they come in: four indices, four fractions that are valid or not; lists of quads. -/
namespace Go.Proofs.YtdkcffnmlllamaaGreat
open Go.RowKit
def absQ (r:Rat):Rat:=if r<0 then -r else r
def FB (w:World) (v:Value):Option Rat→Prop
 | some r=>FR w v r
 | none=>Bad w v
theorem FB.keeps {w w':World} {v:Value} {o:Option Rat} (h:FB w v o) (k:Keeps w w'):FB w' v o:=by
 cases o with
 | none=>exact Bad.keeps h k
 | some r=>exact FR.keeps h k
def QX (w:World) (cs:Array Value) (r:Nat→Option Rat):Prop:=cs.size=20∧cs.all (·.oneCell')=true∧noU32 cs=true∧
 ∀i,i<4→∃a1 a2 a3 a4 a5 a6 a7 a8,cs[4+i*4]? = some (.bool a1)∧cs[4+i*4+1]? = some (.slice a2 a3 a4)∧cs[4+i*4+2]? = some (.bool a5)∧cs[4+i*4+3]? = some (.slice a6 a7 a8)∧FB w (.agg #[.bool a1,.slice a2 a3 a4,.bool a5,.slice a6 a7 a8]) (r i)
theorem QX.keeps {w w':World} {cs:Array Value} {r:Nat→Option Rat} (h:QX w cs r) (kp:Keeps w w'):QX w' cs r:=by
 obtain⟨h1,h2,h3,h4⟩:=h
 refine⟨h1,h2,h3,fun i hi=> ?_⟩
 obtain⟨a1,a2,a3,a4,a5,a6,a7,a8,c0,c1,c2,c3,f⟩:=h4 i hi
 exact⟨a1,a2,a3,a4,a5,a6,a7,a8,c0,c1,c2,c3,f.keeps kp⟩
theorem QX.steps {w w':World} {cs:Array Value} {r:Nat→Option Rat} (h:QX w cs r) (s:Steps w w'):QX w' cs r:=h.keeps (Keeps.steps s)
def QCells (w:World) (b o n:Nat) (CS:Nat→Array Value):Prop:=∀t,t<n→∀j,j<20→w.cell? ⟨b,o+t*20+j,none⟩=(CS t)[j]?
def QSl (w:World) (v:Value) (n:Nat) (CS:Nat→Array Value) (R:Nat→Nat→Option Rat):Prop:=
 (∀t,t<n→QX w (CS t) (R t))∧∃ao cap,v = .slice ao n cap∧n≤cap∧(0<n→∃b o,ao=some ⟨b,o,none⟩∧b<w.heap.size∧QCells w b o n CS)
theorem QSl.steps {w w':World} {v:Value} {n:Nat} {CS:Nat→Array Value} {R:Nat→Nat→Option Rat} (h:QSl w v n CS R) (s:Steps w w'):QSl w' v n CS R:=by
 obtain⟨h1,ao,cap,e,hc,h2⟩:=h
 refine⟨fun t ht=>(h1 t ht).steps s,ao,cap,e,hc,fun hn=> ?_⟩
 obtain⟨b,o,e2,hb,h3⟩:=h2 hn
 exact⟨b,o,e2,Nat.lt_of_lt_of_le hb s.size,fun t ht j hj=>(s.cell (p:=⟨b,_,none⟩) hb).trans (h3 t ht j hj)⟩
theorem QSl.shape {w:World} {v:Value} {n:Nat} {CS:Nat→Array Value} {R:Nat→Nat→Option Rat} (h:QSl w v n CS R):∃ao cap,v = .slice ao n cap:=by obtain⟨_,ao,cap,e,_⟩:=h; exact⟨ao,cap,e⟩
theorem QSl.at {w:World} {ao:Option Addr} {n cap:Nat} {CS:Nat→Array Value} {R:Nat→Nat→Option Rat} (h:QSl w (.slice ao n cap) n CS R) {t:Nat} (ht:t<n) :
  ∃b o,ao=some ⟨b,o,none⟩∧b<w.heap.size∧∀j,j<20→w.cell? ⟨b,o+t*20+j,none⟩=(CS t)[j]? :=by
 obtain⟨_,ao',cap',e,_,h2⟩:=h
 injection e with e1 e2 e3
 subst e1
 obtain⟨b,o,e2,hb,h3⟩:=h2 (by omega)
 exact⟨b,o,e2,hb,h3 t ht⟩
section
variable {P:Program}
end
def nearQ (a b:Nat→Rat) (off:Rat):Nat→Bool
 | 0=>true
 | i+1=>nearQ a b off i&&decide (absQ (a i-b i)≤off)
def wholeQ (r:Nat→Option Rat):Nat→Bool
 | 0=>true
 | i+1=>wholeQ r i&&(r i).isSome
theorem wholeQ_get {r:Nat→Option Rat} : ∀{n:Nat},wholeQ r n=true→∀i,i<n→∃q,r i=some q
 | n+1,h,i,hi=>by
  unfold wholeQ at h
  simp only[Bool.and_eq_true]at h
  rcases Nat.lt_or_ge i n with g | g
  · exact wholeQ_get h.1 i g
  ·
   obtain rfl:i=n:=by omega
   exact Option.isSome_iff_exists.1 h.2
def wholeL (R:Nat→Nat→Option Rat):Nat→Bool
 | 0=>true
 | t+1=>wholeL R t&&wholeQ (R t) 4
def rq (r:Nat→Option Rat) (i:Nat):Rat:=(r i).getD 0
def found (R:Nat→Nat→Option Rat) (q:Nat→Option Rat) (off:Rat):Nat→List Int
 | 0=> []
 | t+1=>if nearQ (rq (R t)) (rq q) off 4 then found R q off t ++ [(t:Int)]else found R q off t
end Go.Proofs.YtdkcffnmlllamaaGreat
/- Lists of numbers: sum, mean, variance, clipping (plain). -/
namespace Go.Proofs.YtdkcffnmlllamaaGreat
def sumI:List Int→Int
 | []=>0
 | x::l=>x+sumI l
def sqsI:List Int→Int
 | []=>0
 | x::l=>x*x+sqsI l
theorem sumI_app (a b:List Int):sumI (a++b)=sumI a+sumI b:=by
 induction a with
 | nil=>simp[sumI]
 | cons x a ih=>simp only[List.cons_append,sumI,ih]; omega
theorem sqsI_app (a b:List Int):sqsI (a++b)=sqsI a+sqsI b:=by
 induction a with
 | nil=>simp[sqsI]
 | cons x a ih=>simp only[List.cons_append,sqsI,ih]; omega
def nI (l:List Int):Int:=(l.length:Int)
def sprI (l:List Int):Int:=nI l*sqsI l-sumI l*sumI l
def meanQ (l:List Int):Rat:=(sumI l:Rat) / (nI l:Rat)
def varQ (l:List Int):Rat:=(sprI l:Rat) / ((nI l*nI l:Int):Rat)
def devQ (m:Rat):List Int→Rat
 | []=>0
 | x::l=>((x:Rat)-m)*((x:Rat)-m)+devQ m l
theorem devQ_app (m:Rat) (a b:List Int):devQ m (a++b)=devQ m a+devQ m b:=by
 induction a with
 | nil=>simp only[List.nil_append,devQ]; grind
 | cons x a ih=>simp only[List.cons_append,devQ,ih]; grind
theorem devQ_eq (m:Rat) (l:List Int):devQ m l=(sqsI l:Rat)-2*m*(sumI l:Rat)+(nI l:Rat)*m*m:=by
 induction l with
 | nil=>simp[devQ,sqsI,sumI,nI]; grind
 | cons x l ih=>
  have e:nI (x::l)=nI l+1:=by simp[nI]
  simp only[devQ,sqsI,sumI,ih,e,Rat.intCast_add,Rat.intCast_mul]
  have h1:((1:Int):Rat)=1:=rfl
  rw[h1]
  grind
theorem nI_ne {l:List Int} (h:l≠ []):(nI l:Rat)≠0:=by
 intro e
 have:=Rat.intCast_eq_zero_iff.1 e
 unfold nI at this
 exact h (List.eq_nil_of_length_eq_zero (by omega))
theorem nI_pos {l:List Int} (h:l≠ []):(0:Rat)<(nI l:Rat):=by
 refine Rat.intCast_pos.2 ?_
 unfold nI
 have:=List.length_pos_iff.2 h
 omega
theorem mean_mul {l:List Int} (h:l≠ []):meanQ l*(nI l:Rat)=(sumI l:Rat):=by
 unfold meanQ; exact Rat.div_mul_cancel (nI_ne h)
theorem var_mul {l:List Int} (h:l≠ []):varQ l*((nI l:Rat)*(nI l:Rat))=(nI l:Rat)*(sqsI l:Rat)-(sumI l:Rat)*(sumI l:Rat):=by
 have hn:=nI_ne h
 unfold varQ sprI
 rw[Rat.intCast_mul,Rat.intCast_sub,Rat.intCast_mul,Rat.intCast_mul]
 exact Rat.div_mul_cancel (by intro e; rcases Rat.mul_eq_zero.1 e with e | e<;>exact hn e)
theorem var_dev {l:List Int} (h:l≠ []):devQ (meanQ l) l=varQ l*(nI l:Rat):=by
 have hn:=nI_ne h
 have h1:=mean_mul h
 have h2:=var_mul h
 rw[devQ_eq]
 generalize meanQ l=m at *
 generalize varQ l=v at *
 generalize (nI l:Rat)=n at *
 generalize (sumI l:Rat)=s at *
 generalize (sqsI l:Rat)=q at *
 have e:(q-2*m*s+n*m*m)*n=v*n*n:=by subst h1; grind
 have:=congrArg (· / n) e
 simp only[Rat.mul_div_cancel hn]at this
 exact this
theorem var_div {l:List Int} (h:l≠ []):devQ (meanQ l) l / (nI l:Rat)=varQ l:=by
 rw[var_dev h,Rat.mul_div_cancel (nI_ne h)]
theorem sq_nonneg (x:Rat):0≤x*x:=by
 rcases(Rat.le_total:0≤x∨x≤0)with h | h
 · exact Rat.mul_nonneg h h
 ·
  have h2:0≤-x:=by grind
  have:=Rat.mul_nonneg h2 h2
  grind
theorem devQ_nonneg (m:Rat) (l:List Int):0≤devQ m l:=by
 induction l with
 | nil=>exact Rat.le_refl
 | cons x l ih=>have:=sq_nonneg ((x:Rat)-m); simp only[devQ]; grind
theorem devQ_lt {m c:Rat} {l:List Int} (hl:l≠ []) (h:∀x∈l,c<((x:Rat)-m)*((x:Rat)-m)):c*(nI l:Rat)<devQ m l:=by
 have ge:∀l:List Int,(∀x∈l,c<((x:Rat)-m)*((x:Rat)-m))→c*(nI l:Rat)≤devQ m l:=by
  intro l
  induction l with
  | nil=>intro _; simp[nI,devQ]
  | cons x l ih=>
   intro h
   have e:nI (x::l)=nI l+1:=by simp[nI]
   have h0:=h x (List.mem_cons_self ..)
   have h1:=ih (fun y hy=>h y (List.mem_cons_of_mem _ hy))
   simp only[devQ,e,Rat.intCast_add]
   have e1:((1:Int):Rat)=1:=rfl
   rw[e1]
   grind
 match l,hl with
 | x::l,_=>
  have e:nI (x::l)=nI l+1:=by simp[nI]
  have h0:=h x (List.mem_cons_self ..)
  have h1:=ge l (fun y hy=>h y (List.mem_cons_of_mem _ hy))
  simp only[devQ,e,Rat.intCast_add]
  have e1:((1:Int):Rat)=1:=rfl
  rw[e1]
  grind
theorem var_nonneg (l:List Int):0≤varQ l:=by
 by_cases h:l = []
 · subst h; decide +kernel
 ·
  have h1:=var_dev h
  have h2:=devQ_nonneg (meanQ l) l
  have h3:=nI_pos h
  rw[h1]at h2
  refine Rat.not_lt.1 fun g=> ?_
  have:=Rat.mul_lt_mul_of_pos_right g h3
  grind
def keepB (l:List Int) (k:Rat) (x:Int):Bool:=decide (((x:Rat)-meanQ l)*((x:Rat)-meanQ l)≤k*k*varQ l)
theorem keep_one {l:List Int} {k:Rat} (hk:1≤k) (hl:l≠ []):∃x∈l,keepB l k x=true:=by
 apply Classical.byContradiction
 intro hn
 have hall:∀x∈l,varQ l<((x:Rat)-meanQ l)*((x:Rat)-meanQ l):=by
  intro x hx
  refine Rat.not_le.1 fun g=>hn ⟨x,hx,?_⟩
  unfold keepB
  refine decide_eq_true (Rat.le_trans g ?_)
  have hv:=var_nonneg l
  have h1:1≤k*k:=by
   have:0≤(k-1)*(k-1):=sq_nonneg _
   grind
  have:0≤(k*k-1)*varQ l:=Rat.mul_nonneg (by grind) hv
  grind
 have h1:=devQ_lt hl hall
 rw[var_dev hl]at h1
 exact absurd h1 (Rat.lt_irrefl)
theorem keep_prog {l:List Int} {k:Rat} (hl:l≠ []) (x:Int):keepB l k x=decide (((nI l*x-sumI l)*k.den)*((nI l*x-sumI l)*k.den)≤k.num*k.num*sprI l):=by
 have hn:=nI_pos hl
 have h1:=mean_mul hl
 have h2:=var_mul hl
 have hd:(0:Rat)<((k.den:Int):Rat):=Rat.intCast_pos.2 (den_pos' k)
 have hk:(k.num:Rat)=k*((k.den:Int):Rat):=by rw[cast_den]; exact num_eq k
 unfold keepB
 refine decide_eq_decide.2 ?_
 rw[← Rat.intCast_le_intCast]
 unfold sprI
 simp only[Rat.intCast_mul,Rat.intCast_sub]
 rw[hk]
 generalize ((k.den:Int):Rat)=d at *
 generalize meanQ l=m at *
 generalize varQ l=v at *
 generalize (nI l:Rat)=n at *
 generalize (sumI l:Rat)=s at *
 generalize (sqsI l:Rat)=q at *
 generalize (x:Rat)=y at *
 rw[← h2,← h1]
 have hp:0<n*n*(d*d):=Rat.mul_pos (Rat.mul_pos hn hn) (Rat.mul_pos hd hd)
 have e1:(n*y-m*n)*d*((n*y-m*n)*d)=(y-m)*(y-m)*(n*n*(d*d)):=by grind
 have e2:k*d*(k*d)*(v*(n*n))=k*k*v*(n*n*(d*d)):=by grind
 rw[e1,e2]
 exact⟨fun h=>Rat.mul_le_mul_of_nonneg_right h (Rat.le_of_lt hp),fun h=>Rat.le_of_mul_le_mul_right h hp⟩
end Go.Proofs.YtdkcffnmlllamaaGreat
/- Clipping (plain). -/
namespace Go.Proofs.YtdkcffnmlllamaaGreat
def pick (l:List Int) (ix:List Nat):List Int:=ix.map (fun i=>l.getD i 0)
def stepC (l:List Int) (k:Rat) (ix:List Nat):List Nat:=ix.filter (fun i=>keepB (pick l ix) k (l.getD i 0))
def clipGo (l:List Int) (k:Rat):Nat→List Nat→Nat→List Nat×Nat
 | 0,ix,r=>(ix,r)
 | f+1,ix,r=>if(stepC l k ix).length=ix.length then(ix,r)else clipGo l k f (stepC l k ix) (r+1)
def clipR (l:List Int) (k:Rat):List Nat×Nat:=clipGo l k l.length (List.range l.length) 0
theorem pick_range (l:List Int):pick l (List.range l.length)=l:=by
 unfold pick
 apply List.ext_getElem
 · simp
 · intro i h1 h2; simp at h1⊢; simp[List.getD,h1]
theorem pick_len (l:List Int) (ix:List Nat):(pick l ix).length=ix.length:=by simp[pick]
theorem stepC_le (l:List Int) (k:Rat) (ix:List Nat):(stepC l k ix).length≤ix.length:=List.length_filter_le _ _
theorem clipGo_spec (l:List Int) (k:Rat):∀ (f:Nat) (ix:List Nat) (r:Nat),ix.length≤f→
  (stepC l k (clipGo l k f ix r).1).length=(clipGo l k f ix r).1.length∧(clipGo l k f ix r).1.Sublist ix∧r≤(clipGo l k f ix r).2∧(clipGo l k f ix r).2+(clipGo l k f ix r).1.length≤r+ix.length∧((clipGo l k f ix r).2=r→(clipGo l k f ix r).1=ix)
 | 0,ix,r,h=>by
  have:ix = []:=List.eq_nil_of_length_eq_zero (by omega)
  subst this
  exact⟨rfl,List.Sublist.refl _,Nat.le_refl _,Nat.le_refl _,fun _=>rfl⟩
 | f+1,ix,r,h=>by
  unfold clipGo
  split
  ·
   rename_i e
   exact⟨e,List.Sublist.refl _,Nat.le_refl _,Nat.le_refl _,fun _=>rfl⟩
  ·
   rename_i e
   have hl:=stepC_le l k ix
   obtain⟨h1,h2,h3,h4,h5⟩:=clipGo_spec l k f (stepC l k ix) (r+1) (by omega)
   exact⟨h1,h2.trans List.filter_sublist,by omega,by omega,fun e=>by omega⟩
theorem pick_ne {l:List Int} {ix:List Nat} (h:ix≠ []):pick l ix≠ []:=by
 intro e
 have:=congrArg List.length e
 rw[pick_len]at this
 exact h (List.eq_nil_of_length_eq_zero this)
theorem stepC_ne {l:List Int} {k:Rat} (hk:1≤k) {ix:List Nat} (h:ix≠ []):stepC l k ix≠ []:=by
 obtain⟨x,hx,hb⟩:=keep_one hk (pick_ne (l:=l) h)
 unfold pick at hx
 obtain⟨i,hi,rfl⟩:=List.mem_map.1 hx
 exact List.ne_nil_of_mem (List.mem_filter.2 ⟨hi,hb⟩)
theorem clipGo_ne {l:List Int} {k:Rat} (hk:1≤k):∀ (f:Nat) (ix:List Nat) (r:Nat),ix≠ []→(clipGo l k f ix r).1≠ []
 | 0,_,_,h=>h
 | f+1,ix,r,h=>by
  unfold clipGo
  split
  · exact h
  · exact clipGo_ne hk f _ _ (stepC_ne hk h)
theorem clipR_spec (l:List Int) (k:Rat):(stepC l k (clipR l k).1).length=(clipR l k).1.length∧(clipR l k).1.Sublist (List.range l.length)∧(clipR l k).2+(clipR l k).1.length≤l.length∧((clipR l k).2=0→(clipR l k).1.length=l.length):=by
 obtain⟨h1,h2,h3,h4,h5⟩:=clipGo_spec l k l.length (List.range l.length) 0 (by simp)
 refine⟨h1,h2,?_,fun e=> ?_⟩
 · simpa[clipR]using h4
 ·
  have:=h5 e
  unfold clipR
  rw[this]; simp
theorem clipR_ne {l:List Int} {k:Rat} (hk:1≤k) (hl:l≠ []):(clipR l k).1≠ []:=by
 refine clipGo_ne hk _ _ _ ?_
 intro e
 have:=congrArg List.length e
 simp at this
 exact hl this
theorem clipR_lt {l:List Int} {k:Rat} {i:Nat} (h:i∈(clipR l k).1):i<l.length:=by
 have:=(clipR_spec l k).2.1.subset h
 simpa using this
/- moved by a constant -/
/- in reverse order -/
def turn (n:Nat) (ix:List Nat):List Nat:=(ix.map (fun i=>n-1-i)).reverse
end Go.Proofs.YtdkcffnmlllamaaGreat
/- Sizes of sums, means and variances of lists of values (plain). -/
namespace Go.Proofs.YtdkcffnmlllamaaGreat
def valL (l:List Int):Prop:=l.length≤1000∧∀x∈l,-4294967296≤x∧x≤4294967296
theorem valL.tail {x:Int} {l:List Int} (h:valL (x::l)):valL l:=⟨by have:=h.1; simp at this; omega,fun y hy=>h.2 y (List.mem_cons_of_mem _ hy)⟩
theorem valL.sub {l m:List Int} (h:valL l) (s:m.Sublist l):valL m:=⟨Nat.le_trans s.length_le h.1,fun y hy=>h.2 y (s.subset hy)⟩
theorem valL.take {l:List Int} (h:valL l) (i:Nat):valL (l.take i):=h.sub (List.take_sublist _ _)
theorem sum_range:∀{l:List Int},(∀x∈l,-4294967296≤x∧x≤4294967296)→-(4294967296*(l.length:Int))≤sumI l∧sumI l≤4294967296*(l.length:Int)
 | [],_=>by simp[sumI]
 | x::l,h=>by
  have h1:=h x (List.mem_cons_self ..)
  have h2:=sum_range (l:=l) (fun y hy=>h y (List.mem_cons_of_mem _ hy))
  simp only[sumI,List.length_cons]
  omega
theorem sq_range {x:Int} (h : -4294967296≤x∧x≤4294967296):0≤x*x∧x*x≤18446744073709551616:=by
 have e:x*x=absN x*absN x:=by
  rw[← absN_mul,absN_of]
  rcases Int.le_total 0 x with g | g
  · exact Int.mul_nonneg g g
  · exact Int.mul_nonneg_of_nonpos_of_nonpos g g
 have h0:=absN_nonneg x
 have h1:absN x≤4294967296:=by unfold absN; omega
 have h2:=Int.mul_le_mul h1 h1 h0 (by omega)
 have h3:=Int.mul_nonneg h0 h0
 omega
theorem sqs_range:∀{l:List Int},(∀x∈l,-4294967296≤x∧x≤4294967296)→0≤sqsI l∧sqsI l≤18446744073709551616*(l.length:Int)
 | [],_=>by simp[sqsI]
 | x::l,h=>by
  have h1:=sq_range (h x (List.mem_cons_self ..))
  have h2:=sqs_range (l:=l) (fun y hy=>h y (List.mem_cons_of_mem _ hy))
  simp only[sqsI,List.length_cons]
  omega
theorem bp2_:bp 2=18446744073709551616:=by decide
theorem bp3_:bp 3=79228162514264337593543950336:=by decide
theorem bp_1:bp 1=4294967296:=by decide
theorem val_one {l:List Int} (h:valL l) {x:Int} (hx:x∈l):absN x≤bp 2:=by have:=h.2 x hx; rw[bp2_]; unfold absN; omega
theorem val_sum {l:List Int} (h:valL l):absN (sumI l)≤bp 2:=by
 have h1:=sum_range h.2
 have h2:=h.1
 rw[bp2_]; unfold absN; omega
theorem val_sqs {l:List Int} (h:valL l):absN (sqsI l)≤bp 3:=by
 have h1:=sqs_range h.2
 have h2:=h.1
 rw[bp3_]; unfold absN; omega
theorem val_n {l:List Int} (h:valL l):absN (nI l)≤bp 1:=by
 have h2:=h.1
 rw[bp_1]; unfold absN nI; omega
theorem val_nn {l:List Int} (h:valL l):absN (nI l*nI l)≤bp 2:=absN_mul_le (i:=1) (j:=1) (val_n h) (val_n h)
theorem absN_sub_le {x y:Int} {i:Nat} (hx:absN x≤bp i) (hy:absN y≤bp i):absN (x-y)≤bp (i+1):=by
 have:=absN_add_le (x:=x) (y:= -y) hx (by rw[absN_neg]; exact hy)
 rwa[← Int.sub_eq_add_neg]at this
theorem val_spr {l:List Int} (h:valL l):absN (sprI l)≤bp 5:=by
 unfold sprI
 exact absN_sub_le (absN_mul_le (i:=1) (j:=3) (val_n h) (val_sqs h)) (absN_mul_le (i:=2) (j:=2) (val_sum h) (val_sum h))
theorem nI_ne0 {l:List Int} (h:l≠ []):nI l≠0:=by
 unfold nI
 have:=List.length_pos_iff.2 h
 omega
theorem sz_mean {l:List Int} (h:valL l) (hl:l≠ []):sz (meanQ l) 2:=sz_frac (nI_ne0 hl) (val_sum h) (Int.le_trans (val_n h) (bp_mono (by omega)))
theorem sz_var {l:List Int} (h:valL l) (hl:l≠ []):sz (varQ l) 5:=
 sz_frac (Int.mul_ne_zero (nI_ne0 hl) (nI_ne0 hl)) (val_spr h) (Int.le_trans (val_nn h) (bp_mono (by omega)))
theorem sz_val {x:Int} (h : -4294967296≤x∧x≤4294967296):sz (x:Rat) 2:=sz_int (by rw[bp2_]; unfold absN; omega)
theorem sz_dif {l:List Int} (h:valL l) (hl:l≠ []) {x:Int} (hx : -4294967296≤x∧x≤4294967296):sz ((x:Rat)-meanQ l) 5:=by
 have h1:=sz_val hx
 have h2:=sz_mean h hl
 generalize (x:Rat)=a at *
 generalize meanQ l=b at *
 exact(h1.sub h2).mono (by omega)
theorem sz_sq {l:List Int} (h:valL l) (hl:l≠ []) {x:Int} (hx : -4294967296≤x∧x≤4294967296):sz (((x:Rat)-meanQ l)*((x:Rat)-meanQ l)) 10:=by
 have h1:=sz_dif h hl hx
 generalize (x:Rat)-meanQ l=a at *
 exact(h1.mul h1).mono (by omega)
theorem sz_dev {m:Rat} {k:Nat} : ∀ (l:List Int),(∀x∈l,sz (((x:Rat)-m)*((x:Rat)-m)) k)→sz (devQ m l) ((k+1)*l.length+1)
 | [],_=>by show sz 0 _; exact(sz_int (x:=0) (k:=1) (by decide)).mono (by omega)
 | x::l,h=>by
  have h1:=h x (List.mem_cons_self ..)
  have h2:=sz_dev l (fun y hy=>h y (List.mem_cons_of_mem _ hy))
  have e:(k+1)*(x::l).length+1=k+((k+1)*l.length+1)+1:=by rw[List.length_cons,Nat.mul_add]; omega
  rw[e]
  exact h1.add h2
theorem take_step {l:List Int} {i:Nat} (h:i<l.length):l.take (i+1)=l.take i ++ [l.getD i 0]:=by
 rw[List.take_succ_eq_append_getElem h]
 simp[List.getD,h]
theorem sum_step {l:List Int} {i:Nat} (h:i<l.length):sumI (l.take (i+1))=sumI (l.take i)+l.getD i 0:=by rw[take_step h,sumI_app]; simp[sumI]
theorem sqs_step {l:List Int} {i:Nat} (h:i<l.length):sqsI (l.take (i+1))=sqsI (l.take i)+l.getD i 0*l.getD i 0:=by rw[take_step h,sqsI_app]; simp[sqsI]
theorem dev_step {l:List Int} {i:Nat} (m:Rat) (h:i<l.length):devQ m (l.take (i+1))=devQ m (l.take i)+((l.getD i 0:Rat)-m)*((l.getD i 0:Rat)-m):=by
 rw[take_step h,devQ_app]
 congr 1
 simp only[devQ]
 grind
theorem getD_mem {l:List Int} {i:Nat} (h:i<l.length):l.getD i 0∈l:=by
 rw[List.getD,List.getElem?_eq_getElem h]
 exact List.getElem_mem h
end Go.Proofs.YtdkcffnmlllamaaGreat
/- Similarities, partners and odds (plain). -/
namespace Go.Proofs.YtdkcffnmlllamaaGreat
theorem one_divQ (x:Int):(x:Rat) / ((1:Int):Rat)=(x:Rat):=by
 have h1:((1:Int):Rat)≠0:=by decide
 exact div_of_mul h1 (by rw[Rat.intCast_one,Rat.mul_one])
def apX (t:Nat→Rat) (p:Int×Int):Rat:=t 0*(p.1:Rat)-t 1*(p.2:Rat)+t 2
def apY (t:Nat→Rat) (p:Int×Int):Rat:=t 1*(p.1:Rat)+t 0*(p.2:Rat)+t 3
def simRe (a b p q:Int×Int):Rat:=(cre (b.1-a.1) (b.2-a.2) (q.1-p.1) (q.2-p.2):Rat) / (csq (b.1-a.1) (b.2-a.2):Rat)
def simIm (a b p q:Int×Int):Rat:=(cim (b.1-a.1) (b.2-a.2) (q.1-p.1) (q.2-p.2):Rat) / (csq (b.1-a.1) (b.2-a.2):Rat)
def simT (a b p q:Int×Int) (i:Nat):Rat:=match i with
 | 0=>simRe a b p q
 | 1=>simIm a b p q
 | 2=>(p.1:Rat)-(simRe a b p q*(a.1:Rat)-simIm a b p q*(a.2:Rat)+0)
 | _=>(p.2:Rat)-(simIm a b p q*(a.1:Rat)+simRe a b p q*(a.2:Rat)+0)
def apartQ (x y:Rat) (q:Int×Int):Rat:=if absQ (x-(q.1:Rat))<absQ (y-(q.2:Rat))then absQ (y-(q.2:Rat))else absQ (x-(q.1:Rat))
def prtP (x y rad:Rat) (m:PL):Nat→Int×Rat
 | 0=>(-1,rad)
 | k+1=>if apartQ x y (pt m k)<(prtP x y rad m k).2∨(apartQ x y (pt m k)=(prtP x y rad m k).2∧(prtP x y rad m k).1<0)then((k:Int),apartQ x y (pt m k))else prtP x y rad m k
def partners (t:Nat→Rat) (rad:Rat) (l m:PL):Nat→List Int
 | 0=> []
 | i+1=>partners t rad l m i ++ [(prtP (apX t (pt l i)) (apY t (pt l i)) rad m m.length).1]
/- odds -/
def chanceQ (R A n:Int):Rat:=((n*4*R*R:Int):Rat) / (A:Rat)
def withQ (s h:Rat):Rat:=(1-s+s*h) / h
def oddsQ (w s:Rat) (l:List Int) (out:Nat→Bool):Nat→Rat
 | 0=>1
 | i+1=>if out i then oddsQ w s l out i else oddsQ w s l out i*(if 0≤l.getD i 0 then w else s)
def noOut (_:Nat):Bool:=false
def oddsL (w s:Rat):List Int→Rat
 | []=>1
 | k::l=>(if 0≤k then w else s)*oddsL w s l
end Go.Proofs.YtdkcffnmlllamaaGreat
/- Sorted lists, medians, percentiles (plain). -/
namespace Go.Proofs.YtdkcffnmlllamaaGreat
def srt (l:List Int):List Int:=l.mergeSort (fun a b=>decide (a≤b))
theorem srt_perm (l:List Int):(srt l).Perm l:=List.mergeSort_perm l _
def Asc (l:List Int):Prop:=l.Pairwise (fun a b=>a≤b)
theorem srt_asc (l:List Int):Asc (srt l):=by
 have:=List.pairwise_mergeSort (le:=fun a b:Int=>decide (a≤b)) (fun a b c=>by simp; omega) (fun a b=>by simp; omega) l
 exact this.imp (fun h=>by simpa using h)
theorem srt_len (l:List Int):(srt l).length=l.length:=(srt_perm l).length_eq
theorem asc_unique {a b:List Int} (h:a.Perm b) (ha:Asc a) (hb:Asc b):a=b:=
 List.Perm.eq_of_pairwise (fun x y _ _ h1 h2=>Int.le_antisymm h1 h2) ha hb h
theorem srt_of {a b:List Int} (h:a.Perm b) (ha:Asc a):a=srt b:=asc_unique (h.trans (srt_perm b).symm) ha (srt_asc b)
theorem srt_perm_eq {a b:List Int} (h:a.Perm b):srt a=srt b:=srt_of ((srt_perm a).trans h) (srt_asc a)
theorem asc_get {s:List Int} (h:Asc s) {i j:Nat} (hij:i≤j) (hj:j<s.length):s.getD i 0≤s.getD j 0:=by
 have hi:i<s.length:=by omega
 simp only[List.getD,List.getElem?_eq_getElem hi,List.getElem?_eq_getElem hj,Option.getD_some]
 rcases Nat.lt_or_ge i j with g | g
 · exact List.pairwise_iff_getElem.1 h i j hi hj g
 ·
  obtain rfl:i=j:=by omega
  exact Int.le_refl _
def twI (l:List Int):Int:=(srt l).getD ((l.length-1) / 2) 0+(srt l).getD (l.length / 2) 0
def awI (m:Int) (l:List Int):List Int:=l.map (fun x=>max (2*x-m) (m-2*x))
def medQ (l:List Int):Rat:=(twI l:Rat) / ((2:Int):Rat)
def dvnQ (l:List Int):Rat:=(twI (awI (twI l) l):Rat) / ((4:Int):Rat)
def pctI (n:Nat) (num den:Int):Nat:=(max 0 ((num*(n:Int)+den-1) / den-1)).toNat
/- moved by a constant; in reverse order -/
/- the sum of the absolute differences is least at the median -/
def awayQ (y:Rat):List Int→Rat
 | []=>0
 | x::l=>absQ ((x:Rat)-y)+awayQ y l
theorem med_between {l:List Int} (h:l≠ []):(((srt l).getD ((l.length-1) / 2) 0:Int):Rat)≤medQ l∧medQ l≤(((srt l).getD (l.length / 2) 0:Int):Rat):=by
 have hp:=List.length_pos_iff.2 h
 have hl:=srt_len l
 have h0:=asc_get (srt_asc l) (i:=(l.length-1) / 2) (j:=l.length / 2) (by omega) (by omega)
 have e2:((2:Int):Rat)≠0:=by decide
 have h1:medQ l*((2:Int):Rat)=(twI l:Rat):=Rat.div_mul_cancel e2
 have e:((2:Int):Rat)=2:=rfl
 rw[e]at h1
 unfold twI at h1
 rw[Rat.intCast_add]at h1
 have h2:=Rat.intCast_le_intCast.2 h0
 constructor<;>grind
end Go.Proofs.YtdkcffnmlllamaaGreat
/- The stable sort of package slices, on functions of the index (plain). -/
namespace Go.Proofs.YtdkcffnmlllamaaGreat
def swp (f:Nat→Int) (i j:Nat) (k:Nat):Int:=if k=i then f j else if k=j then f i else f k
inductive SP (a b:Nat):(Nat→Int)→(Nat→Int)→Prop
 | refl (f:Nat→Int):SP a b f f
 | swap {f g:Nat→Int} (h:SP a b f g) {i j:Nat} (h1:a≤i) (h2:i<b) (h3:a≤j) (h4:j<b):SP a b f (swp g i j)
theorem SP.trans {a b:Nat} {f g h:Nat→Int} (x:SP a b f g) (y:SP a b g h):SP a b f h:=by
 induction y with
 | refl=>exact x
 | swap _ h1 h2 h3 h4 ih=>exact ih.swap h1 h2 h3 h4
theorem SP.mono {a b a' b':Nat} {f g:Nat→Int} (x:SP a b f g) (ha:a'≤a) (hb:b≤b'):SP a' b' f g:=by
 induction x with
 | refl=>exact .refl _
 | swap _ h1 h2 h3 h4 ih=>exact ih.swap (by omega) (by omega) (by omega) (by omega)
theorem SP.out {a b:Nat} {f g:Nat→Int} (x:SP a b f g) {k:Nat} (h:k<a∨b≤k):g k=f k:=by
 induction x with
 | refl=>rfl
 | swap _ h1 h2 h3 h4 ih=>unfold swp; rw[if_neg (by omega),if_neg (by omega)]; exact ih
theorem SP.all {a b:Nat} {f g:Nat→Int} (x:SP a b f g) {P:Int→Prop} (h:∀k,a≤k→k<b→P (f k)):∀k,a≤k→k<b→P (g k):=by
 induction x with
 | refl=>exact h
 | swap _ h1 h2 h3 h4 ih=>
  intro k k1 k2
  unfold swp
  split
  · exact ih _ h3 h4
  ·
   split
   · exact ih _ h1 h2
   · exact ih _ k1 k2
theorem swp_perm (f:Nat→Int) {n i j:Nat} (hi:i<n) (hj:j<n):((List.range n).map (swp f i j)).Perm ((List.range n).map f):=by
 have hs:((List.range n).map f).toArray.size=n:=by simp
 have e:(List.range n).map (swp f i j)=(((List.range n).map f).toArray.swap i j (by omega) (by omega)).toList:=by
  apply List.ext_getElem
  · simp
  ·
   intro k h1 h2
   simp at h1
   simp only[List.getElem_map,List.getElem_range,Array.getElem_toList]
   rw[Array.getElem_swap]
   unfold swp
   simp
 rw[e]
 have:=Array.swap_perm (xs:=((List.range n).map f).toArray) (i:=i) (j:=j) (by omega) (by omega)
 have h2:=Array.perm_iff_toList_perm.1 this
 simpa using h2
theorem SP.perm {a b n:Nat} {f g:Nat→Int} (x:SP a b f g) (hb:b≤n):((List.range n).map g).Perm ((List.range n).map f):=by
 induction x with
 | refl=>exact .refl _
 | swap _ h1 h2 h3 h4 ih=>exact(swp_perm _ (by omega) (by omega)).trans ih
def Up (f:Nat→Int) (a b:Nat):Prop:=∀i j,a≤i→i≤j→j<b→f i≤f j
theorem Up.congr {f g:Nat→Int} {a b:Nat} (h:Up f a b) (e:∀k,a≤k→k<b→g k=f k):Up g a b:=by
 intro i j h1 h2 h3
 rw[e i h1 (by omega),e j (by omega) h3]
 exact h i j h1 h2 h3
theorem Up.sub {f:Nat→Int} {a b a' b':Nat} (h:Up f a b) (ha:a≤a') (hb:b'≤b):Up f a' b':=fun i j h1 h2 h3=>h i j (by omega) h2 (by omega)
theorem Up.none {f:Nat→Int} {a b:Nat} (h:b≤a+1):Up f a b:=fun i j h1 h2 h3=>by
 obtain rfl:i=j:=by omega
 exact Int.le_refl _
theorem Up.join {f:Nat→Int} {a m b:Nat} (h1:Up f a m) (h2:Up f m b) (h:∀i j,a≤i→i<m→m≤j→j<b→f i≤f j):Up f a b:=fun i j g1 g2 g3=>by
 rcases Nat.lt_or_ge j m with c | c
 · exact h1 i j g1 g2 c
 ·
  rcases Nat.lt_or_ge i m with d | d
  · exact h i j g1 d c g3
  · exact h2 i j d g2 g3
theorem up_srt {f g:Nat→Int} {n:Nat} (x:SP 0 n f g) (h:Up g 0 n):(List.range n).map g=srt ((List.range n).map f):=by
 refine srt_of (x.perm (Nat.le_refl _)) ?_
 unfold Asc
 rw[List.pairwise_map]
 refine List.pairwise_iff_getElem.2 fun i j hi hj hij=> ?_
 simp at hi hj
 simp only[List.getElem_range]
 exact h i j (by omega) (by omega) hj
def Ins (f:Nat→Int) (a j i:Nat):Prop:=Up f a j∧Up f j (i+1)∧∀x y,a≤x→x<j→j<y→y≤i→f x≤f y
theorem Ins.start {f:Nat→Int} {a i:Nat} (h:Up f a i):Ins f a i i:=⟨h,Up.none (by omega),fun x y _ _ _ _=>by omega⟩
theorem Ins.step {f:Nat→Int} {a j i:Nat} (h:Ins f a j i) (hj:a<j) (hji:j≤i) (hlt:f j<f (j-1)):Ins (swp f j (j-1)) a (j-1) i:=by
 obtain⟨h1,h2,h3⟩:=h
 refine⟨fun x y p q r=> ?_,fun x y p q r=> ?_,fun x y p q r s=> ?_⟩
 ·
  unfold swp
  rw[if_neg (by omega),if_neg (by omega),if_neg (by omega),if_neg (by omega)]
  exact h1 x y p q (by omega)
 ·
  unfold swp
  by_cases x1:x=j-1
  ·
   rw[if_neg (show ¬x=j by omega),if_pos x1]
   by_cases y1:y=j
   · rw[if_pos y1]; omega
   ·
    rw[if_neg y1]
    by_cases y2:y=j-1
    · rw[if_pos y2]; exact Int.le_refl _
    · rw[if_neg y2]; exact h2 j y (Nat.le_refl _) (by omega) r
  ·
   by_cases x2:x=j
   ·
    rw[if_pos x2]
    by_cases y1:y=j
    · rw[if_pos y1]; exact Int.le_refl _
    ·
     rw[if_neg y1,if_neg (show ¬y=j-1 by omega)]
     exact h3 (j-1) y (by omega) (by omega) (by omega) (by omega)
   ·
    rw[if_neg x2,if_neg x1,if_neg (show ¬y=j by omega),if_neg (show ¬y=j-1 by omega)]
    exact h2 x y (by omega) q r
 ·
  unfold swp
  rw[if_neg (show ¬x=j by omega),if_neg (show ¬x=j-1 by omega)]
  by_cases y1:y=j
  · rw[if_pos y1]; exact h1 x (j-1) p (by omega) (by omega)
  ·
   rw[if_neg y1,if_neg (show ¬y=j-1 by omega)]
   exact h3 x y p (by omega) (by omega) s
theorem Ins.done {f:Nat→Int} {a j i:Nat} (h:Ins f a j i) (hji:j≤i) (he:j=a∨¬f j<f (j-1)) (ha:a≤j):Up f a (i+1):=by
 obtain⟨h1,h2,h3⟩:=h
 refine h1.join h2 fun x y p q r s=> ?_
 rcases Nat.lt_or_ge j y with g | g
 · exact h3 x y p q g (by omega)
 ·
  obtain rfl:y=j:=by omega
  rcases he with e | e
  · omega
  ·
   have:=h1 x (y-1) p (by omega) (by omega)
   omega
def swR (f:Nat→Int) (a b:Nat):Nat→Nat→Int
 | 0=>f
 | i+1=>swp (swR f a b i) (a+i) (b+i)
theorem swR_is (f:Nat→Int) {a b:Nat} : ∀ (n:Nat),a+n≤b→∀k,swR f a b n k=if a≤k∧k<a+n then f (b+(k-a))else if b≤k∧k<b+n then f (a+(k-b))else f k
 | 0,_,k=>by rw[if_neg (by omega),if_neg (by omega)]; rfl
 | n+1,h,k=>by
  unfold swR swp
  have e1:=swR_is f (a:=a) (b:=b) n (by omega) (b+n)
  have e2:=swR_is f (a:=a) (b:=b) n (by omega) (a+n)
  have e3:=swR_is f (a:=a) (b:=b) n (by omega) k
  rw[e1,e2,e3]
  by_cases k1:k=a+n
  ·
   subst k1
   rw[if_pos rfl,if_neg (by omega),if_neg (by omega),if_pos (by omega)]
   congr 1; omega
  ·
   rw[if_neg k1]
   by_cases k2:k=b+n
   ·
    subst k2
    rw[if_pos rfl,if_neg (by omega),if_neg (by omega),if_neg (by omega),if_pos (by omega)]
    congr 1; omega
   ·
    rw[if_neg k2]
    by_cases k3:a≤k∧k<a+n
    · rw[if_pos k3,if_pos (by omega)]
    ·
     rw[if_neg k3,if_neg (show ¬(a≤k∧k<a+(n+1)) by omega)]
     by_cases k4:b≤k∧k<b+n
     · rw[if_pos k4,if_pos (by omega)]
     · rw[if_neg k4,if_neg (show ¬(b≤k∧k<b+(n+1)) by omega)]
theorem swR_sp (f:Nat→Int) {a b lo hi:Nat} (h1:lo≤a) (h2:lo≤b):∀ (n:Nat),a+n≤hi→b+n≤hi→SP lo hi f (swR f a b n)
 | 0,_,_=> .refl f
 | n+1,p,q=>(swR_sp f h1 h2 n (by omega) (by omega)).swap (by omega) (by omega) (by omega) (by omega)
def rotF (lo m hi:Nat) (f:Nat→Int) (k:Nat):Int:=if lo≤k∧k<lo+(hi-m)then f (k+(m-lo))else if lo+(hi-m)≤k∧k<hi then f (k-(hi-m))else f k
theorem rot_more (f:Nat→Int) {m i j:Nat} (hi:i≤m) (h:j<i):rotF (m-i) m (m+j) f=rotF (m-i+j) m (m+j) (swR f (m-i) m j):=by
 funext k
 have e:=swR_is f (a:=m-i) (b:=m) j (by omega)
 unfold rotF
 simp only[e]
 by_cases c1:m-i≤k∧k<m-i+(m+j-m)
 ·
  rw[if_pos c1,if_neg (by omega),if_neg (by omega),if_pos (by omega)]
  congr 1; omega
 ·
  rw[if_neg c1]
  by_cases c2:m-i+(m+j-m)≤k∧k<m+j
  ·
   rw[if_pos c2]
   by_cases c3:m-i+j≤k∧k<m-i+j+(m+j-m)
   ·
    rw[if_pos c3]
    by_cases c4:m-i≤k+(m-(m-i+j))∧k+(m-(m-i+j))<m-i+j
    · omega
    ·
     rw[if_neg c4,if_pos (by omega)]
     congr 1; omega
   · rw[if_neg c3,if_pos (by omega),if_neg (by omega),if_neg (by omega)]
  · rw[if_neg c2,if_neg (by omega),if_neg (by omega),if_neg (by omega),if_neg (by omega)]
theorem rot_less (f:Nat→Int) {m i j:Nat} (hi:i≤m) (h:i<j):rotF (m-i) m (m+j) f=rotF (m-i) m (m+(j-i)) (swR f (m-i) (m+j-i) i):=by
 funext k
 have e:=swR_is f (a:=m-i) (b:=m+j-i) i (by omega)
 unfold rotF
 simp only[e]
 by_cases c1:m-i≤k∧k<m-i+(m+j-m)
 ·
  rw[if_pos c1]
  by_cases c2:m-i≤k∧k<m-i+(m+(j-i)-m)
  · rw[if_pos c2,if_neg (by omega),if_neg (by omega)]
  ·
   rw[if_neg c2]
   by_cases c3:m-i+(m+(j-i)-m)≤k∧k<m+(j-i)
   ·
    rw[if_pos c3,if_pos (by omega)]
    congr 1; omega
   · omega
 ·
  rw[if_neg c1]
  by_cases c2:m-i+(m+j-m)≤k∧k<m+j
  ·
   rw[if_pos c2,if_neg (by omega),if_neg (by omega),if_neg (by omega),if_pos (by omega)]
   congr 1; omega
  · rw[if_neg c2,if_neg (by omega),if_neg (by omega),if_neg (by omega),if_neg (by omega)]
theorem rot_same (f:Nat→Int) {m i:Nat} (hi:i≤m):rotF (m-i) m (m+i) f=swR f (m-i) m i:=by
 funext k
 rw[swR_is f i (by omega)]
 unfold rotF
 by_cases c1:m-i≤k∧k<m-i+i
 · rw[if_pos (by omega),if_pos c1]; congr 1; omega
 ·
  rw[if_neg (by omega),if_neg c1]
  by_cases c2:m≤k∧k<m+i
  · rw[if_pos (by omega),if_pos c2]; congr 1; omega
  · rw[if_neg (by omega),if_neg c2]
def upR (f:Nat→Int) (a:Nat):Nat→Nat→Int
 | 0=>f
 | i+1=>swp (upR f a i) (a+i) (a+i+1)
theorem upR_is (f:Nat→Int) (a:Nat):∀n k,upR f a n k=if a≤k∧k<a+n then f (k+1)else if k=a+n then f a else f k
 | 0,k=>by
  rw[if_neg (by omega)]
  by_cases h:k=a+0
  · rw[if_pos h]; show f k=f a; rw[h]; rfl
  · rw[if_neg h]; rfl
 | n+1,k=>by
  unfold upR swp
  rw[upR_is f a n (a+n+1),upR_is f a n (a+n),upR_is f a n k]
  by_cases k1:k=a+n
  ·
   subst k1
   rw[if_pos rfl,if_neg (by omega),if_neg (by omega),if_pos (by omega)]
  ·
   rw[if_neg k1]
   by_cases k2:k=a+n+1
   ·
    subst k2
    rw[if_pos rfl,if_neg (by omega),if_pos rfl,if_neg (by omega),if_pos (by omega)]
   ·
    rw[if_neg k2]
    by_cases k3:a≤k∧k<a+n
    · rw[if_pos k3,if_pos (by omega)]
    · rw[if_neg k3,if_neg k1,if_neg (show ¬(a≤k∧k<a+(n+1)) by omega),if_neg (show ¬k=a+(n+1) by omega)]
theorem upR_sp (f:Nat→Int) {a lo hi:Nat} (h1:lo≤a):∀n,a+n<hi→SP lo hi f (upR f a n)
 | 0,_=> .refl f
 | n+1,p=>(upR_sp f h1 n (by omega)).swap (by omega) (by omega) (by omega) (by omega)
def dnR (f:Nat→Int) (m:Nat):Nat→Nat→Int
 | 0=>f
 | i+1=>swp (dnR f m i) (m-i) (m-i-1)
theorem dnR_is (f:Nat→Int) (m:Nat):∀n,n≤m→∀k,dnR f m n k=if m-n<k∧k≤m then f (k-1)else if k=m-n then f m else f k
 | 0,_,k=>by
  rw[if_neg (by omega)]
  by_cases h:k=m-0
  · rw[if_pos h]; show f k=f m; rw[h]; rfl
  · rw[if_neg h]; rfl
 | n+1,hn,k=>by
  unfold dnR swp
  rw[dnR_is f m n (by omega) (m-n-1),dnR_is f m n (by omega) (m-n),dnR_is f m n (by omega) k]
  by_cases k1:k=m-n
  ·
   rw[if_pos k1,if_neg (by omega),if_neg (by omega),if_pos (by omega)]
   congr 1; omega
  ·
   rw[if_neg k1]
   by_cases k2:k=m-n-1
   · rw[if_pos k2,if_neg (by omega),if_pos rfl,if_neg (by omega),if_pos (by omega)]
   ·
    rw[if_neg k2]
    by_cases k3:m-n<k∧k≤m
    · rw[if_pos k3,if_pos (by omega)]
    · rw[if_neg k3,if_neg k1,if_neg (show ¬(m-(n+1)<k∧k≤m) by omega),if_neg (show ¬k=m-(n+1) by omega)]
theorem dnR_sp (f:Nat→Int) {m lo hi:Nat} (h1:m<hi):∀n,lo+n≤m→SP lo hi f (dnR f m n)
 | 0,_=> .refl f
 | n+1,p=>(dnR_sp f h1 n (by omega)).swap (by omega) (by omega) (by omega) (by omega)
theorem up_first {f:Nat→Int} {a b i:Nat} (h:Up f (a+1) b) (hi:a+1≤i) (hib:i≤b) (lo:∀k,a+1≤k→k<i→f k<f a) (hi':∀k,i≤k→k<b→f a≤f k):Up (upR f a (i-1-a)) a b:=by
 intro x y p q r
 rw[upR_is,upR_is]
 by_cases x1:a≤x∧x<a+(i-1-a)
 ·
  rw[if_pos x1]
  by_cases y1:a≤y∧y<a+(i-1-a)
  · rw[if_pos y1]; exact h _ _ (by omega) (by omega) (by omega)
  ·
   rw[if_neg y1]
   by_cases y2:y=a+(i-1-a)
   · rw[if_pos y2]; have:=lo (x+1) (by omega) (by omega); omega
   · rw[if_neg y2]; exact h _ _ (by omega) (by omega) r
 ·
  rw[if_neg x1,if_neg (show ¬(a≤y∧y<a+(i-1-a)) by omega)]
  by_cases x2:x=a+(i-1-a)
  ·
   rw[if_pos x2]
   by_cases y2:y=a+(i-1-a)
   · rw[if_pos y2]; exact Int.le_refl _
   · rw[if_neg y2]; exact hi' y (by omega) r
  ·
   rw[if_neg x2,if_neg (show ¬y=a+(i-1-a) by omega)]
   exact h x y (by omega) q r
theorem up_last {f:Nat→Int} {a m i:Nat} (h:Up f a m) (hi:a≤i) (him:i≤m) (lo:∀k,a≤k→k<i→f k≤f m) (hi':∀k,i≤k→k<m→f m<f k):Up (dnR f m (m-i)) a (m+1):=by
 intro x y p q r
 rw[dnR_is f m _ (by omega),dnR_is f m _ (by omega)]
 by_cases y1:m-(m-i)<y∧y≤m
 ·
  rw[if_pos y1]
  by_cases x1:m-(m-i)<x∧x≤m
  · rw[if_pos x1]; exact h _ _ (by omega) (by omega) (by omega)
  ·
   rw[if_neg x1]
   by_cases x2:x=m-(m-i)
   · rw[if_pos x2]; have:=hi' (y-1) (by omega) (by omega); omega
   · rw[if_neg x2]; exact h _ _ p (by omega) (by omega)
 ·
  rw[if_neg y1,if_neg (show ¬(m-(m-i)<x∧x≤m) by omega)]
  by_cases y2:y=m-(m-i)
  ·
   rw[if_pos y2]
   by_cases x2:x=m-(m-i)
   · rw[if_pos x2]; exact Int.le_refl _
   · rw[if_neg x2]; exact lo x p (by omega)
  ·
   rw[if_neg y2,if_neg (show ¬x=m-(m-i) by omega)]
   exact h x y p q (by omega)
theorem merge_halves {f:Nat→Int} {a m b s:Nat} (mid:Nat) (h1:Up f a m) (h2:Up f m b) (ha:a≤s) (hs:s≤m) (hsm:s≤mid) (hab:a≤mid) (hmb:mid≤b) (hm:m≤b) (he1:m≤mid+m-s) (he2:mid+m-s≤b)
  (c1:s=a∨mid+m-s=b∨f (s-1)≤f (mid+m-s)) (c2:s=m∨mid=s∨f (mid+m-s-1)<f s) :
  let g:=rotF s m (mid+m-s) f
  Up g a s∧Up g s mid∧Up g mid (mid+m-s)∧Up g (mid+m-s) b∧∀x y,a≤x→x<mid→mid≤y→y<b→g x≤g y:=by
 intro g
 have g0:∀k,k<s→g k=f k:=fun k hk=>by show rotF s m (mid+m-s) f k=_; unfold rotF; rw[if_neg (by omega),if_neg (by omega)]
 have g1:∀k,s≤k→k<mid→g k=f (k+(m-s)):=fun k p q=>by show rotF s m (mid+m-s) f k=_; unfold rotF; rw[if_pos (by omega)]
 have g2:∀k,mid≤k→k<mid+m-s→g k=f (k-(mid-s)):=fun k p q=>by show rotF s m (mid+m-s) f k=_; unfold rotF; rw[if_neg (by omega),if_pos (by omega)]; congr 1; omega
 have g3:∀k,mid+m-s≤k→g k=f k:=fun k p=>by show rotF s m (mid+m-s) f k=_; unfold rotF; rw[if_neg (by omega),if_neg (by omega)]
 refine⟨?_,?_,?_,?_,?_⟩
 · intro x y p q r; rw[g0 x (by omega),g0 y r]; exact h1 x y p q (by omega)
 · intro x y p q r; rw[g1 x p (by omega),g1 y (by omega) r]; exact h2 _ _ (by omega) (by omega) (by omega)
 · intro x y p q r; rw[g2 x p (by omega),g2 y (by omega) r]; exact h1 _ _ (by omega) (by omega) (by omega)
 · intro x y p q r; rw[g3 x p,g3 y (by omega)]; exact h2 _ _ (by omega) q r
 ·
  intro x y p q r t
  rcases Nat.lt_or_ge x s with x1 | x1
  ·
   rw[g0 x x1]
   rcases Nat.lt_or_ge y (mid+m-s)with y1 | y1
   · rw[g2 y r y1]; exact h1 _ _ p (by omega) (by omega)
   ·
    rw[g3 y y1]
    rcases c1 with c | c | c
    · omega
    · omega
    ·
     have e1:=h1 x (s-1) p (by omega) (by omega)
     have e2:=h2 (mid+m-s) y (by omega) y1 t
     omega
  ·
   rw[g1 x x1 q]
   rcases Nat.lt_or_ge y (mid+m-s)with y1 | y1
   ·
    rw[g2 y r y1]
    rcases c2 with c | c | c
    · omega
    · omega
    ·
     have e1:=h2 (x+(m-s)) (mid+m-s-1) (by omega) (by omega) (by omega)
     have e2:=h1 s (y-(mid-s)) (by omega) (by omega) (by omega)
     omega
   · rw[g3 y y1]; exact h2 _ _ (by omega) (by omega) t
theorem merge_join {g g' g'':Nat→Int} {a mid b:Nat} (hm:a≤mid) (hb:mid≤b) (x1:SP a mid g g') (x2:SP mid b g' g'') (u1:Up g' a mid) (u2:Up g'' mid b) (h:∀x y,a≤x→x<mid→mid≤y→y<b→g x≤g y):Up g'' a b:=by
 refine Up.join (m:=mid) (u1.congr fun k p q=>x2.out (.inl q)) u2 fun x y p q r t=> ?_
 rw[x2.out (.inl q)]
 refine x2.all (P:=fun z=>g' x≤z) (fun k k1 k2=> ?_) y r t
 rw[x1.out (.inr k1)]
 exact x1.all (P:=fun z=>z≤g k) (fun j j1 j2=>h j k j1 j2 k1 k2) x p q
def Sch (f:Nat→Int) (p lo hi s r:Nat):Prop:=lo≤s∧s≤r∧r≤hi∧(∀c,lo≤c→c<s→¬f (p-c)<f c)∧∀c,r≤c→c<hi→f (p-c)<f c
theorem Sch.up {f:Nat→Int} {p lo hi s r c:Nat} (h:Sch f p lo hi s r) (hc:s≤c) (hr:c<r) (mono:∀x y,lo≤x→x≤y→y<hi→f (p-x)<f x→f (p-y)<f y) (hn:¬f (p-c)<f c):Sch f p lo hi (c+1) r:=by
 obtain⟨h1,h2,h3,h4,h5⟩:=h
 refine⟨by omega,by omega,h3,fun x p q g=> ?_,h5⟩
 exact hn (mono x c p (by omega) (by omega) g)
theorem Sch.down {f:Nat→Int} {p lo hi s r c:Nat} (h:Sch f p lo hi s r) (hc:s≤c) (hr:c<r) (mono:∀x y,lo≤x→x≤y→y<hi→f (p-x)<f x→f (p-y)<f y) (hn:f (p-c)<f c):Sch f p lo hi s c:=by
 obtain⟨h1,h2,h3,h4,h5⟩:=h
 exact⟨h1,hc,by omega,h4,fun x p q=>mono c x (by omega) p (by omega) hn⟩
end Go.Proofs.YtdkcffnmlllamaaGreat
/- symMerge of the stable sort: its plain part. -/
namespace Go.Proofs.YtdkcffnmlllamaaGreat
theorem rotF_sp {lo hi m:Nat} : ∀ (k:Nat) (f:Nat→Int) (i j:Nat),i+j≤k→0<i→0<j→i≤m→lo≤m-i→m+j≤hi→SP lo hi f (rotF (m-i) m (m+j) f)
 | 0,f,i,j,h,h1,h2,_,_,_=>by omega
 | k+1,f,i,j,h,h1,h2,h3,h4,h5=>by
  rcases(show i=j∨j<i∨i<j by omega)with rfl | c | c
  · rw[rot_same f h3]; exact swR_sp f h4 (by omega) i (by omega) (by omega)
  ·
   rw[rot_more f h3 c,show m-i+j=m-(i-j) by omega]
   exact(swR_sp f h4 (by omega) j (by omega) (by omega)).trans (rotF_sp k _ (i-j) j (by omega) (by omega) h2 (by omega) (by omega) (by omega))
  ·
   rw[rot_less f h3 c]
   exact(swR_sp f h4 (by omega) i (by omega) (by omega)).trans (rotF_sp k _ i (j-i) (by omega) h1 (by omega) h3 h4 (by omega))
theorem rotF_sp' {a s m e b:Nat} (f:Nat→Int) (h1:a≤s) (h2:s<m) (h3:m<e) (h4:e≤b):SP a b f (rotF s m e f):=by
 have:=rotF_sp (lo:=a) (hi:=b) (m:=m) (m-s+(e-m)) f (m-s) (e-m) (by omega) (by omega) (by omega) (by omega) (by omega) (by omega)
 rw[show m-(m-s)=s by omega,show m+(e-m)=e by omega]at this
 exact this
theorem rotF_id (f:Nat→Int) {s m e:Nat} (h1:s≤m) (h2:m≤e) (h:s=m∨e=m):rotF s m e f=f:=by
 funext k
 unfold rotF
 split
 · congr 1; omega
 ·
  split
  · congr 1; omega
  · rfl
theorem sch_mono {f:Nat→Int} {a m b p lo hi:Nat} (h1:Up f a m) (h2:Up f m b) (ha:a≤lo) (hh:hi≤m) (hp:m+hi≤p+1) (hb:p<lo+b):∀x y,lo≤x→x≤y→y<hi→f (p-x)<f x→f (p-y)<f y:=by
 intro x y p1 p2 p3 g
 have e1:=h1 x y (by omega) p2 (by omega)
 have e2:=h2 (p-y) (p-x) (by omega) (by omega) (by omega)
 omega
theorem Sch.start {f:Nat→Int} {p lo hi:Nat} (h:lo≤hi):Sch f p lo hi lo hi:=⟨Nat.le_refl _,h,Nat.le_refl _,fun c h1 h2=>by omega,fun c h1 h2=>by omega⟩
theorem sch_ends {f:Nat→Int} {a m b mid s lo hi:Nat} (hs:Sch f (mid+m-1) lo hi s s) (hm:0<m) (h:(lo=a∧hi=m)∨(lo=mid+m-b∧hi=mid∧b≤mid+m)) :
  (s=a∨mid+m-s=b∨f (s-1)≤f (mid+m-s))∧(s=m∨mid=s∨f (mid+m-s-1)<f s):=by
 obtain⟨h1,h2,h3,h4,h5⟩:=hs
 refine⟨?_,?_⟩
 ·
  rcases Nat.lt_or_ge lo s with c | c
  ·
   have:=h4 (s-1) (by omega) (by omega)
   rw[show mid+m-1-(s-1)=mid+m-s by omega]at this
   exact .inr (.inr (by omega))
  ·
   rcases h with⟨rfl,_⟩ | ⟨rfl,_,hb⟩
   · exact .inl (by omega)
   · exact .inr (.inl (by omega))
 ·
  rcases Nat.lt_or_ge s hi with c | c
  ·
   have:=h5 s (Nat.le_refl _) c
   rw[show mid+m-1-s=mid+m-s-1 by omega]at this
   exact .inr (.inr this)
  ·
   rcases h with⟨_,rfl⟩ | ⟨_,rfl,_⟩
   · exact .inl (by omega)
   · exact .inr (.inl (by omega))
def Sc1 (f:Nat→Int) (x:Int) (m b i j:Nat):Prop:=m≤i∧i≤j∧j≤b∧(∀k,m≤k→k<i→f k<x)∧∀k,j≤k→k<b→x≤f k
theorem Sc1.start {f:Nat→Int} {x:Int} {m b:Nat} (h:m≤b):Sc1 f x m b m b:=⟨Nat.le_refl _,h,Nat.le_refl _,fun c h1 h2=>by omega,fun c h1 h2=>by omega⟩
theorem Sc1.up {f:Nat→Int} {x:Int} {m b i j h:Nat} (s:Sc1 f x m b i j) (u:Up f m b) (h1:i≤h) (h2:h<j) (c:f h<x):Sc1 f x m b (h+1) j:=by
 obtain⟨g1,g2,g3,g4,g5⟩:=s
 exact⟨by omega,by omega,g3,fun k k1 k2=>by have:=u k h k1 (by omega) (by omega); omega,g5⟩
theorem Sc1.down {f:Nat→Int} {x:Int} {m b i j h:Nat} (s:Sc1 f x m b i j) (u:Up f m b) (h1:i≤h) (h2:h<j) (c:¬f h<x):Sc1 f x m b i h:=by
 obtain⟨g1,g2,g3,g4,g5⟩:=s
 exact⟨g1,h1,by omega,g4,fun k k1 k2=>by have:=u h k (by omega) k1 k2; omega⟩
def Sc2 (f:Nat→Int) (x:Int) (a m i j:Nat):Prop:=a≤i∧i≤j∧j≤m∧(∀k,a≤k→k<i→f k≤x)∧∀k,j≤k→k<m→x<f k
theorem Sc2.start {f:Nat→Int} {x:Int} {m b:Nat} (h:m≤b):Sc2 f x m b m b:=⟨Nat.le_refl _,h,Nat.le_refl _,fun c h1 h2=>by omega,fun c h1 h2=>by omega⟩
theorem Sc2.up {f:Nat→Int} {x:Int} {m b i j h:Nat} (s:Sc2 f x m b i j) (u:Up f m b) (h1:i≤h) (h2:h<j) (c:¬x<f h):Sc2 f x m b (h+1) j:=by
 obtain⟨g1,g2,g3,g4,g5⟩:=s
 exact⟨by omega,by omega,g3,fun k k1 k2=>by have:=u k h k1 (by omega) (by omega); omega,g5⟩
theorem Sc2.down {f:Nat→Int} {x:Int} {m b i j h:Nat} (s:Sc2 f x m b i j) (u:Up f m b) (h1:i≤h) (h2:h<j) (c:x<f h):Sc2 f x m b i h:=by
 obtain⟨g1,g2,g3,g4,g5⟩:=s
 exact⟨g1,h1,by omega,g4,fun k k1 k2=>by have:=u h k (by omega) k1 k2; omega⟩
end Go.Proofs.YtdkcffnmlllamaaGreat
