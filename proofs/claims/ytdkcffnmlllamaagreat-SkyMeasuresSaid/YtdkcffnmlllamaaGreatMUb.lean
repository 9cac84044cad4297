import Derived.Test.YtdkcffnmlllamaaGreatMNo
import Derived.Test.YtdkcffnmlllamaaGreatMTx
import Derived.Test.YtdkcffnmlllamaaGreatMNp
import Derived.Test.YtdkcffnmlllamaaGreatMTz
import Derived.Defers
import Derived.Recover
import Derived.Laws.Pointers
import Derived.WalkLawsBesides
import Derived.BigQuiet
import Derived.LoopN
import Derived.RangeFuncNested
import Derived.RangeFuncBox
import Derived.RangeFuncLeaves
import Derived.Shelf.Abstract
import Derived.WalkKit
import Derived.OwnWalkIn
import Derived.TacticsInMore
import Derived.LoopNIn
import Derived.LoopIn
import Derived.Test.YtdkcffnmlllamaaGreatMRound
import Derived.Test.YtdkcffnmlllamaaGreatMTk
import Derived.Sort.CutIn
import Derived.ChangeKeysEq
import Derived.Deep.DeepAppendWide
import Derived.Test.YtdkcffnmlllamaaGreatMNg
set_option linter.unusedVariables false
set_option linter.unusedSimpArgs false
set_option maxHeartbeats 6400000
set_option maxRecDepth 1000000
namespace Go.Proofs.YtdkcffnmlllamaaGreat
open Go.RowKit
def PM (x y:Int) (l:List Int):Prop:=lval l=absN x*absN y∧l.length≤few
def PE (L l:List Int):Prop:=l=L
theorem wMul {va vb:Value} {x y:Int} (w:World) (ha:Num w va x) (hb:Num w vb y) (fx:fits x) (fy:fits y) :
  Calls Tryz.prog 132 #[va,vb] w fun e w'=>∃v,e = .returned (.tuple #[v,.int .i64 (errN (x*y))])∧Num w' v (clipN (x*y))∧Steps w w':=by
 have ck:∀ (w':World) (q:Nat) (sa sb:Value),Blk w' q 30 #[.bool (decide (x<0)),sa,.bool (decide (y<0)),sb]→Lim w' sa (limbs (absN x))→Lim w' sb (limbs (absN y))→
   Calls Tryz.prog 81 #[.slice (some ⟨q,0,none⟩) 2 2] w' fun e w2=>e = .returned (.int .i64 0)∧Steps w' w2:=fun w' q sa sb hb h1 h2=>wcheck2_ok w' hb h1 h2 fx fy
 obtain⟨aa,ca,rfl,pa⟩:=ha.parts
 obtain⟨ab,cb,rfl,pb⟩:=hb.parts
 unfold fits at fx fy
 have nx:(limbs (absN x)).length≤few:=by unfold few; omega
 have ny:(limbs (absN y)).length≤few:=by unfold few; omega
 have vx:=lval_limbs (absN_nonneg x)
 have vy:=lval_limbs (absN_nonneg y)
 obtain⟨g,hg⟩:∃g,(decide (x<0) != decide (y<0))=g:=⟨_,rfl⟩
 have tm:∀w' sa sb,Lim w' sa (limbs (absN x))→Lim w' sb (limbs (absN y))→Calls Tryz.prog 155 #[sa,sb] w' fun e w2=>∃v,e = .returned v∧GLi (PM x y) v w2∧Steps w' w2:=fun w' sa sb h1 h2=>by
  refine(wtimes w' h1 h2 nx ny).mono ?_
  rintro e w2 ⟨v,l,rfl,h1,h2,h3,h4⟩
  exact⟨v,rfl,⟨l,⟨by rw[h2,vx,vy],by unfold few; omega⟩,h1⟩,h4⟩
 have mk:∀w' s,GLi (PM x y) s w'→Calls Tryz.prog 115 #[.bool g,s] w' fun e w2=>∃v,e = .returned (.tuple #[v,.int .i64 (errN (x*y))])∧Num w2 v (clipN (x*y))∧Steps w' w2:=fun w' s ⟨l,⟨h2,h3⟩,h⟩=>by
  have:=wmadeN g w' h h3
  rw[h2,← hg,zv_mul]at this
  rw[← hg]
  exact this
 obtain⟨LX,hLX⟩:∃l,limbs (absN x)=l:=⟨_,rfl⟩
 obtain⟨LY,hLY⟩:∃l,limbs (absN y)=l:=⟨_,rfl⟩
 rw[hLX]at tm ck pa⊢
 rw[hLY]at tm ck pb⊢
 obtain⟨n,hn⟩:∃n,LX.length=n:=⟨_,rfl⟩
 obtain⟨m,hm⟩:∃m,LY.length=m:=⟨_,rfl⟩
 rw[hn]at pa⊢
 rw[hm]at pb⊢
 obtain⟨gx,hgx⟩:∃b,decide (x<0)=b:=⟨_,rfl⟩
 obtain⟨gy,hgy⟩:∃b,decide (y<0)=b:=⟨_,rfl⟩
 rw[hgx,hgy]at hg ck⊢
 have hgg:(gx==gy) = !g:=by rw[← hg]; cases gx<;>cases gy<;>rfl
 have Fa:=Hid.mk_ pa
 have Fb:=Hid.mk_ pb
 clear ha hb pa pb hn hm hgx hgy hg hLX hLY fx fy nx ny vx vy
 go_enter Tryz.func132,Tryz.ntmps132
 go_wp2_with fail
 refine(ck _ _ _ _ ownK (Fa.out.keeps keepsB) (Fb.out.keeps keepsB)).mono ?_
 rintro e w1 ⟨rfl,st⟩
 have B:=bA w st
 have kp:=kB w st
 have oa:Blk w1 (w.heap.size) 30 #[.bool gx,.slice aa n ca]:=Blk.stepsK st
 have ob:Blk w1 (w.heap.size+1) 30 #[.bool gy,.slice ab m cb]:=Blk.stepsK st
 have or:Blk w1 (w.heap.size+1+1) 30 #[.bool false,.slice none 0 0]:=Blk.stepsK st
 replace Fa:=Hid.mk_ (Fa.out.keeps kp)
 replace Fb:=Hid.mk_ (Fb.out.keeps kp)
 clear kp
 clear st
 obtain⟨ca0,ca1⟩:=oa.r1
 have la:=oa.lt
 obtain⟨cb0,cb1⟩:=ob.r1
 have lb:=ob.lt
 clear ck
 have zr:w.heap.size+1+1<w1.heap.size:=or.lt
 have zz1:=B.size
 go_upto_region 4 with fail
 refine Reg.chn (fun N0 D v W=>Below w.heap.size w W∧Keeps w1 W∧N0≤W.heap.size∧Blk W (w.heap.size) 30 #[.bool gx,.slice aa n ca]∧Blk W (w.heap.size+1) 30 #[.bool gy,.slice ab m cb]∧((D 13=false→Blk W (w.heap.size+1+1) 30 #[.bool false,.slice none 0 0])∧(D 13=true→D 10=true∧∃cs,v 10 = .tuple #[.agg cs,.int .i64 (errN (x*y))]∧Blk W (w.heap.size+1+1) 30 cs))) [9,10,13] [(9,IsLi),(10,IsNuE (errN (x*y)))] [(9,GLi (PM x y)),(10,GNuE (clipN (x*y)) (errN (x*y)))] [(10,[(9,some 24)]),(13,[(10,some 25)]),(15,[(9,some 24),(10,some 25)])] [(10,[13])] (fun N0 hN0=>⟨fun v=> ?_,fun D v v' W hv hj=> ?_,fun ops' Q' hops hQ=> ?_⟩)
 · exact⟨belowB,keepsB,Nat.le_of_eq hN0.out,ownK,ownK,⟨fun _=>ownK,(fun h=>Bool.noConfusion h)⟩⟩
 ·
  obtain⟨j0,jk,jn,b_a,b_b,b_r⟩:=hj
  exact⟨j0,jk,jn,b_a,b_b,⟨b_r.1,fun h=>by obtain⟨d,cs,e,hb⟩:=b_r.2 h; exact⟨d,cs,(hv 10 d)▸e,hb⟩⟩⟩
 have eN:=hN0.out
 try simp only[World.size_alloc,World.size_setCell,World.size_drew,World.heap_drewN]at eN
 have i_a:w.heap.size<N0:=by first | omega | (have h:=oa.lt; omega)
 have i_b:w.heap.size+1<N0:=by first | omega | (have h:=ob.lt; omega)
 have i_r:w.heap.size+1+1<N0:=by first | omega | (have h:=or.lt; omega)
 have iw:w.heap.size≤N0:=by first | omega | (have h:=B.size; omega)
 clear ca0 ca1 la cb0 cb1 lb
 clear hN0
 refine Reg.RP0 15 ?_
 refine Reg.RPf 16 (fun _ _ _ h=>h.2.2.2.1.r1) ?_
 refine Reg.RP0 17 ?_
 refine Reg.RPf 18 (fun _ _ _ h=>h.2.2.2.2.1.r1) ?_
 repeat refine Reg.RP0 _ ?_
 refine Reg.RPf 21 (fun _ _ _ h=>h.2.2.2.1.r1) ?_
 refine Reg.RP0 22 ?_
 refine Reg.RPf 23 (fun _ _ _ h=>h.2.2.2.2.1.r1) ?_
 refine Reg.RC_call rfl (tlt rfl) rfl (fun D v' W' hc hj hf K hK=> ?_) ?_
 ·
  obtain⟨j0,jk,jn,b_a,b_b,b_r⟩:=hj
  clear hf
  go_step
  refine(tm W' _ _ (Fa.out.keeps jk) (Fb.out.keeps jk)).mono ?_
  rintro e W2 ⟨u,rfl,hu,hs⟩
  obtain⟨t1,t2,t3,rfl⟩:=hu.shape
  exact hK.out _ W2 (Keeps.steps hs) ⟨jst j0 hs,jk.then_ hs,jsz jn hs,b_a.steps hs,b_b.steps hs,dS b_r hs⟩ hu ⟨_,_,_,rfl⟩
 rintro _ ⟨t1,t2,t3,rfl⟩
 refine Reg.RC_at (b:=⟨#[_,_,_,_,_,_,_,_,_,_,_,_,_,_,_,_,_,_,_,_,_,_,_,_,_,_,_,_],[]⟩) rfl ?_
 refine Reg.RC_call rfl (tlt rfl) rfl (fun D v' W' hc hj hf K hK=> ?_) ?_
 ·
  obtain⟨j0,jk,jn,b_a,b_b,b_r⟩:=hj
  have g9:GLi (PM x y) _ W':=(hf (9,some 24) (.head _) rfl).2.2
  clear hf
  go_step
  refine(mk W' _ g9).mono ?_
  rintro e W2 ⟨u,rfl,hu,hs⟩
  obtain⟨p1,p2,p3,p4,rfl⟩:=hu.shape
  exact hK.out _ W2 (Keeps.steps hs) ⟨jst j0 hs,jk.then_ hs,jsz jn hs,b_a.steps hs,b_b.steps hs,⟨fun h=>(b_r.1 h).steps hs,fun h=>Bool.noConfusion ((hc.2 13 (by decide)).symm.trans h)⟩⟩ ⟨_,rfl,hu⟩ ⟨_,_,_,_,rfl⟩
 rintro _ ⟨p1,p2,p3,p4,rfl⟩
 refine Reg.RC_at (b:=⟨#[_,_,_,_,_,_,_,_,_,_,_,_,_,_,_,_,_,_,_,_,_,_,_,_,_,_,_,_],[]⟩) rfl ?_
 repeat refine Reg.RP0 _ ?_
 refine Reg.RCs (fun D v' W' hc hj hf K hK=> ?_) (fun _ _=>Reg.RC_at (b:=⟨_,[]⟩) rfl ?_)
 ·
  obtain⟨j0,jk,jn,b_a,b_b,b_r⟩:=hj
  have hb:=b_r.1 hc.1
  have e2:w.heap.size≤w.heap.size+1+1:=by omega
  have fc:=hf (10,some 25) (.head _) rfl
  have ec:v' 10 = .tuple #[.agg #[.bool p1,.slice p2 p3 p4],.int .i64 (errN (x*y))]:=fc.2.1
  have ff:=hb.fr
  obtain⟨cc0,cc1⟩:=hb.r1
  go_step
  exact hK.out undef _ (wr2.k hb) ⟨(wr2.b j0),jk.trans (wr2.k hb),wr2.n jn,(wr2.f b_a),(wr2.f b_b),⟨fun h=>Bool.noConfusion h,fun _=>⟨fc.1,_,ec,(Blk.st (i:=1) (Blk.st (i:=0) hb))⟩⟩⟩ trivial trivial
 refine Reg.RP0 5 ?_
 refine Reg.RC_end (fun Dn v' w2 hd hj hf=> ?_)
 obtain⟨B,jk,jn,oa,ob,b_r⟩:=hj
 obtain⟨-,cs_,ee,or⟩:=b_r.2 (hd 13 (Nat.le_of_ble_eq_true rfl))
 have ef:v' 10 = .tuple #[.agg #[.bool p1,.slice p2 p3 p4],.int .i64 (errN (x*y))]:=(hf (10,some 25) (.tail _ (.head _)) rfl).2.1
 obtain rfl:#[.bool p1,.slice p2 p3 p4]=cs_:=by have:=ef.symm.trans ee; simpa only[Value.tuple.injEq,Value.agg.injEq,Array.mk.injEq,List.cons.injEq,and_true,true_and]using this
 clear b_r ee ef
 have Fp:=Hid.mk_ (GNuE.get (z:=clipN (x*y)) (e:=(errN (x*y))) (v:= .agg #[.bool p1,.slice p2 p3 p4]) (hf (10,some 25) (.tail _ (.head _)) rfl).2.2)
 replace Fa:=Hid.mk_ (Fa.out.keeps jk)
 replace Fb:=Hid.mk_ (Fb.out.keeps jk)
 clear hd hf jk
 refine hQ _ _ ?_
 clear hQ hops Q' ops'
 obtain⟨cr0,cr1⟩:=or.r1
 have lr:=or.lt
 clear tm mk
 go_wp2_with fail
 refine bodyPost_ret (by simp[results,Tryz.results132,go_sem,cr0,cr1,lr]; rfl) rfl ?_
 exact⟨_,rfl,Fp.out.keeps keepsB,belowB⟩
theorem wNeg {va:Value} {x:Int} (w:World) (ha:Num w va x) (fx:fits x) :
  Calls Tryz.prog 156 #[va] w fun e w'=>∃v,e = .returned (.tuple #[v,.int .i64 0])∧Num w' v (-x)∧Steps w w':=by
 have ck:∀ (w':World) (q:Nat) (sa:Value),Blk w' q 30 #[.bool (decide (x<0)),sa]→Lim w' sa (limbs (absN x))→
   Calls Tryz.prog 81 #[.slice (some ⟨q,0,none⟩) 1 1] w' fun e w2=>e = .returned (.int .i64 0)∧Steps w' w2:=fun w' q sa hb h1=>by
  have:=wcheck1 w' hb h1
  rw[show errC (valid (decide (x<0)) (limbs (absN x)))=0 from if_pos (valid_of fx)]at this
  exact this
 obtain⟨aa,ca,rfl,pa⟩:=ha.parts
 have nx:(limbs (absN x)).length≤few:=by unfold fits at fx; unfold few; omega
 have vx:=lval_limbs (absN_nonneg x)
 have cl:∀w' sa,Lim w' sa (limbs (absN x))→Calls Tryz.prog 139 #[sa] w' fun e w2=>∃v,e = .returned v∧GLi (PE (limbs (absN x))) v w2∧Steps w' w2:=fun w' sa h1=>by
  refine(wclone w' h1 nx).mono ?_
  rintro e w2 ⟨v,rfl,_,h2,h3⟩
  exact⟨v,rfl,⟨_,rfl,h2⟩,h3⟩
 have mk:∀w' s,GLi (PE (limbs (absN x))) s w'→Calls Tryz.prog 115 #[.bool (!decide (x<0)),s] w' fun e w2=>∃v,e = .returned (.tuple #[v,.int .i64 0])∧Num w2 v (-x)∧Steps w' w2:=fun w' s ⟨l,hl,h⟩=>by
  obtain rfl:l=limbs (absN x):=hl
  have:=wmadeN (!decide (x<0)) w' h nx
  have e:zv (!decide (x<0)) (lval (limbs (absN x))) = -x:=by
   rw[vx]; unfold zv absN
   by_cases h:x<0
   · rw[decide_eq_true h]; simp; omega
   · rw[decide_eq_false h]; simp; omega
  rw[e,show errN (-x)=0 from if_pos (fits_neg fx),show clipN (-x) = -x from if_pos (fits_neg fx)]at this
  exact this
 obtain⟨LX,hLX⟩:∃l,limbs (absN x)=l:=⟨_,rfl⟩
 rw[hLX]at cl mk ck pa⊢
 obtain⟨n,hn⟩:∃n,LX.length=n:=⟨_,rfl⟩
 rw[hn]at pa⊢
 obtain⟨gx,hgx⟩:∃b,decide (x<0)=b:=⟨_,rfl⟩
 rw[hgx]at mk ck⊢
 have Fa:=Hid.mk_ pa
 clear ha pa hn hgx hLX fx nx vx
 go_enter Tryz.func156,Tryz.ntmps156
 go_wp2_with fail
 refine(ck _ _ _ ownK (Fa.out.keeps keepsB)).mono ?_
 rintro e w1 ⟨rfl,st⟩
 have B:=bA w st
 have kp:=kB w st
 have oa:Blk w1 (w.heap.size) 30 #[.bool gx,.slice aa n ca]:=Blk.stepsK st
 have or:Blk w1 (w.heap.size+1) 30 #[.bool false,.slice none 0 0]:=Blk.stepsK st
 replace Fa:=Hid.mk_ (Fa.out.keeps kp)
 clear kp
 clear st
 obtain⟨ca0,ca1⟩:=oa.r1
 have la:=oa.lt
 clear ck
 have zr:w.heap.size+1<w1.heap.size:=or.lt
 have zz1:=B.size
 go_upto_region 4 with fail
 refine Reg.chn (fun N0 D v W=>Below w.heap.size w W∧Keeps w1 W∧N0≤W.heap.size∧Blk W (w.heap.size) 30 #[.bool gx,.slice aa n ca]∧((D 9=false→Blk W (w.heap.size+1) 30 #[.bool false,.slice none 0 0])∧(D 9=true→D 6=true∧∃cs,v 6 = .tuple #[.agg cs,.int .i64 0]∧Blk W (w.heap.size+1) 30 cs))) [5,6,9] [(5,IsLi),(6,IsNuE 0)] [(5,GLi (PE LX)),(6,GNuE (-x) 0)] [(6,[(5,some 17)]),(9,[(6,some 18)]),(11,[(5,some 17),(6,some 18)])] [(6,[9])] (fun N0 hN0=>⟨fun v=> ?_,fun D v v' W hv hj=> ?_,fun ops' Q' hops hQ=> ?_⟩)
 · exact⟨belowB,keepsB,Nat.le_of_eq hN0.out,ownK,⟨fun _=>ownK,(fun h=>Bool.noConfusion h)⟩⟩
 ·
  obtain⟨j0,jk,jn,b_a,b_r⟩:=hj
  exact⟨j0,jk,jn,b_a,⟨b_r.1,fun h=>by obtain⟨d,cs,e,hb⟩:=b_r.2 h; exact⟨d,cs,(hv 6 d)▸e,hb⟩⟩⟩
 have eN:=hN0.out
 try simp only[World.size_alloc,World.size_setCell,World.size_drew,World.heap_drewN]at eN
 have i_a:w.heap.size<N0:=by first | omega | (have h:=oa.lt; omega)
 have i_r:w.heap.size+1<N0:=by first | omega | (have h:=or.lt; omega)
 have iw:w.heap.size≤N0:=by first | omega | (have h:=B.size; omega)
 clear ca0 ca1 la
 clear hN0
 refine Reg.RP0 12 ?_
 refine Reg.RPf 13 (fun _ _ _ h=>h.2.2.2.1.r1) ?_
 repeat refine Reg.RP0 _ ?_
 refine Reg.RPf 16 (fun _ _ _ h=>h.2.2.2.1.r1) ?_
 refine Reg.RC_call rfl (tlt rfl) rfl (fun D v' W' hc hj hf K hK=> ?_) ?_
 ·
  obtain⟨j0,jk,jn,b_a,b_r⟩:=hj
  clear hf
  go_step
  refine(cl W' _ (Fa.out.keeps jk)).mono ?_
  rintro e W2 ⟨u,rfl,hu,hs⟩
  obtain⟨t1,t2,t3,rfl⟩:=hu.shape
  exact hK.out _ W2 (Keeps.steps hs) ⟨jst j0 hs,jk.then_ hs,jsz jn hs,b_a.steps hs,dS b_r hs⟩ hu ⟨_,_,_,rfl⟩
 rintro _ ⟨t1,t2,t3,rfl⟩
 refine Reg.RC_at (b:=⟨#[_,_,_,_,_,_,_,_,_,_,_,_,_,_,_,_,_,_,_,_,_],[]⟩) rfl ?_
 refine Reg.RC_call rfl (tlt rfl) rfl (fun D v' W' hc hj hf K hK=> ?_) ?_
 ·
  obtain⟨j0,jk,jn,b_a,b_r⟩:=hj
  have g5:GLi (PE LX) _ W':=(hf (5,some 17) (.head _) rfl).2.2
  clear hf
  go_step
  refine(mk W' _ g5).mono ?_
  rintro e W2 ⟨u,rfl,hu,hs⟩
  obtain⟨p1,p2,p3,p4,rfl⟩:=hu.shape
  exact hK.out _ W2 (Keeps.steps hs) ⟨jst j0 hs,jk.then_ hs,jsz jn hs,b_a.steps hs,⟨fun h=>(b_r.1 h).steps hs,fun h=>Bool.noConfusion ((hc.2 9 (by decide)).symm.trans h)⟩⟩ ⟨_,rfl,hu⟩ ⟨_,_,_,_,rfl⟩
 rintro _ ⟨p1,p2,p3,p4,rfl⟩
 refine Reg.RC_at (b:=⟨#[_,_,_,_,_,_,_,_,_,_,_,_,_,_,_,_,_,_,_,_,_],[]⟩) rfl ?_
 repeat refine Reg.RP0 _ ?_
 refine Reg.RCs (fun D v' W' hc hj hf K hK=> ?_) (fun _ _=>Reg.RC_at (b:=⟨_,[]⟩) rfl ?_)
 ·
  obtain⟨j0,jk,jn,b_a,b_r⟩:=hj
  have hb:=b_r.1 hc.1
  have e2:w.heap.size≤w.heap.size+1:=by omega
  have fc:=hf (6,some 18) (.head _) rfl
  have ec:v' 6 = .tuple #[.agg #[.bool p1,.slice p2 p3 p4],.int .i64 0]:=fc.2.1
  have ff:=hb.fr
  obtain⟨cc0,cc1⟩:=hb.r1
  go_step
  exact hK.out undef _ (wr2.k hb) ⟨(wr2.b j0),jk.trans (wr2.k hb),wr2.n jn,(wr2.f b_a),⟨fun h=>Bool.noConfusion h,fun _=>⟨fc.1,_,ec,(Blk.st (i:=1) (Blk.st (i:=0) hb))⟩⟩⟩ trivial trivial
 refine Reg.RP0 3 ?_
 refine Reg.RC_end (fun Dn v' w2 hd hj hf=> ?_)
 obtain⟨B,jk,jn,oa,b_r⟩:=hj
 obtain⟨-,cs_,ee,or⟩:=b_r.2 (hd 9 (Nat.le_of_ble_eq_true rfl))
 have ef:v' 6 = .tuple #[.agg #[.bool p1,.slice p2 p3 p4],.int .i64 0]:=(hf (6,some 18) (.tail _ (.head _)) rfl).2.1
 obtain rfl:#[.bool p1,.slice p2 p3 p4]=cs_:=by have:=ef.symm.trans ee; simpa only[Value.tuple.injEq,Value.agg.injEq,Array.mk.injEq,List.cons.injEq,and_true,true_and]using this
 clear b_r ee ef
 have Fp:=Hid.mk_ (GNuE.get (z:= -x) (e:=0) (v:= .agg #[.bool p1,.slice p2 p3 p4]) (hf (6,some 18) (.tail _ (.head _)) rfl).2.2)
 replace Fa:=Hid.mk_ (Fa.out.keeps jk)
 clear hd hf jk
 refine hQ _ _ ?_
 clear hQ hops Q' ops'
 obtain⟨cr0,cr1⟩:=or.r1
 have lr:=or.lt
 clear cl mk
 go_wp2_with fail
 refine bodyPost_ret (by simp[results,Tryz.results156,go_sem,cr0,cr1,lr]; rfl) rfl ?_
 exact⟨_,rfl,Fp.out.keeps keepsB,belowB⟩
theorem wCheck {va:Value} {x:Int} (w:World) (ha:Num w va x) (fx:fits x) :
  Calls Tryz.prog 134 #[va] w fun e w'=>e = .returned (.int .i64 0)∧Steps w w':=by
 have ck:∀ (w':World) (q:Nat) (sa:Value),Blk w' q 30 #[.bool (decide (x<0)),sa]→Lim w' sa (limbs (absN x))→
   Calls Tryz.prog 81 #[.slice (some ⟨q,0,none⟩) 1 1] w' fun e w2=>e = .returned (.int .i64 0)∧Steps w' w2:=fun w' q sa hb h1=>by
  have:=wcheck1 w' hb h1
  rw[show errC (valid (decide (x<0)) (limbs (absN x)))=0 from if_pos (valid_of fx)]at this
  exact this
 obtain⟨aa,ca,rfl,pa⟩:=ha.parts
 obtain⟨LX,hLX⟩:∃l,limbs (absN x)=l:=⟨_,rfl⟩
 rw[hLX]at ck pa⊢
 obtain⟨n,hn⟩:∃n,LX.length=n:=⟨_,rfl⟩
 rw[hn]at pa⊢
 obtain⟨gx,hgx⟩:∃b,decide (x<0)=b:=⟨_,rfl⟩
 rw[hgx]at ck⊢
 have Fa:=Hid.mk_ pa
 clear ha pa hn hgx hLX fx
 go_enter Tryz.func134,Tryz.ntmps134
 go_wp2_with fail
 refine(ck _ _ _ ownK (Fa.out.keeps keepsB)).mono ?_
 rintro e w1 ⟨rfl,st⟩
 have B:=bA w st
 have kp:=kB w st
 have oa:Blk w1 (w.heap.size) 30 #[.bool gx,.slice aa n ca]:=Blk.stepsK st
 replace Fa:=Hid.mk_ (Fa.out.keeps kp)
 clear kp
 clear st
 go_wp2
 go_returns
 exact⟨rfl,belowB⟩
end Go.Proofs.YtdkcffnmlllamaaGreat
namespace Go.Proofs.YtdkcffnmlllamaaGreat
open Go.RowKit
theorem fwant0 (w:World):Calls Tryz.prog 73 #[.int .i64 0] w fun e w'=>e = .returned (.tuple #[])∧w'=w:=by
 go_enter Tryz.func73,Tryz.ntmps73
 go_wp2
 go_end0
 exact⟨rfl,rfl⟩
def fallV (e:Int):Value:= .iface 156 (.agg #[.int .i64 e])
theorem fwantE (e:Int) (w:World) (he:(e==0)=false):Calls Tryz.prog 73 #[.int .i64 e] w fun r w'=>r = .panicked [{ v:=fallV e,recovered:=false }]∧w'=w:=by
 go_enter Tryz.func73,Tryz.ntmps73
 go_wp2
 all_goals exact⟨rfl,rfl,rfl⟩
theorem fcatch_idle (p:Addr) (w:World) :
  CallsD Tryz.prog 72 #[.pointer (some p)] .returning w fun e u' w'=>e = .returned (.tuple #[])∧u' = .returning∧w'=w:=by
 refine callsD_of_wpS Tryz.func72 rfl fun c₀ cs hu=> ?_
 apply wpS_seq
 apply wpS_region
 simp[wpOpsS,go_sem,recoverD,hu,Tryz.ntmps72,Exit.thenS]
 refine wpS_of_wp ?_
 show Code.wp _ _ _ ⟨#[.pointer (some p),undef,undef,undef,undef,.nilIface,undef,undef,undef,undef,undef,undef,undef,undef,undef],[]⟩ w
 go_wp2_with fail
 cases c₀
 simp_all [bodyPostS,results,Tryz.results72]
theorem fcatch_fall (b o:Nat) (x y:Int) (older:List PanicEntry) (w:World) (hc:w.cell? ⟨b,o,none⟩=some (.int .i64 y)) (hz:w.frozen? ⟨b,o,none⟩=false) (hp:b<w.heap.size) :
  CallsD Tryz.prog 72 #[.pointer (some ⟨b,o,none⟩)] (.panicking ({ v:=fallV x,recovered:=false } :: older)) w fun e u' w'=>
   e = .returned (.tuple #[])∧u' = .panicking ({ v:=fallV x,recovered:=true } :: older)∧w'=(w.setCell ⟨b,o,none⟩ (.int .i64 x)).alloc (.cells #[.int .i64 x] 156):=by
 have hta:∀w:World,(Instr.typeAssert (.iface 156 (.agg #[.int .i64 x])) 20 156 true).run Tryz.prog w = .ok (.tuple #[.agg #[.int .i64 x],.bool true]) w:=fun w=>by kernel_rfl
 refine callsD_of_wpS Tryz.func72 rfl fun c₀ cs hu=> ?_
 apply wpS_seq
 apply wpS_region
 simp[wpOpsS,go_sem,recoverD,hu,Tryz.ntmps72,Exit.thenS]
 refine wpS_of_wp ?_
 show Code.wp _ _ _ ⟨#[.pointer (some ⟨b,o,none⟩),undef,undef,undef,undef,fallV x,undef,undef,undef,undef,undef,undef,undef,undef,undef],[]⟩ w
 unfold fallV
 go_wp2_with fail
 cases c₀
 simp_all [bodyPostS,results,Tryz.results72,fallV]
end Go.Proofs.YtdkcffnmlllamaaGreat
namespace Go.Proofs.YtdkcffnmlllamaaGreat
open Go.RowKit
theorem fits_small64 {x:Int} (x0 : -9223372036854775808≤x) (x1:x≤9223372036854775807):fits x:=fits_bp (k:=2) (by rw[bp_two]; unfold absN; omega) (by omega)
theorem fmust {va:Value} {x:Int} (w:World) (ha:Num w va x):Calls Tryz.prog 77 #[va,.int .i64 0] w fun e w2=>∃v,e = .returned v∧Num w2 v x∧Steps w w2:=by
 obtain⟨a1,a2,a3,a4,rfl⟩:=ha.shape
 have Fa:=Hid.mk_ ha
 clear ha
 go_enter Tryz.func77,Tryz.ntmps77
 go_wp2_with fail
 refine bodyPost_ret (by simp[results,Tryz.results77,go_sem,]; rfl) rfl ?_
 exact⟨_,rfl,Fa.out.keeps keepsB,belowB⟩
theorem freduce {va vb:Value} {x y:Int} (w:World) (ha:Num w va x) (hb:Num w vb y) (fx:fits x) (fy:fits y) (hy:y≠0) :
  Calls Tryz.prog 135 #[va,vb] w fun e w'=>∃v,e = .returned v∧FR w' v ((x:Rat) / (y:Rat))∧Steps w w':=by
 have RA:=rd_abs (x:=x) hy
 have fP:fits (rdP x y):=fits_le RA.1 fx
 have fQ:fits (rdQ x y):=fits_le RA.2.1 fy
 have fG:fits (rg x y):=fits_le RA.2.2 fy
 have g0:=rg_ne (x:=x) hy
 have gc:∀w' u v,Num w' u x→Num w' v y→Calls Tryz.prog 110 #[u,v] w' fun e w2=>∃v,e = .returned (.tuple #[v,.int .i64 0])∧Num w2 v (gcdI x y)∧Steps w' w2:=fun w' u v h1 h2=>(wgcd w' h1 h2 fx fy).mono (by rintro e w2 ⟨v,rfl,h,-,hs⟩; exact⟨v,rfl,h,hs⟩)
 have d1:∀w' u v,Num w' u x→Num w' v (rg x y)→Calls Tryz.prog 75 #[u,v] w' fun e w2=>∃q r,e = .returned (.tuple #[q,r,.int .i64 0])∧Num w2 q (rdP x y)∧Num w2 r (modF x (rg x y))∧Steps w' w2:=fun w' u v h1 h2=>wdivmod w' h1 h2 fx fG g0
 have d2:∀w' u v,Num w' u y→Num w' v (rg x y)→Calls Tryz.prog 75 #[u,v] w' fun e w2=>∃q r,e = .returned (.tuple #[q,r,.int .i64 0])∧Num w2 q (rdQ x y)∧Num w2 r (modF y (rg x y))∧Steps w' w2:=fun w' u v h1 h2=>wdivmod w' h1 h2 fy fG g0
 have MK:Hid (∀w' a s b t,Num w' (.agg #[.bool a,s]) (rdP x y)→Num w' (.agg #[.bool b,t]) (rdQ x y)→FR w' (.agg #[.bool a,s,.bool b,t]) ((x:Rat) / (y:Rat))):=fun w' a s b t h1 h2=>FR.of_rd hy (Frc.mk' h1 h2 (rdQ_pos (x:=x) hy) (rd_gcd (x:=x) hy) fP fQ)
 have fg:fits (gcdI x y):=by
  unfold rg at fG
  split at fG
  · have:=fits_neg fG; rwa[Int.neg_neg]at this
  · exact fG
 have ng:∀w' v,Num w' v (gcdI x y)→Calls Tryz.prog 156 #[v] w' fun e w2=>∃v,e = .returned (.tuple #[v,.int .i64 0])∧Num w2 v (-gcdI x y)∧Steps w' w2:=fun w' v h=>wNeg w' h fg
 obtain⟨a1,a2,a3,a4,rfl⟩:=ha.shape
 have Fa:=Hid.mk_ ha
 clear ha
 obtain⟨b2,b4,rfl,-⟩:=hb.parts
 obtain⟨b3,hb3⟩:∃n,(limbs (absN y)).length=n:=⟨_,rfl⟩
 rw[hb3]at hb⊢
 by_cases hs:y<0
 focus
  rw[decide_eq_true hs]at hb⊢
  have HG:rg x y = -gcdI x y:=if_pos hs
  rw[HG]at d1 d2
  have Fb:=Hid.mk_ hb
  clear hb hb3 hs HG fg hy fx fy g0 RA fP fQ fG
  go_enter Tryz.func135,Tryz.ntmps135
  go_wp2_with fail
  refine(gc _ _ _ (Fa.out.keeps keepsB) (Fb.out.keeps keepsB)).mono ?_
  rintro e w1 ⟨vg,rfl,hvg,hb1⟩
  have st:Steps _ w1:=hb1
  have B:=bA w st
  have kp:=kB w st
  have oa:Blk w1 (w.heap.size) 30 #[.bool a1,.slice a2 a3 a4]:=Blk.stepsK st
  have ob:Blk w1 (w.heap.size+1) 30 #[.bool true,.slice b2 b3 b4]:=Blk.stepsK st
  have or:Blk w1 (w.heap.size+1+1) 32 #[.bool false,.slice none 0 0,.bool false,.slice none 0 0]:=Blk.stepsK st
  replace Fa:=Hid.mk_ (Fa.out.keeps kp)
  replace Fb:=Hid.mk_ (Fb.out.keeps kp)
  clear kp
  clear st
  obtain⟨g1,g2,g3,g4,rfl⟩:=hvg.shape
  have Fg:=Hid.mk_ hvg
  clear hvg
  clear gc
  go_wp2_with fail
  refine(fmust _ (Fg.out.keeps keepsB)).mono ?_
  rintro e w2 ⟨vm1_,rfl,hvm1_,hb2⟩
  have st:Steps _ w2:=hb2
  have sk:=bA w1 st
  replace B:=bS B sk
  replace oa:=oa.steps sk
  replace ob:=ob.steps sk
  replace or:=or.steps sk
  replace Fa:=Hid.mk_ (Fa.out.steps sk)
  replace Fb:=Hid.mk_ (Fb.out.steps sk)
  replace Fg:=Hid.mk_ (Fg.out.steps sk)
  clear st sk
  have la:=oa.lt
  obtain⟨cb0,cb1⟩:=ob.r1
  have lb:=ob.lt
  have lr:=or.lt
  obtain⟨m1_1,m1_2,m1_3,m1_4,rfl⟩:=hvm1_.shape
  have Fm1_:=Hid.mk_ hvm1_
  clear hvm1_
  have zr:w.heap.size+1+1<w2.heap.size:=or.lt
  have zz2:=B.size
  go_wp2_with fail
  refine(ng _ _ (Fm1_.out.keeps keepsB)).mono ?_
  rintro e w3 ⟨vh,rfl,hvh,hb3⟩
  have st:Steps _ w3:=hb3
  have sk:=bA w2 st
  replace B:=bS B sk
  have og:Blk w3 (w2.heap.size) 30 #[.bool m1_1,.slice m1_2 m1_3 m1_4]:=Blk.stepsK st
  replace oa:=oa.steps sk
  replace ob:=ob.steps sk
  replace or:=or.steps sk
  replace Fa:=Hid.mk_ (Fa.out.steps sk)
  replace Fb:=Hid.mk_ (Fb.out.steps sk)
  replace Fg:=Hid.mk_ (Fg.out.steps sk)
  replace Fm1_:=Hid.mk_ (Fm1_.out.steps sk)
  clear st sk la cb0 cb1 lb lr
  obtain⟨h1,h2,h3,h4,rfl⟩:=hvh.shape
  have Fh:=Hid.mk_ hvh
  clear hvh
  clear ng
  go_wp2_with fail
  refine(fmust _ (Fh.out.keeps keepsB)).mono ?_
  rintro e w4 ⟨vm2_,rfl,hvm2_,hb4⟩
  have st:Steps _ w4:=hb4
  have sk:=bA w3 st
  replace B:=bS B sk
  replace oa:=oa.steps sk
  replace ob:=ob.steps sk
  replace or:=or.steps sk
  replace og:=og.steps sk
  replace Fa:=Hid.mk_ (Fa.out.steps sk)
  replace Fb:=Hid.mk_ (Fb.out.steps sk)
  replace Fg:=Hid.mk_ (Fg.out.steps sk)
  replace Fm1_:=Hid.mk_ (Fm1_.out.steps sk)
  replace Fh:=Hid.mk_ (Fh.out.steps sk)
  clear st sk
  obtain⟨ca0,ca1⟩:=oa.r1
  have la:=oa.lt
  have lb:=ob.lt
  have lr:=or.lt
  obtain⟨cg0,cg1,fg,lg⟩:=og.s1
  obtain⟨m2_1,m2_2,m2_3,m2_4,rfl⟩:=hvm2_.shape
  have Fm2_:=Hid.mk_ hvm2_
  clear hvm2_
  go_wp2_with fail
  refine(d1 _ _ _ (Fa.out.keeps keepsB) (Fm2_.out.keeps keepsB)).mono ?_
  rintro e w5 ⟨vp,vs,rfl,hvp,hvs,st⟩
  have Bn:=bA w st
  have kp:=kB w4 st
  replace oa:Blk w5 (w.heap.size) 30 #[.bool a1,.slice a2 a3 a4]:=Blk.stepsK st
  replace ob:Blk w5 (w.heap.size+1) 30 #[.bool true,.slice b2 b3 b4]:=Blk.stepsK st
  replace or:Blk w5 (w.heap.size+1+1) 32 #[.bool false,.slice none 0 0,.bool false,.slice none 0 0]:=Blk.stepsK st
  replace og:Blk w5 (w2.heap.size) 30 #[.bool m2_1,.slice m2_2 m2_3 m2_4]:=Blk.stepsK st
  clear ca0 ca1 la lb lr cg0 cg1 fg lg
  replace B:=Bn
  replace Fa:=Hid.mk_ (Fa.out.keeps kp)
  replace Fb:=Hid.mk_ (Fb.out.keeps kp)
  replace Fg:=Hid.mk_ (Fg.out.keeps kp)
  replace Fm1_:=Hid.mk_ (Fm1_.out.keeps kp)
  replace Fh:=Hid.mk_ (Fh.out.keeps kp)
  replace Fm2_:=Hid.mk_ (Fm2_.out.keeps kp)
  clear kp
  clear st
  have la:=oa.lt
  obtain⟨cb0,cb1⟩:=ob.r1
  have lb:=ob.lt
  have lr:=or.lt
  obtain⟨cg0,cg1⟩:=og.r1
  have lg:=og.lt
  obtain⟨p1,p2,p3,p4,rfl⟩:=hvp.shape
  obtain⟨s1,s2,s3,s4,rfl⟩:=hvs.shape
  have Fp:=Hid.mk_ hvp
  clear hvp
  have Fs:=Hid.mk_ hvs
  clear hvs
  clear d1
  have zg:w2.heap.size<w5.heap.size:=og.lt
  have zz5:=B.size
  go_wp2_with fail
  refine(d2 _ _ _ (Fb.out.keeps keepsB) (Fm2_.out.keeps keepsB)).mono ?_
  rintro e w6 ⟨vq,vt,rfl,hvq,hvt,st⟩
  have sk:=bA w5 st
  replace B:=bS B sk
  have op:Blk w6 (w5.heap.size) 30 #[.bool p1,.slice p2 p3 p4]:=Blk.stepsK st
  have os:Blk w6 (w5.heap.size+1) 30 #[.bool s1,.slice s2 s3 s4]:=Blk.stepsK st
  replace oa:=oa.steps sk
  replace ob:=ob.steps sk
  replace or:=or.steps sk
  replace og:=og.steps sk
  replace Fa:=Hid.mk_ (Fa.out.steps sk)
  replace Fb:=Hid.mk_ (Fb.out.steps sk)
  replace Fg:=Hid.mk_ (Fg.out.steps sk)
  replace Fm1_:=Hid.mk_ (Fm1_.out.steps sk)
  replace Fh:=Hid.mk_ (Fh.out.steps sk)
  replace Fm2_:=Hid.mk_ (Fm2_.out.steps sk)
 rotate_left
 focus
  rw[decide_eq_false hs]at hb⊢
  have HG:rg x y=gcdI x y:=if_neg hs
  rw[HG]at d1 d2
  have Fb:=Hid.mk_ hb
  clear hb hb3 hs HG fg hy fx fy g0 RA fP fQ fG ng
  go_enter Tryz.func135,Tryz.ntmps135
  go_wp2_with fail
  refine(gc _ _ _ (Fa.out.keeps keepsB) (Fb.out.keeps keepsB)).mono ?_
  rintro e w1 ⟨vg,rfl,hvg,hb1⟩
  have st:Steps _ w1:=hb1
  have B:=bA w st
  have kp:=kB w st
  have oa:Blk w1 (w.heap.size) 30 #[.bool a1,.slice a2 a3 a4]:=Blk.stepsK st
  have ob:Blk w1 (w.heap.size+1) 30 #[.bool false,.slice b2 b3 b4]:=Blk.stepsK st
  have or:Blk w1 (w.heap.size+1+1) 32 #[.bool false,.slice none 0 0,.bool false,.slice none 0 0]:=Blk.stepsK st
  replace Fa:=Hid.mk_ (Fa.out.keeps kp)
  replace Fb:=Hid.mk_ (Fb.out.keeps kp)
  clear kp
  clear st
  obtain⟨g1,g2,g3,g4,rfl⟩:=hvg.shape
  have Fg:=Hid.mk_ hvg
  clear hvg
  clear gc
  go_wp2_with fail
  refine(fmust _ (Fg.out.keeps keepsB)).mono ?_
  rintro e w2 ⟨vm1_,rfl,hvm1_,hb2⟩
  have st:Steps _ w2:=hb2
  have sk:=bA w1 st
  replace B:=bS B sk
  replace oa:=oa.steps sk
  replace ob:=ob.steps sk
  replace or:=or.steps sk
  replace Fa:=Hid.mk_ (Fa.out.steps sk)
  replace Fb:=Hid.mk_ (Fb.out.steps sk)
  replace Fg:=Hid.mk_ (Fg.out.steps sk)
  clear st sk
  obtain⟨ca0,ca1⟩:=oa.r1
  have la:=oa.lt
  obtain⟨cb0,cb1⟩:=ob.r1
  have lb:=ob.lt
  have lr:=or.lt
  obtain⟨m1_1,m1_2,m1_3,m1_4,rfl⟩:=hvm1_.shape
  have Fm1_:=Hid.mk_ hvm1_
  clear hvm1_
  have zr:w.heap.size+1+1<w2.heap.size:=or.lt
  have zz2:=B.size
  go_wp2_with fail
  refine(d1 _ _ _ (Fa.out.keeps keepsB) (Fm1_.out.keeps keepsB)).mono ?_
  rintro e w5 ⟨vp,vs,rfl,hvp,hvs,hb3⟩
  have st:Steps _ w5:=hb3
  have sk:=bA w2 st
  replace B:=bS B sk
  have og:Blk w5 (w2.heap.size) 30 #[.bool m1_1,.slice m1_2 m1_3 m1_4]:=Blk.stepsK st
  replace oa:=oa.steps sk
  replace ob:=ob.steps sk
  replace or:=or.steps sk
  replace Fa:=Hid.mk_ (Fa.out.steps sk)
  replace Fb:=Hid.mk_ (Fb.out.steps sk)
  replace Fg:=Hid.mk_ (Fg.out.steps sk)
  replace Fm1_:=Hid.mk_ (Fm1_.out.steps sk)
  clear st sk ca0 ca1 la cb0 cb1 lb lr
  have la:=oa.lt
  obtain⟨cb0,cb1⟩:=ob.r1
  have lb:=ob.lt
  have lr:=or.lt
  obtain⟨cg0,cg1⟩:=og.r1
  have lg:=og.lt
  obtain⟨p1,p2,p3,p4,rfl⟩:=hvp.shape
  obtain⟨s1,s2,s3,s4,rfl⟩:=hvs.shape
  have Fp:=Hid.mk_ hvp
  clear hvp
  have Fs:=Hid.mk_ hvs
  clear hvs
  clear d1
  have zg:w2.heap.size<w5.heap.size:=og.lt
  have zz3:=B.size
  go_wp2_with fail
  refine(d2 _ _ _ (Fb.out.keeps keepsB) (Fm1_.out.keeps keepsB)).mono ?_
  rintro e w6 ⟨vq,vt,rfl,hvq,hvt,hb4⟩
  have st:Steps _ w6:=hb4
  have sk:=bA w5 st
  replace B:=bS B sk
  have op:Blk w6 (w5.heap.size) 30 #[.bool p1,.slice p2 p3 p4]:=Blk.stepsK st
  have os:Blk w6 (w5.heap.size+1) 30 #[.bool s1,.slice s2 s3 s4]:=Blk.stepsK st
  replace oa:=oa.steps sk
  replace ob:=ob.steps sk
  replace or:=or.steps sk
  replace og:=og.steps sk
  replace Fa:=Hid.mk_ (Fa.out.steps sk)
  replace Fb:=Hid.mk_ (Fb.out.steps sk)
  replace Fg:=Hid.mk_ (Fg.out.steps sk)
  replace Fm1_:=Hid.mk_ (Fm1_.out.steps sk)
 rotate_left
 all_goals
  replace Fp:=Hid.mk_ (Fp.out.steps sk)
  replace Fs:=Hid.mk_ (Fs.out.steps sk)
  clear st sk la cb0 cb1 lb lr cg0 cg1 lg
  have la:=oa.lt
  have lb:=ob.lt
  obtain⟨cr0,cr1,cr2,cr3,fr,lr⟩:=or.s3
  obtain⟨cp0,cp1⟩:=op.r1
  have lp:=op.lt
  have ls:=os.lt
  obtain⟨q1,q2,q3,q4,rfl⟩:=hvq.shape
  obtain⟨t1,t2,t3,t4,rfl⟩:=hvt.shape
  have Fq:=Hid.mk_ hvq
  clear hvq
  have Ft:=Hid.mk_ hvt
  clear hvt
  clear d2
  have zs:w5.heap.size+1<w6.heap.size:=os.lt
  have zz6:=B.size
  go_wp2_with fail
  refine bodyPost_ret (by simp[results,Tryz.results135,go_sem,la,lb,cr0,cr1,cr2,cr3,fr,lr,cp0,cp1,lp,ls]; rfl) rfl ?_
  exact⟨_,rfl,MK.out _ _ _ _ _ (Fp.out.keeps keepsB) (Fq.out.keeps keepsB),belowB⟩
theorem fwant0s (w:World):Calls Tryz.prog 73 #[.int .i64 0] w fun e w'=>e = .returned (.tuple #[])∧Steps w w':=(fwant0 w).mono (by rintro e w' ⟨rfl,rfl⟩; exact⟨rfl,Below.refl _ _⟩)
theorem fmake {va vb:Value} {x y:Int} (w:World) (ha:Num w va x) (hb:Num w vb y) (fx:fits x) (fy:fits y) (hy:y≠0) :
  Calls Tryz.prog 107 #[va,vb] w fun e w'=>∃v,e = .returned (.tuple #[v,.int .i64 0])∧FR w' v ((x:Rat) / (y:Rat))∧Steps w w':=by
 have c1:∀w' v,Num w' v x→Calls Tryz.prog 134 #[v] w' fun e w2=>e = .returned (.int .i64 0)∧Steps w' w2:=fun w' v h=>wCheck w' h fx
 have c2:∀w' v,Num w' v y→Calls Tryz.prog 134 #[v] w' fun e w2=>e = .returned (.int .i64 0)∧Steps w' w2:=fun w' v h=>wCheck w' h fy
 have zr:∀w' v,Num w' v y→Calls Tryz.prog 79 #[v] w' fun e w2=>e = .returned (.bool false)∧Steps w' w2:=fun w' v h=>by have:=fzero w' h; rwa[decide_eq_false hy]at this
 have rd:∀w' u v,Num w' u x→Num w' v y→Calls Tryz.prog 135 #[u,v] w' fun e w2=>∃v,e = .returned v∧FR w2 v ((x:Rat) / (y:Rat))∧Steps w' w2:=fun w' u v h1 h2=>freduce w' h1 h2 fx fy hy
 obtain⟨a1,a2,a3,a4,rfl⟩:=ha.shape
 have Fa:=Hid.mk_ ha
 clear ha
 obtain⟨b1,b2,b3,b4,rfl⟩:=hb.shape
 have Fb:=Hid.mk_ hb
 clear hb
 clear fx fy hy
 go_enter_defers Tryz.func107,Tryz.ntmps107
 go_wp2_with fail
 refine(c1 _ _ (Fa.out.keeps keepsB)).mono ?_
 rintro e w1 ⟨rfl,st⟩
 have B:=bA w st
 have kp:=kB w st
 have oa:Blk w1 (w.heap.size) 30 #[.bool a1,.slice a2 a3 a4]:=Blk.stepsK st
 have ob:Blk w1 (w.heap.size+1) 30 #[.bool b1,.slice b2 b3 b4]:=Blk.stepsK st
 have or:Blk w1 (w.heap.size+1+1) 32 #[.bool false,.slice none 0 0,.bool false,.slice none 0 0]:=Blk.stepsK st
 have oe:Blk w1 (w.heap.size+1+1+1) 36 #[.int .i64 0]:=Blk.stepsK st
 replace Fa:=Hid.mk_ (Fa.out.keeps kp)
 replace Fb:=Hid.mk_ (Fb.out.keeps kp)
 clear kp
 clear st
 go_wp2_with fail
 refine(fwant0s _).mono ?_
 rintro e w2 ⟨rfl,st⟩
 have sk:=bA w1 st
 replace B:=bS B sk
 replace oa:=oa.steps sk
 replace ob:=ob.steps sk
 replace or:=or.steps sk
 replace oe:=oe.steps sk
 replace Fa:=Hid.mk_ (Fa.out.steps sk)
 replace Fb:=Hid.mk_ (Fb.out.steps sk)
 clear st sk
 have la:=oa.lt
 obtain⟨cb0,cb1⟩:=ob.r1
 have lb:=ob.lt
 have lr:=or.lt
 have le:=oe.lt
 go_wp2_with fail
 refine(c2 _ _ (Fb.out.keeps keepsB)).mono ?_
 rintro e w3 ⟨rfl,st⟩
 have sk:=bA w2 st
 replace B:=bS B sk
 replace oa:=oa.steps sk
 replace ob:=ob.steps sk
 replace or:=or.steps sk
 replace oe:=oe.steps sk
 replace Fa:=Hid.mk_ (Fa.out.steps sk)
 replace Fb:=Hid.mk_ (Fb.out.steps sk)
 clear st sk la cb0 cb1 lb lr le
 go_wp2_with fail
 refine(fwant0s _).mono ?_
 rintro e w4 ⟨rfl,st⟩
 have sk:=bA w3 st
 replace B:=bS B sk
 replace oa:=oa.steps sk
 replace ob:=ob.steps sk
 replace or:=or.steps sk
 replace oe:=oe.steps sk
 replace Fa:=Hid.mk_ (Fa.out.steps sk)
 replace Fb:=Hid.mk_ (Fb.out.steps sk)
 clear st sk
 have la:=oa.lt
 obtain⟨cb0,cb1⟩:=ob.r1
 have lb:=ob.lt
 have lr:=or.lt
 have le:=oe.lt
 go_wp2_with fail
 refine(zr _ _ (Fb.out.keeps keepsB)).mono ?_
 rintro e w5 ⟨rfl,st⟩
 have sk:=bA w4 st
 replace B:=bS B sk
 replace oa:=oa.steps sk
 replace ob:=ob.steps sk
 replace or:=or.steps sk
 replace oe:=oe.steps sk
 replace Fa:=Hid.mk_ (Fa.out.steps sk)
 replace Fb:=Hid.mk_ (Fb.out.steps sk)
 clear st sk la cb0 cb1 lb lr le
 obtain⟨ca0,ca1⟩:=oa.r1
 have la:=oa.lt
 obtain⟨cb0,cb1⟩:=ob.r1
 have lb:=ob.lt
 have lr:=or.lt
 have le:=oe.lt
 go_wp2_with fail
 refine(rd _ _ _ (Fa.out.keeps keepsB) (Fb.out.keeps keepsB)).mono ?_
 rintro e w6 ⟨vq,rfl,hvq,st⟩
 have sk:=bA w5 st
 replace B:=bS B sk
 replace oa:=oa.steps sk
 replace ob:=ob.steps sk
 replace or:=or.steps sk
 replace oe:=oe.steps sk
 replace Fa:=Hid.mk_ (Fa.out.steps sk)
 replace Fb:=Hid.mk_ (Fb.out.steps sk)
 clear st sk ca0 ca1 la cb0 cb1 lb lr le
 have la:=oa.lt
 have lb:=ob.lt
 obtain⟨cr0,cr1,cr2,cr3,fr,lr⟩:=or.s3
 have ce0:=oe.q0
 have fe:=oe.fr
 have le:=oe.lt
 obtain⟨q1,q2,q3,q4,q5,q6,q7,q8,rfl⟩:=hvq.shape
 have Fq:=Hid.mk_ hvq
 clear hvq
 go_wp2_with fail
 refine leaves_cons (f:=72) (args:=#[.pointer (some ⟨w.heap.size+1+1+1,0,none⟩)]) (by simp) (by simp[go_sem]) ?_
 refine(fcatch_idle _ _).mono ?_
 rintro e u' w'' ⟨rfl,rfl,rfl⟩
 refine⟨_,by simp[results,Tryz.results107,go_sem,la,lb,cr0,cr1,cr2,cr3,fr,lr,ce0,fe,le]; rfl,?_⟩
 exact⟨_,rfl,Fq.out.keeps keepsB,belowB⟩
theorem fofQ (x y:Int) (w:World) (x0 : -9223372036854775808≤x) (x1:x≤9223372036854775807) (y0 : -9223372036854775808≤y) (y1:y≤9223372036854775807) (hy:y≠0) :
  Calls Tryz.prog 70 #[.int .i64 x,.int .i64 y] w fun e w'=>∃v,e = .returned (.tuple #[v,.int .i64 0])∧FR w' v ((x:Rat) / (y:Rat))∧Steps w w':=by
 have fx:fits x:=fits_small64 x0 x1
 have fy:fits y:=fits_small64 y0 y1
 have f1:=fun w'=>wfrom x w' x0 x1
 have f2:=fun w'=>wfrom y w' y0 y1
 have mk:∀w' u v,Num w' u x→Num w' v y→Calls Tryz.prog 107 #[u,v] w' fun e w2=>∃v,e = .returned (.tuple #[v,.int .i64 0])∧FR w2 v ((x:Rat) / (y:Rat))∧Steps w' w2:=fun w' u v h1 h2=>fmake w' h1 h2 fx fy hy
 clear x0 x1 y0 y1 fx fy hy
 go_enter Tryz.func70,Tryz.ntmps70
 go_wp2_with fail
 refine(f1 _).mono ?_
 rintro e w1 ⟨vnx,rfl,hvnx,st⟩
 have B:=bA w st
 have or:Blk w1 (w.heap.size) 32 #[.bool false,.slice none 0 0,.bool false,.slice none 0 0]:=Blk.stepsK st
 clear st
 obtain⟨nx1,nx2,nx3,nx4,rfl⟩:=hvnx.shape
 have Fnx:=Hid.mk_ hvnx
 clear hvnx
 go_wp2_with fail
 refine(f2 _).mono ?_
 rintro e w2 ⟨vny,rfl,hvny,st⟩
 have sk:=bA w1 st
 replace B:=bS B sk
 replace or:=or.steps sk
 replace Fnx:=Hid.mk_ (Fnx.out.steps sk)
 clear st sk
 obtain⟨ny1,ny2,ny3,ny4,rfl⟩:=hvny.shape
 have Fny:=Hid.mk_ hvny
 clear hvny
 go_wp2_with fail
 refine(mk _ _ _ (Fnx.out.keeps keepsB) (Fny.out.keeps keepsB)).mono ?_
 rintro e w3 ⟨vq,rfl,hvq,st⟩
 have sk:=bA w2 st
 replace B:=bS B sk
 replace or:=or.steps sk
 replace Fnx:=Hid.mk_ (Fnx.out.steps sk)
 replace Fny:=Hid.mk_ (Fny.out.steps sk)
 clear st sk
 obtain⟨cr0,cr1,cr2,cr3,fr,lr⟩:=or.s3
 obtain⟨q1,q2,q3,q4,q5,q6,q7,q8,rfl⟩:=hvq.shape
 have Fq:=Hid.mk_ hvq
 clear hvq
 go_wp2_with fail
 refine bodyPost_ret (by simp[results,Tryz.results70,go_sem,cr0,cr1,cr2,cr3,fr,lr]; rfl) rfl ?_
 exact⟨_,rfl,Fq.out.keeps keepsB,belowB⟩
theorem fcross {va vb:Value} {r s:Rat} (w:World) (ha:FR w va r) (hb:FR w vb s) (f:fits (r.num*s.den)) :
  Calls Tryz.prog 130 #[va,vb] w fun e w'=>∃v,e = .returned v∧Num w' v (r.num*s.den)∧Steps w w':=by
 have fa:=ha.fit
 have fb:=hb.fit
 obtain⟨a2,a3,a4,a6,a7,a8,rfl,na,da,-⟩:=ha.nums
 obtain⟨b2,b3,b4,b6,b7,b8,rfl,nb',db,-⟩:=hb.nums
 have m1:∀w' u v,Num w' u r.num→Num w' v s.den→Calls Tryz.prog 132 #[u,v] w' fun e w2=>∃v,e = .returned (.tuple #[v,.int .i64 0])∧Num w2 v (r.num*s.den)∧Steps w' w2:=fun w' u v h1 h2=>by
  have:=wMul w' h1 h2 fa.1 fb.2
  rw[errN_fits f,clipN_fits f]at this
  exact this
 obtain⟨ga,hga⟩:∃g,decide (r<0)=g:=⟨_,rfl⟩
 obtain⟨gb,hgb⟩:∃g,decide (s<0)=g:=⟨_,rfl⟩
 rw[hga]at na⊢
 rw[hgb]
 have Fa:=Hid.mk_ na
 have Fb:=Hid.mk_ db
 clear hga hgb na da nb' db fa fb ha hb f
 go_enter Tryz.func130,Tryz.ntmps130
 go_wp2_with fail
 refine(m1 _ _ _ (Fa.out.keeps keepsB) (Fb.out.keeps keepsB)).mono ?_
 rintro e w1 ⟨vp,rfl,hvp,st⟩
 have B:=bA w st
 have kp:=kB w st
 have oa:Blk w1 (w.heap.size) 32 #[.bool ga,.slice a2 a3 a4,.bool false,.slice a6 a7 a8]:=Blk.stepsK st
 have ob:Blk w1 (w.heap.size+1) 32 #[.bool gb,.slice b2 b3 b4,.bool false,.slice b6 b7 b8]:=Blk.stepsK st
 have or:Blk w1 (w.heap.size+1+1) 30 #[.bool false,.slice none 0 0]:=Blk.stepsK st
 replace Fa:=Hid.mk_ (Fa.out.keeps kp)
 replace Fb:=Hid.mk_ (Fb.out.keeps kp)
 clear kp
 clear st
 obtain⟨p1,p2,p3,p4,rfl⟩:=hvp.shape
 have Fp:=Hid.mk_ hvp
 clear hvp
 go_wp2_with fail
 refine(fmust _ (Fp.out.keeps keepsB)).mono ?_
 rintro e w2 ⟨vq,rfl,hvq,st⟩
 have sk:=bA w1 st
 replace B:=bS B sk
 replace oa:=oa.steps sk
 replace ob:=ob.steps sk
 replace or:=or.steps sk
 replace Fa:=Hid.mk_ (Fa.out.steps sk)
 replace Fb:=Hid.mk_ (Fb.out.steps sk)
 replace Fp:=Hid.mk_ (Fp.out.steps sk)
 clear st sk
 have la:=oa.lt
 have lb:=ob.lt
 obtain⟨cr0,cr1,fr,lr⟩:=or.s1
 obtain⟨q1,q2,q3,q4,rfl⟩:=hvq.shape
 have Fq:=Hid.mk_ hvq
 clear hvq
 go_wp2_with fail
 refine bodyPost_ret (by simp[results,Tryz.results130,go_sem,la,lb,cr0,cr1,fr,lr]; rfl) rfl ?_
 exact⟨_,rfl,Fq.out.keeps keepsB,belowB⟩
end Go.Proofs.YtdkcffnmlllamaaGreat
namespace Go.Proofs.YtdkcffnmlllamaaGreat
open Go.RowKit
theorem fcheck_q {v:Value} {r:Rat} (w:World) (h:FR w v r):Calls Tryz.prog 74 #[v] w fun e w'=>e = .returned (.int .i64 0)∧Steps w w':=fcheck_ok w h
theorem fcheck_bad {v:Value} (w:World) (h:Bad w v):Calls Tryz.prog 74 #[v] w fun e w'=>e = .returned (.int .i64 8)∧Steps w w':=by
 obtain⟨gx,sa,gy,sb,la,lb,rfl,l1,l2,hv⟩:=h
 have:=fcheck gx gy w l1 l2
 rw[errC_eq,if_neg hv]at this
 exact this
theorem fCmpQ {va vb:Value} {r s:Rat} {i j:Nat} (w:World) (ha:FR w va r) (hb:FR w vb s) (hr:sz r i) (hs:sz s j) (hk:i+j≤4095) :
  Calls Tryz.prog 99 #[va,vb] w fun e w'=>e = .returned (.tuple #[.int .i64 (cmpQ r s),.int .i64 0])∧Steps w w':=by
 obtain⟨h1,h2,h3⟩:=sum_size hr hs
 have g1:=fits_bp h1 hk
 have g2:=fits_bp h2 hk
 have cr1:∀w' u v,FR w' u r→FR w' v s→Calls Tryz.prog 130 #[u,v] w' fun e w2=>∃v,e = .returned v∧Num w2 v (r.num*s.den)∧Steps w' w2:=fun w' u v h1 h2=>fcross w' h1 h2 g1
 have cr2:∀w' u v,FR w' u s→FR w' v r→Calls Tryz.prog 130 #[u,v] w' fun e w2=>∃v,e = .returned v∧Num w2 v (s.num*r.den)∧Steps w' w2:=fun w' u v h1 h2=>fcross w' h1 h2 g2
 have cm:∀w' v u,Num w' v (r.num*s.den)→Num w' u (s.num*r.den)→Calls Tryz.prog 76 #[v,u] w' fun e w2=>e = .returned (.tuple #[.int .i64 (cmpQ r s),.int .i64 0])∧Steps w' w2:=fun w' v u h1 h2=>by
  have:=wCmp w' h1 h2 g1 g2
  rw[cmpI_rat]at this
  exact this
 obtain⟨c,hc⟩:∃c,cmpQ r s=c:=⟨_,rfl⟩
 rw[hc]at cm⊢
 obtain⟨a1,a2,a3,a4,a5,a6,a7,a8,rfl⟩:=ha.shape
 obtain⟨b1,b2,b3,b4,b5,b6,b7,b8,rfl⟩:=hb.shape
 have Fa:=Hid.mk_ ha
 have Fb:=Hid.mk_ hb
 clear ha hb hr hs hk g1 g2 h1 h2 h3 hc
 go_enter_defers Tryz.func99,Tryz.ntmps99
 go_wp2_with fail
 refine(fcheck_q _ (Fa.out.keeps keepsB)).mono ?_
 rintro e w1 ⟨rfl,st⟩
 have B:=bA w st
 have kp:=kB w st
 have oa:Blk w1 (w.heap.size) 32 #[.bool a1,.slice a2 a3 a4,.bool a5,.slice a6 a7 a8]:=Blk.stepsK st
 have ob:Blk w1 (w.heap.size+1) 32 #[.bool b1,.slice b2 b3 b4,.bool b5,.slice b6 b7 b8]:=Blk.stepsK st
 have oe:Blk w1 (w.heap.size+1+1) 36 #[.int .i64 0]:=Blk.stepsK st
 replace Fa:=Hid.mk_ (Fa.out.keeps kp)
 replace Fb:=Hid.mk_ (Fb.out.keeps kp)
 clear kp
 clear st
 go_wp2_with fail
 refine(fwant0s _).mono ?_
 rintro e w2 ⟨rfl,st⟩
 have sk:=bA w1 st
 replace B:=bS B sk
 replace oa:=oa.steps sk
 replace ob:=ob.steps sk
 replace oe:=oe.steps sk
 replace Fa:=Hid.mk_ (Fa.out.steps sk)
 replace Fb:=Hid.mk_ (Fb.out.steps sk)
 clear st sk
 have la:=oa.lt
 obtain⟨cb0,cb1,cb2,cb3⟩:=ob.r3
 have lb:=ob.lt
 have le:=oe.lt
 go_wp2_with fail
 refine(fcheck_q _ (Fb.out.keeps keepsB)).mono ?_
 rintro e w3 ⟨rfl,st⟩
 have sk:=bA w2 st
 replace B:=bS B sk
 replace oa:=oa.steps sk
 replace ob:=ob.steps sk
 replace oe:=oe.steps sk
 replace Fa:=Hid.mk_ (Fa.out.steps sk)
 replace Fb:=Hid.mk_ (Fb.out.steps sk)
 clear st sk la cb0 cb1 cb2 cb3 lb le
 go_wp2_with fail
 refine(fwant0s _).mono ?_
 rintro e w4 ⟨rfl,st⟩
 have sk:=bA w3 st
 replace B:=bS B sk
 replace oa:=oa.steps sk
 replace ob:=ob.steps sk
 replace oe:=oe.steps sk
 replace Fa:=Hid.mk_ (Fa.out.steps sk)
 replace Fb:=Hid.mk_ (Fb.out.steps sk)
 clear st sk
 obtain⟨ca0,ca1,ca2,ca3⟩:=oa.r3
 have la:=oa.lt
 obtain⟨cb0,cb1,cb2,cb3⟩:=ob.r3
 have lb:=ob.lt
 have le:=oe.lt
 have ze:w.heap.size+1+1<w4.heap.size:=oe.lt
 have zz4:=B.size
 go_upto_region 4 with fail
 refine Reg.chn (fun N0 D v W=>Below w.heap.size w W∧Keeps w4 W∧N0≤W.heap.size∧Blk W (w.heap.size) 32 #[.bool a1,.slice a2 a3 a4,.bool a5,.slice a6 a7 a8]∧Blk W (w.heap.size+1) 32 #[.bool b1,.slice b2 b3 b4,.bool b5,.slice b6 b7 b8]∧((D 10=false→Blk W (w.heap.size+1+1) 36 #[.int .i64 0])∧(D 10=true→Blk W (w.heap.size+1+1) 36 #[.int .i64 0]))) [2,5,6,10] [(2,IsNu),(5,IsNu),(6,fun z_=>z_ = .tuple #[.int .i64 c,.int .i64 0])] [(2,GNu (r.num*s.den)),(5,GNu (s.num*r.den))] [(6,[(2,some 14),(5,some 17)]),(10,[(6,some 18)]),(11,[(2,some 14),(5,some 17),(6,some 18)])] [] (fun N0 hN0=>⟨fun v=> ?_,fun D v v' W hv hj=> ?_,fun ops' Q' hops hQ=> ?_⟩)
 · exact⟨belowB,keepsB,Nat.le_of_eq hN0.out,ownK,ownK,⟨fun _=>ownK,(fun h=>Bool.noConfusion h)⟩⟩
 · exact hj
 have eN:=hN0.out
 try simp only[World.size_alloc,World.size_setCell,World.size_drew,World.heap_drewN]at eN
 have i_a:w.heap.size<N0:=by first | omega | (have h:=oa.lt; omega)
 have i_b:w.heap.size+1<N0:=by first | omega | (have h:=ob.lt; omega)
 have i_e:w.heap.size+1+1<N0:=by first | omega | (have h:=oe.lt; omega)
 have iw:w.heap.size≤N0:=by first | omega | (have h:=B.size; omega)
 clear ca0 ca1 ca2 ca3 la cb0 cb1 cb2 cb3 lb le
 clear hN0
 refine Reg.RPf 12 (fun _ _ _ h=>h.2.2.2.1.r3) ?_
 refine Reg.RPf 13 (fun _ _ _ h=>h.2.2.2.2.1.r3) ?_
 refine Reg.RC_call rfl (tlt rfl) rfl (fun D v' W' hc hj hf K hK=> ?_) ?_
 ·
  obtain⟨j0,jk,jn,b_a,b_b,b_e⟩:=hj
  clear hf
  go_step
  refine(cr1 W' _ _ (Fa.out.keeps jk) (Fb.out.keeps jk)).mono ?_
  rintro e W2 ⟨u,rfl,hu,hs⟩
  obtain⟨x1,x2,x3,x4,rfl⟩:=hu.shape
  exact hK.out _ W2 (Keeps.steps hs) ⟨jst j0 hs,jk.then_ hs,jsz jn hs,b_a.steps hs,b_b.steps hs,⟨fun h=>(b_e.1 h).steps hs,fun h=>(b_e.2 h).steps hs⟩⟩ hu ⟨_,_,_,_,rfl⟩
 rintro _ ⟨x1,x2,x3,x4,rfl⟩
 refine Reg.RC_at (b:=⟨#[_,_,_,_,_,_,_,_,_,_,_,_,_,_,_,_,_,_,_,_,_],_⟩) rfl ?_
 refine Reg.RPf 15 (fun _ _ _ h=>h.2.2.2.2.1.r3) ?_
 refine Reg.RPf 16 (fun _ _ _ h=>h.2.2.2.1.r3) ?_
 refine Reg.RC_call rfl (tlt rfl) rfl (fun D v' W' hc hj hf K hK=> ?_) ?_
 ·
  obtain⟨j0,jk,jn,b_a,b_b,b_e⟩:=hj
  clear hf
  go_step
  refine(cr2 W' _ _ (Fb.out.keeps jk) (Fa.out.keeps jk)).mono ?_
  rintro e W2 ⟨u,rfl,hu,hs⟩
  obtain⟨y1,y2,y3,y4,rfl⟩:=hu.shape
  exact hK.out _ W2 (Keeps.steps hs) ⟨jst j0 hs,jk.then_ hs,jsz jn hs,b_a.steps hs,b_b.steps hs,⟨fun h=>(b_e.1 h).steps hs,fun h=>(b_e.2 h).steps hs⟩⟩ hu ⟨_,_,_,_,rfl⟩
 rintro _ ⟨y1,y2,y3,y4,rfl⟩
 refine Reg.RC_at (b:=⟨#[_,_,_,_,_,_,_,_,_,_,_,_,_,_,_,_,_,_,_,_,_],_⟩) rfl ?_
 refine Reg.RC_call rfl (tlt rfl) rfl (fun D v' W' hc hj hf K hK=> ?_) ?_
 ·
  obtain⟨j0,jk,jn,b_a,b_b,b_e⟩:=hj
  have g2:GNu (r.num*s.den) _ W':=(hf (2,some 14) (.head _) rfl).2.2
  have g2:Num W' _ (r.num*s.den):=g2
  have g5:GNu (s.num*r.den) _ W':=(hf (5,some 17) (.tail _ (.head _)) rfl).2.2
  have g5:Num W' _ (s.num*r.den):=g5
  clear hf
  go_step
  refine(cm W' _ _ g2 g5).mono ?_
  rintro e W2 ⟨rfl,hs⟩
  exact hK.out _ W2 (Keeps.steps hs) ⟨jst j0 hs,jk.then_ hs,jsz jn hs,b_a.steps hs,b_b.steps hs,⟨fun h=>(b_e.1 h).steps hs,fun h=>(b_e.2 h).steps hs⟩⟩ trivial rfl
 rintro _ rfl
 refine Reg.RC_at (b:=⟨#[_,_,_,_,_,_,_,_,_,_,_,_,_,_,_,_,_,_,_,_,_],_⟩) rfl ?_
 repeat refine Reg.RP0 _ ?_
 refine Reg.RCs (fun D v' W' hc hj hf K hK=> ?_) (fun _ _=>Reg.RC_at (b:=⟨_,_⟩) rfl ?_)
 ·
  obtain⟨j0,jk,jn,b_a,b_b,b_e⟩:=hj
  have hb:=b_e.1 hc.1
  have e2:w.heap.size≤w.heap.size+1+1:=by omega
  have ff:=hb.fr
  have cc0:=hb.q0
  go_step
  exact hK.out undef _ (wr1.k hb) ⟨(wr1.b j0),jk.trans (wr1.k hb),wr1.n jn,(wr1.f b_a),(wr1.f b_b),⟨fun h=>Bool.noConfusion h,fun _=>(Blk.st (i:=0) hb)⟩⟩ trivial trivial
 refine Reg.RC_end (fun Dn v' w5 hd hj hf=> ?_)
 obtain⟨B,jk,jn,oa,ob,b_e⟩:=hj
 have oe:=b_e.2 (hd 10 (Nat.le_of_ble_eq_true rfl))
 clear b_e
 replace Fa:=Hid.mk_ (Fa.out.keeps jk)
 replace Fb:=Hid.mk_ (Fb.out.keeps jk)
 clear hd hf jk
 refine hQ _ _ ?_
 clear hQ hops Q' ops'
 have la:=oa.lt
 have lb:=ob.lt
 have ce0:=oe.q0
 have le:=oe.lt
 go_wp2_with fail
 refine leaves_cons (f:=72) (args:=#[.pointer (some ⟨w.heap.size+1+1,0,none⟩)]) (by simp) (by simp[go_sem]) ?_
 refine(fcatch_idle _ _).mono ?_
 rintro e u' w'' ⟨rfl,rfl,rfl⟩
 refine⟨_,by simp[results,Tryz.results99,go_sem,la,lb,ce0,le]; rfl,?_⟩
 exact⟨rfl,belowB⟩
end Go.Proofs.YtdkcffnmlllamaaGreat
namespace Go.Proofs.YtdkcffnmlllamaaGreat
open Go.RowKit
theorem setCell_same {w:World} {g i:Nat} {t:TypeId} {cs:Array Value} {u:Value} (hb:Blk w g t cs) (hi:cs[i]? = some u) (k:Nat):(w.setCell ⟨g,i,none⟩ u).heap[k]? = w.heap[k]? :=by
 unfold Blk at hb
 by_cases e:g=k
 ·
  subst e
  have es:cs.setIfInBounds i u=cs:=by
   apply Array.ext_getElem?
   intro j
   rw[Array.getElem?_setIfInBounds]
   split
   ·
    rename_i h; subst h
    have hlt:i<cs.size:=by
     rcases Nat.lt_or_ge i cs.size with g | g
     · exact g
     · rw[Array.getElem?_eq_none g]at hi; cases hi
    rw[if_pos hlt,hi]
   · rfl
  simp[World.setCell,Array.getElem?_modify,hb,es]
 · simp[World.setCell,Array.getElem?_modify,e]
theorem below_same {B:Nat} {a w:World} (h:Below B a w) {g i:Nat} {t:TypeId} {cs:Array Value} {u:Value} (hb:Blk w g t cs) (hi:cs[i]? = some u):Below B a (w.setCell ⟨g,i,none⟩ u):=
 ⟨h.os,h.tape,h.output,by have:=h.size; simpa[World.setCell]using this,fun k hk=>(setCell_same hb hi k).trans (h.block k hk)⟩
theorem below4 {B:Nat} {a w:World} {g i j k l:Nat} {x y z u:Value} (h:Below B a w) (hg:B≤g):Below B a ((((w.setCell ⟨g,i,none⟩ x).setCell ⟨g,j,none⟩ y).setCell ⟨g,k,none⟩ z).setCell ⟨g,l,none⟩ u):=
 Below.setCell (Below.setCell (Below.setCell (Below.setCell h hg _) hg _) hg _) hg _
theorem Blk.far4 {w:World} {g b i j k l:Nat} {t:TypeId} {cs:Array Value} {x y z u:Value} (h:Blk w g t cs) (hne:g≠b):Blk ((((w.setCell ⟨b,i,none⟩ x).setCell ⟨b,j,none⟩ y).setCell ⟨b,k,none⟩ z).setCell ⟨b,l,none⟩ u) g t cs:=
 (((h.far' hne).far' hne).far' hne).far' hne
theorem keeps4 {w:World} {r i j k l:Nat} {t:TypeId} {cs:Array Value} {x y z u:Value} (hb:Blk w r t cs) (hn:noU32 cs=true):Keeps w ((((w.setCell ⟨r,i,none⟩ x).setCell ⟨r,j,none⟩ y).setCell ⟨r,k,none⟩ z).setCell ⟨r,l,none⟩ u):=
 Keeps.only hb hn ((Only.refl _ _).set.set.set.set)
theorem len_ne {w:World} {g:Bool} {a:Option Addr} {n c:Nat} {x:Int} (h:Num w (.agg #[.bool g,.slice a n c]) x) (hx:x≠0):n≠0:=by
 obtain⟨aa,ca,e,pa⟩:=h.parts
 simp only[Value.agg.injEq,Array.mk.injEq,List.cons.injEq,and_true,Value.slice.injEq]at e
 obtain⟨-,-,e,-⟩:=e
 intro h0
 have h1:=limbs_nil (absN_nonneg x)
 have h2:limbs (absN x) = []:=List.eq_nil_of_length_eq_zero (by omega)
 have h3:=h1.1 h2
 unfold absN at h3
 omega
theorem rDivQ {va vb:Value} {r s:Rat} {i j:Nat} (w:World) (ha:FR w va r) (hb:FR w vb s) (hr:sz r i) (hs:sz s j) (hk:i+j≤4095) (s0:s≠0) :
  Calls Tryz.prog 88 #[va,vb] w fun e w'=>∃v,e = .returned (.tuple #[v,.int .i64 0])∧FR w' v (r / s)∧Steps w w':=by
 have fa:=ha.fit
 have fb:=hb.fit
 have bo:=fun(w':World) (h:Steps w w')=>rfboth_q w' (ha.steps h) (hb.steps h)
 obtain⟨a2,a3,a4,a6,a7,a8,rfl,na,da,-⟩:=ha.nums
 obtain⟨b2,b3,b4,b6,b7,b8,rfl,nb',db,-⟩:=hb.nums
 have d1:absN (r.den:Int)≤bp i:=by rw[den_abs]; exact hr.2
 have d2:absN (s.den:Int)≤bp j:=by rw[den_abs]; exact hs.2
 have g1:=fits_bp (absN_mul_le hr.1 d2) hk
 have g4:=fits_bp (absN_mul_le d1 hs.1) hk
 have pr:∀w',Steps w w'→Calls Tryz.prog 86 #[.agg #[.bool (decide (r<0)),.slice a2 a3 a4],.agg #[.bool false,.slice b6 b7 b8],.agg #[.bool false,.slice a6 a7 a8],.agg #[.bool (decide (s<0)),.slice b2 b3 b4]] w' fun e w2=>∃v,e = .returned (.tuple #[v,.int .i64 0])∧FR w2 v (r / s)∧Steps w' w2:=fun w' h=>by
  refine(rproduct w' (na.steps h) (db.steps h) (da.steps h) (nb'.steps h) fa.1 fb.2 fa.2 fb.1 g1 g4 (dens_ne' r s0)).mono ?_
  rintro e w2 ⟨v,rfl,h1,h2⟩
  have h3:=FR.of_rd (dens_ne' r s0) h1
  rw[div_frac r s0]at h3
  exact⟨v,rfl,h3,h2⟩
 have hz:¬b3=0:=len_ne nb' (num_ne s0)
 have hz1:((b3:Int)==0)=false:=by simp[hz]
 obtain⟨ga,hga⟩:∃g,decide (r<0)=g:=⟨_,rfl⟩
 obtain⟨gb,hgb⟩:∃g,decide (s<0)=g:=⟨_,rfl⟩
 rw[hga,hgb]at pr bo⊢
 clear hga hgb na da nb' db d1 d2 g1 g4 fa fb ha hb hr hs hk s0
 go_enter Tryz.func88,Tryz.ntmps88
 go_wp2_with fail
 refine(bo _ belowB).mono ?_
 rintro e w1 ⟨rfl,st⟩
 have Bn:=bA w st
 have oa:Blk w1 (w.heap.size) 32 #[.bool ga,.slice a2 a3 a4,.bool false,.slice a6 a7 a8]:=Blk.stepsK st
 have ob:Blk w1 (w.heap.size+1) 32 #[.bool gb,.slice b2 b3 b4,.bool false,.slice b6 b7 b8]:=Blk.stepsK st
 have or:Blk w1 (w.heap.size+1+1) 32 #[.bool false,.slice none 0 0,.bool false,.slice none 0 0]:=Blk.stepsK st
 clear st
 have B:=Bn
 clear Bn
 obtain⟨ca0,ca1,ca2,ca3,fa,la⟩:=oa.s3
 obtain⟨cb0,cb1,cb2,cb3,fb,lb⟩:=ob.s3
 obtain⟨cr0,cr1,cr2,cr3,fr,lr⟩:=or.s3
 clear bo
 go_wp2_with fail
 refine(pr _ B).mono ?_
 rintro e w2 ⟨vq,rfl,hvq,st⟩
 have Bn:=bA w st
 have na:=oa.stp st
 have nb:=ob.stp st
 have nr:=or.stp st
 clear B oa ob or ca0 ca1 ca2 ca3 fa la cb0 cb1 cb2 cb3 fb lb cr0 cr1 cr2 cr3 fr lr
 clear st
 have B:=Bn
 clear Bn
 have oa:=na
 clear na
 obtain⟨ca0,ca1,ca2,ca3,fa,la⟩:=oa.s3
 have ob:=nb
 clear nb
 obtain⟨cb0,cb1,cb2,cb3,fb,lb⟩:=ob.s3
 have or:=nr
 clear nr
 obtain⟨cr0,cr1,cr2,cr3,fr,lr⟩:=or.s3
 obtain⟨q1,q2,q3,q4,q5,q6,q7,q8,rfl⟩:=hvq.shape
 have Fq:=Hid.mk_ hvq
 clear hvq
 clear pr
 dsimp only; repeat' (first | go_values | go_skip | go_guarded | go_step | go_upon)
 refine bodyPost_ret (by simp[results,Tryz.results88,go_sem,ca0,ca1,ca2,ca3,fa,la,cb0,cb1,cb2,cb3,fb,lb,cr0,cr1,cr2,cr3,fr,lr]; rfl) rfl ?_
 exact⟨_,rfl,Fq.out.keeps keepsB,belowB⟩
end Go.Proofs.YtdkcffnmlllamaaGreat
namespace Go.Proofs.YtdkcffnmlllamaaGreat
open Go.RowKit
def QV (w:World) (cs:Array Value) (r:Nat→Rat):Prop:=cs.size=20∧cs.all (·.oneCell')=true∧noU32 cs=true∧
 ∀i,i<4→∃a1 a2 a3 a4 a5 a6 a7 a8,cs[4+i*4]? = some (.bool a1)∧cs[4+i*4+1]? = some (.slice a2 a3 a4)∧cs[4+i*4+2]? = some (.bool a5)∧cs[4+i*4+3]? = some (.slice a6 a7 a8)∧FR w (.agg #[.bool a1,.slice a2 a3 a4,.bool a5,.slice a6 a7 a8]) (r i)
theorem QV.keeps {w w':World} {cs:Array Value} {r:Nat→Rat} (h:QV w cs r) (kp:Keeps w w'):QV w' cs r:=by
 obtain⟨h1,h2,h3,h4⟩:=h
 refine⟨h1,h2,h3,fun i hi=> ?_⟩
 obtain⟨a1,a2,a3,a4,a5,a6,a7,a8,c0,c1,c2,c3,f⟩:=h4 i hi
 exact⟨a1,a2,a3,a4,a5,a6,a7,a8,c0,c1,c2,c3,f.keeps kp⟩
theorem QX.qv {w:World} {cs:Array Value} {r:Nat→Option Rat} (h:QX w cs r) (hw:wholeQ r 4=true):QV w cs (rq r):=by
 obtain⟨h1,h2,h3,h4⟩:=h
 refine⟨h1,h2,h3,fun i hi=> ?_⟩
 obtain⟨a1,a2,a3,a4,a5,a6,a7,a8,c0,c1,c2,c3,f⟩:=h4 i hi
 obtain⟨q,hq⟩:=wholeQ_get hw i hi
 refine⟨a1,a2,a3,a4,a5,a6,a7,a8,c0,c1,c2,c3,?_⟩
 unfold rq
 rw[hq]at f⊢
 exact f
end Go.Proofs.YtdkcffnmlllamaaGreat
namespace Go.Proofs.YtdkcffnmlllamaaGreat
open Go.RowKit
def PCells (w:World) (b o:Nat) (l:List (Int×Int)):Prop:=∀t,t<l.length→w.cell? ⟨b,o+t*2,none⟩=some (.int .i64 (l.getD t (0,0)).1)∧w.cell? ⟨b,o+t*2+1,none⟩=some (.int .i64 (l.getD t (0,0)).2)
def Pts (w:World) (v:Value) (l:List (Int×Int)):Prop:=
 (∀k,-9223372036854775808≤(l.getD k (0,0)).1∧(l.getD k (0,0)).1≤9223372036854775807∧-9223372036854775808≤(l.getD k (0,0)).2∧(l.getD k (0,0)).2≤9223372036854775807)∧
 ∃ao cap,v = .slice ao l.length cap∧l.length≤cap∧(l≠ []→∃b o,ao=some ⟨b,o,none⟩∧b<w.heap.size∧PCells w b o l)
theorem Pts.steps {w w':World} {v:Value} {l:List (Int×Int)} (h:Pts w v l) (hs:Steps w w'):Pts w' v l:=by
 obtain⟨h0,ao,cap,rfl,h1,h2⟩:=h
 refine⟨h0,ao,cap,rfl,h1,fun hn=> ?_⟩
 obtain⟨b,o,rfl,hb,hc⟩:=h2 hn
 exact⟨b,o,rfl,Nat.lt_of_lt_of_le hb hs.size,fun t ht=>⟨(hs.cell (p:=⟨b,o+t*2,none⟩) hb).trans (hc t ht).1,(hs.cell (p:=⟨b,o+t*2+1,none⟩) hb).trans (hc t ht).2⟩⟩
theorem Pts.shape {w:World} {v:Value} {l:List (Int×Int)} (h:Pts w v l):∃ao cap,v = .slice ao l.length cap:=by obtain⟨_,ao,cap,e,_⟩:=h; exact⟨ao,cap,e⟩
theorem Pts.cells {w:World} {ao:Option Addr} {n cap:Nat} {l:List (Int×Int)} (h:Pts w (.slice ao n cap) l):n=l.length∧n≤cap∧(0<n→∃b o,ao=some ⟨b,o,none⟩∧b<w.heap.size∧PCells w b o l):=by
 obtain⟨_,ao',cap',e,h1,h2⟩:=h
 injection e with e1 e2 e3
 subst e1 e2 e3
 refine⟨rfl,h1,fun hp=>h2 ?_⟩
 rintro rfl
 cases hp
def okP (p:Int×Int):Prop:= -1048576≤p.1∧p.1≤1048576∧-1048576≤p.2∧p.2≤1048576
instance (p:Int×Int):Decidable (okP p):=by unfold okP; infer_instance
def chkP (l:List (Int×Int)):Int:=if 200<l.length then 4 else if ∀p∈l,okP p then 0 else 8
end Go.Proofs.YtdkcffnmlllamaaGreat
namespace Go.Proofs.YtdkcffnmlllamaaGreat
open Go.RowKit
end Go.Proofs.YtdkcffnmlllamaaGreat
namespace Go.Proofs.YtdkcffnmlllamaaGreat
open Go.RowKit
def sm (a b:Int):Prop:= -4194304≤a∧a≤4194304∧-4194304≤b∧b≤4194304
end Go.Proofs.YtdkcffnmlllamaaGreat
namespace Go.Proofs.YtdkcffnmlllamaaGreat
open Go.RowKit
structure At4 (w:World) (v:Value) (l:List (Int×Int)) (k0 k1 k2 k3:Nat) (p0 p1 p2 p3:Int×Int):Prop where
 pts:Pts w v l
 lt:k0<l.length∧k1<l.length∧k2<l.length∧k3<l.length
 eq:l.getD k0 (0,0)=p0∧l.getD k1 (0,0)=p1∧l.getD k2 (0,0)=p2∧l.getD k3 (0,0)=p3
def okp (x y:Int):Prop:= -1048576≤x∧x≤1048576∧-1048576≤y∧y≤1048576
end Go.Proofs.YtdkcffnmlllamaaGreat
namespace Go.Proofs.YtdkcffnmlllamaaGreat
open Go.RowKit
theorem cnan64 (x:Int) (w:World):Calls Tryz.prog 158 #[.int .i64 x] w fun e w'=>e = .returned (.bool false)∧Steps w w':=by
 go_enter Tryz.func158,Tryz.ntmps158
 go_wp2
 go_returns
 exact⟨rfl,belowB⟩
theorem ccmp64 (x y:Int) (w:World):Calls Tryz.prog 138 #[.int .i64 x,.int .i64 y] w fun e w'=>e = .returned (.int .i64 (cmpI x y))∧Steps w w':=by
 rcases(show x<y∨x=y∨y<x by omega)with h | h | h
 focus
  have E:Hid (cmpI x y = -1):=by show cmpI x y=_; unfold cmpI; rw[if_neg (by omega),if_pos h]
 rotate_left
 focus
  have E:Hid (cmpI x y=0):=by show cmpI x y=_; unfold cmpI; rw[if_pos h]
  subst h
 rotate_left
 focus
  have E:Hid (cmpI x y=1):=by show cmpI x y=_; unfold cmpI; rw[if_neg (by omega),if_neg (by omega)]
 rotate_left
 all_goals
  go_enter Tryz.func138,Tryz.ntmps138
  go_wp2_with fail
  refine(cnan64 _ _).mono ?_
  rintro e w1 ⟨rfl,hb1⟩
  have st:Steps _ w1:=hb1
  have Bn:=bA w st
  clear st
  have B:=Bn
  clear Bn
  go_wp2_with fail
  refine(cnan64 _ _).mono ?_
  rintro e w2 ⟨rfl,hb2⟩
  have st:Steps _ w2:=hb2
  have Bn:=bA w st
  clear B
  clear st
  have B:=Bn
  clear Bn
  go_wp2
  go_returns
  exact⟨retI E.out.symm,belowB⟩
def orI (c d:Int):Int:=if c=0 then d else c
def arrV (a:Arr):Value:= .agg #[.int .i64 a.k0,.int .i64 a.k1,.int .i64 a.k2,.int .i64 a.k3,.int .i64 a.a1,.int .i64 a.a2,.int .i64 a.b1,.int .i64 a.b2,.int .i64 a.n]
def okA (a:Arr):Prop:= -35184372088832≤a.a1∧a.a1≤35184372088832∧-35184372088832≤a.b1∧a.b1≤35184372088832
def arrF (a:Arr) (i:Nat):Int:=match i with | 0=>a.a1 | 1=>a.a2 | 2=>a.b1 | 3=>a.b2 | 4=>a.k0 | 5=>a.k1 | 6=>a.k2 | _=>a.k3
def arrR (x y:Nat→Int):Nat→Int
 | 0=>cmpI (x 0+x 2) (y 0+y 2)
 | k+1=>orI (arrR x y k) (cmpI (x k) (y k))
end Go.Proofs.YtdkcffnmlllamaaGreat
namespace Go.Proofs.YtdkcffnmlllamaaGreat
open Go.RowKit Go.Shelf
def arrC (a:Arr):Array Value:=#[.int .i64 a.k0,.int .i64 a.k1,.int .i64 a.k2,.int .i64 a.k3,.int .i64 a.a1,.int .i64 a.a2,.int .i64 a.b1,.int .i64 a.b2,.int .i64 a.n]
end Go.Proofs.YtdkcffnmlllamaaGreat
namespace Go.Proofs.YtdkcffnmlllamaaGreat
open Go.RowKit Go.Shelf
attribute [local go_sem] Oper.semAt_some
def ordV (K:Nat→Nat) (p:P4):Value:= .agg #[.int .i64 (K p.1),.int .i64 (K p.2.1),.int .i64 (K p.2.2.1),.int .i64 (K p.2.2.2)]
def ordE (K:Nat→Nat) (p:P4):Array Value:=#[ordV K p]
end Go.Proofs.YtdkcffnmlllamaaGreat
namespace Go.Proofs.YtdkcffnmlllamaaGreat
open Go.RowKit Go.Shelf
theorem run_store_func {P:Program} {w:World} {a:Addr} {m:Mode} (f:Fn) (ts vs:_):(store a (.func f ts vs) m).run P w=stored P w a (.func f ts vs) m:=run_store P w a _ m rfl
attribute [local go_sem] Oper.semAt_some run_store_func
def bestP (l:PL) (K:Nat→Nat) (pre:List P4):Arr:=best (pre.map (arrOf l K))
end Go.Proofs.YtdkcffnmlllamaaGreat
namespace Go.Proofs.YtdkcffnmlllamaaGreat
open Go.RowKit
def QD (w:World) (v:Value) (k0 k1 k2 k3:Int) (r0 r1 r2 r3:Rat):Prop:=
 ∃a b c d e f g h i j k l m n o p,v = .agg #[.int .i64 k0,.int .i64 k1,.int .i64 k2,.int .i64 k3,a,b,c,d,e,f,g,h,i,j,k,l,m,n,o,p]∧
  FR w (.agg #[a,b,c,d]) r0∧FR w (.agg #[e,f,g,h]) r1∧FR w (.agg #[i,j,k,l]) r2∧FR w (.agg #[m,n,o,p]) r3
theorem QD.keeps {w w':World} {v:Value} {k0 k1 k2 k3:Int} {r0 r1 r2 r3:Rat} (h:QD w v k0 k1 k2 k3 r0 r1 r2 r3) (k:Keeps w w'):QD w' v k0 k1 k2 k3 r0 r1 r2 r3:=by
 obtain⟨a,b,c,d,e,f,g,h,i,j,k',l,m,n,o,p,e1,f0,f1,f2,f3⟩:=h
 exact⟨a,b,c,d,e,f,g,h,i,j,k',l,m,n,o,p,e1,f0.keeps k,f1.keeps k,f2.keeps k,f3.keeps k⟩
theorem QD.steps {w w':World} {v:Value} {k0 k1 k2 k3:Int} {r0 r1 r2 r3:Rat} (h:QD w v k0 k1 k2 k3 r0 r1 r2 r3) (k:Steps w w'):QD w' v k0 k1 k2 k3 r0 r1 r2 r3:=h.keeps (Keeps.steps k)
end Go.Proofs.YtdkcffnmlllamaaGreat
namespace Go.Proofs.YtdkcffnmlllamaaGreat
open Go.RowKit
def cP (x n:Int):Int:=if n=0 then 0 else((x:Rat) / (n:Rat)).num
def cQ (x n:Int):Int:=if n=0 then 0 else(((x:Rat) / (n:Rat)).den:Int)
def QN (w:World) (v:Value) (a:Arr):Prop:=
 ∃c0 c1 c2 c3 c4 c5 c6 c7 c8 c9 c10 c11 c12 c13 c14 c15,v = .agg #[.int .i64 a.k0,.int .i64 a.k1,.int .i64 a.k2,.int .i64 a.k3,c0,c1,c2,c3,c4,c5,c6,c7,c8,c9,c10,c11,c12,c13,c14,c15]∧
  (Num w (.agg #[c0,c1]) (cP a.a1 a.n)∧Num w (.agg #[c2,c3]) (cQ a.a1 a.n))∧(Num w (.agg #[c4,c5]) (cP a.a2 a.n)∧Num w (.agg #[c6,c7]) (cQ a.a2 a.n))∧
  (Num w (.agg #[c8,c9]) (cP a.b1 a.n)∧Num w (.agg #[c10,c11]) (cQ a.b1 a.n))∧(Num w (.agg #[c12,c13]) (cP a.b2 a.n)∧Num w (.agg #[c14,c15]) (cQ a.b2 a.n))
theorem QN.keeps {w w':World} {v:Value} {a:Arr} (h:QN w v a) (k:Keeps w w'):QN w' v a:=by
 obtain⟨c0,c1,c2,c3,c4,c5,c6,c7,c8,c9,c10,c11,c12,c13,c14,c15,e,⟨h0,h1⟩,⟨h2,h3⟩,⟨h4,h5⟩,⟨h6,h7⟩⟩:=h
 exact⟨c0,c1,c2,c3,c4,c5,c6,c7,c8,c9,c10,c11,c12,c13,c14,c15,e,⟨h0.keeps k,h1.keeps k⟩,⟨h2.keeps k,h3.keeps k⟩,⟨h4.keeps k,h5.keeps k⟩,⟨h6.keeps k,h7.keeps k⟩⟩
theorem QN.steps {w w':World} {v:Value} {a:Arr} (h:QN w v a) (k:Steps w w'):QN w' v a:=h.keeps (Keeps.steps k)
theorem Num.zero0 (w:World):Num w (.agg #[.bool false,.slice none 0 0]) 0:=⟨_,rfl,by
 have e:limbs (absN 0) = []:=(limbs_nil (absN_nonneg _)).2 (by unfold absN; omega)
 rw[e]; exact Lim.nil w⟩
theorem QN.zero (w:World):QN w (.agg #[.int .i64 0,.int .i64 0,.int .i64 0,.int .i64 0,.bool false,.slice none 0 0,.bool false,.slice none 0 0,.bool false,.slice none 0 0,.bool false,.slice none 0 0,.bool false,.slice none 0 0,.bool false,.slice none 0 0,.bool false,.slice none 0 0,.bool false,.slice none 0 0]) noArr:=
 ⟨_,_,_,_,_,_,_,_,_,_,_,_,_,_,_,_,rfl,⟨Num.zero0 w,Num.zero0 w⟩,⟨Num.zero0 w,Num.zero0 w⟩,⟨Num.zero0 w,Num.zero0 w⟩,⟨Num.zero0 w,Num.zero0 w⟩⟩
theorem FR.num2 {w:World} {a b c d:Value} {x n:Int} (hn:0<n) (h:FR w (.agg #[a,b,c,d]) ((x:Rat) / (n:Rat))):Num w (.agg #[a,b]) (cP x n)∧Num w (.agg #[c,d]) (cQ x n):=by
 obtain⟨a2,a3,a4,a6,a7,a8,e,n1,n2,-⟩:=h.nums
 unfold cP cQ
 rw[if_neg (by omega),if_neg (by omega)]
 simp only[Value.agg.injEq,Array.mk.injEq,List.cons.injEq,and_true]at e
 obtain⟨rfl,rfl,rfl,rfl⟩:=e
 exact⟨n1,n2⟩
theorem QD.qn {w:World} {v:Value} {a:Arr} (hn:0<a.n) (h:QD w v a.k0 a.k1 a.k2 a.k3 ((a.a1:Rat) / (a.n:Rat)) ((a.a2:Rat) / (a.n:Rat)) ((a.b1:Rat) / (a.n:Rat)) ((a.b2:Rat) / (a.n:Rat))):QN w v a:=by
 obtain⟨c0,c1,c2,c3,c4,c5,c6,c7,c8,c9,c10,c11,c12,c13,c14,c15,e,h0,h1,h2,h3⟩:=h
 exact⟨c0,c1,c2,c3,c4,c5,c6,c7,c8,c9,c10,c11,c12,c13,c14,c15,e,h0.num2 hn,h1.num2 hn,h2.num2 hn,h3.num2 hn⟩
def okAt (n:Nat) (k:Nat→Int) (i:Nat):Prop:=(0≤k i∧k i<n)∧∀m,m<i→k m≠k i
def okIdx (n:Nat) (k:Nat→Int):Prop:=∀i,i<4→okAt n k i
def KK (k:Nat→Int):Nat→Nat:=at4 (k 0).toNat (k 1).toNat (k 2).toNat (k 3).toNat
open Classical in
noncomputable def codeS (l:PL) (k:Nat→Int):Int×Arr:=
 if chkP l≠0 then(chkP l,noArr)else if ¬okIdx l.length k then(2,noArr)else if wid l (KK k)=0 then(18,noArr)else(0,bestOf l (KK k))
def CodeP (w:World) (l:PL) (k:Nat→Int) (e:Ending) (w':World):Prop:=∃u,e = .returned (.tuple #[u,.int .i64 (codeS l k).1])∧QN w' u (codeS l k).2∧Steps w w'
theorem CodeP.none {w w':World} {l:PL} {k:Nat→Int} {c:Int} (h:codeS l k=(c,noArr)) (st:Steps w w'):CodeP w l k (.returned (.tuple #[.agg #[.int .i64 0,.int .i64 0,.int .i64 0,.int .i64 0,.bool false,.slice none 0 0,.bool false,.slice none 0 0,.bool false,.slice none 0 0,.bool false,.slice none 0 0,.bool false,.slice none 0 0,.bool false,.slice none 0 0,.bool false,.slice none 0 0,.bool false,.slice none 0 0],.int .i64 c])) w':=
 ⟨_,by rw[h],by rw[h]; exact QN.zero w',st⟩
structure NumOk (a:Arr):Prop where
 a1 : -35184372088832≤a.a1∧a.a1≤35184372088832
 a2 : -35184372088832≤a.a2∧a.a2≤35184372088832
 b1 : -35184372088832≤a.b1∧a.b1≤35184372088832
 b2 : -35184372088832≤a.b2∧a.b2≤35184372088832
 n:0≤a.n∧a.n≤35184372088832
theorem QD.cells {w:World} {v:Value} {k0 k1 k2 k3:Int} {r0 r1 r2 r3:Rat} (h:QD w v k0 k1 k2 k3 r0 r1 r2 r3):∃cs,v = .agg cs∧cs.size=20∧cs.all (·.oneCell')=true:=by
 obtain⟨c0,c1,c2,c3,c4,c5,c6,c7,c8,c9,c10,c11,c12,c13,c14,c15,e,h0,h1,h2,h3⟩:=h
 obtain⟨_,_,_,_,_,_,_,_,e0⟩:=h0.shape
 obtain⟨_,_,_,_,_,_,_,_,e1⟩:=h1.shape
 obtain⟨_,_,_,_,_,_,_,_,e2⟩:=h2.shape
 obtain⟨_,_,_,_,_,_,_,_,e3⟩:=h3.shape
 simp only[Value.agg.injEq,Array.mk.injEq,List.cons.injEq,and_true]at e0 e1 e2 e3
 obtain⟨rfl,rfl,rfl,rfl⟩:=e0
 obtain⟨rfl,rfl,rfl,rfl⟩:=e1
 obtain⟨rfl,rfl,rfl,rfl⟩:=e2
 obtain⟨rfl,rfl,rfl,rfl⟩:=e3
 exact⟨_,e,rfl,by simp[Value.oneCell']⟩
end Go.Proofs.YtdkcffnmlllamaaGreat
namespace Go.Proofs.YtdkcffnmlllamaaGreat
open Go.RowKit
theorem rofF (x y:Int) (w:World) (x0 : -9223372036854775808≤x) (x1:x≤9223372036854775807) (y0 : -9223372036854775808≤y) (y1:y≤9223372036854775807) (hy:y≠0) :
  Calls Tryz.prog 45 #[.int .i64 x,.int .i64 y] w fun e w'=>∃v,e = .returned (.tuple #[v,.int .i64 0])∧FR w' v ((x:Rat) / (y:Rat))∧Steps w w':=by
 refine(rof x y w x0 x1 y0 y1 hy).mono ?_
 rintro e w' ⟨v,rfl,h1,h2⟩
 exact⟨v,rfl,FR.of_rd hy h1,h2⟩
end Go.Proofs.YtdkcffnmlllamaaGreat
namespace Go.Proofs.YtdkcffnmlllamaaGreat
open Go.RowKit
def wrow (l:PL) (K:Nat→Nat) (i:Nat) (b:Int):Nat→Int
 | 0=>b
 | k+1=>max (wrow l K i b k) (dst l K i k)
def wtot (l:PL) (K:Nat→Nat):Nat→Int
 | 0=>0
 | i+1=>wrow l K i (wtot l K i) i
theorem Pts.at {w:World} {ao:Option Addr} {len cap:Nat} {l:PL} (h:Pts w (.slice ao len cap) l) {a:Nat} (ha:a<l.length):∃b o,ao=some ⟨b,o,none⟩∧b<w.heap.size∧w.cell? ⟨b,o+a*2,none⟩=some (.int .i64 (pt l a).1)∧w.cell? ⟨b,o+a*2+1,none⟩=some (.int .i64 (pt l a).2):=by
 obtain⟨e,-,h2⟩:=h.cells
 obtain⟨b,o,e1,hb,hc⟩:=h2 (by omega)
 exact⟨b,o,e1,hb,(hc a ha).1,(hc a ha).2⟩
end Go.Proofs.YtdkcffnmlllamaaGreat
namespace Go.Proofs.YtdkcffnmlllamaaGreat
open Go.RowKit
def QF (w:World) (cs:Array Value) (k:Nat→Int) (r:Nat→Rat):Prop:=cs.size=20∧cs.all (·.oneCell')=true∧(∀i,i<4→cs[i]? = some (.int .i64 (k i)))∧
 ∀i,i<4→∃a1 a2 a3 a4 a5 a6 a7 a8,cs[4+i*4]? = some (.bool a1)∧cs[4+i*4+1]? = some (.slice a2 a3 a4)∧cs[4+i*4+2]? = some (.bool a5)∧cs[4+i*4+3]? = some (.slice a6 a7 a8)∧FR w (.agg #[.bool a1,.slice a2 a3 a4,.bool a5,.slice a6 a7 a8]) (r i)
theorem QF.keeps {w w':World} {cs:Array Value} {k:Nat→Int} {r:Nat→Rat} (h:QF w cs k r) (kp:Keeps w w'):QF w' cs k r:=by
 obtain⟨h1,h2,h3,h4⟩:=h
 refine⟨h1,h2,h3,fun i hi=> ?_⟩
 obtain⟨a1,a2,a3,a4,a5,a6,a7,a8,c0,c1,c2,c3,f⟩:=h4 i hi
 exact⟨a1,a2,a3,a4,a5,a6,a7,a8,c0,c1,c2,c3,f.keeps kp⟩
theorem QF.steps {w w':World} {cs:Array Value} {k:Nat→Int} {r:Nat→Rat} (h:QF w cs k r) (s:Steps w w'):QF w' cs k r:=h.keeps (Keeps.steps s)
end Go.Proofs.YtdkcffnmlllamaaGreat
namespace Go.Proofs.YtdkcffnmlllamaaGreat
open Go.RowKit
def kA (a:Arr) (i:Nat):Int:=match i with | 0=>a.k0 | 1=>a.k1 | 2=>a.k2 | _=>a.k3
def cA (a:Arr) (i:Nat):Int:=match i with | 0=>a.a1 | 1=>a.a2 | 2=>a.b1 | _=>a.b2
def rA (a:Arr) (i:Nat):Rat:=(cA a i:Rat) / (a.n:Rat)
def IsFF (x:Value):Prop:=∃u v,IsFr u∧IsFr v∧x = .tuple #[u,v]
def GFF (r s:Rat) (x:Value) (W:World):Prop:=∃u v,x = .tuple #[u,v]∧FR W u r∧FR W v s
theorem GFF.keeps {r s:Rat} (x:Value) (W W':World) (k:Keeps W W') (h:GFF r s x W):GFF r s x W':=by obtain⟨u,v,e,h1,h2⟩:=h; exact⟨u,v,e,h1.keeps k,h2.keeps k⟩
theorem GFF.get {r s:Rat} {u v:Value} {W:World} (h:GFF r s (.tuple #[u,v]) W):FR W u r∧FR W v s:=by
 obtain⟨u',v',e,h1,h2⟩:=h
 simp only[Value.tuple.injEq,Array.mk.injEq,List.cons.injEq,and_true]at e
 obtain⟨rfl,rfl⟩:=e
 exact⟨h1,h2⟩
end Go.Proofs.YtdkcffnmlllamaaGreat
namespace Go.Proofs.YtdkcffnmlllamaaGreat
open Go.RowKit
def sgn2 (x y:Int):Prop:=(x<0↔y<0)∧(x=0↔y=0)
theorem sgn2.sub (x y:Int):sgn2 (x-y) (cmpI x y):=by
 unfold sgn2 cmpI
 split
 · omega
 · split<;>omega
theorem sgn2.refl (x:Int):sgn2 x x:=⟨Iff.rfl,Iff.rfl⟩
def befE (a c:Arr):Nat→Int
 | 0=>cmpQ (rA a 0+rA a 2) (rA c 0+rA c 2)
 | n+1=>orI (befE a c n) (if n<4 then cmpQ (rA a n) (rA c n)else kA a (n-4)-kA c (n-4))
def bestU (l:PL) (K:Nat→Nat) (N:Int) (a b c:Nat):Option Arr:=bestR N ((upto4 a b c).map (arrOf l K))
end Go.Proofs.YtdkcffnmlllamaaGreat
namespace Go.Proofs.YtdkcffnmlllamaaGreat
open Go.RowKit
def IsQ (x:Value):Prop:=∃cs:Array Value,x = .agg cs∧cs.size=20∧cs.all (·.oneCell')=true
def GQ (k:Nat→Int) (r:Nat→Rat) (x:Value) (W:World):Prop:=∃cs,x = .agg cs∧QF W cs k r
theorem GQ.keeps {k:Nat→Int} {r:Nat→Rat} (x:Value) (W W':World) (kp:Keeps W W') (h:GQ k r x W):GQ k r x W':=by obtain⟨cs,e,h⟩:=h; exact⟨cs,e,h.keeps kp⟩
theorem GQ.get {k:Nat→Int} {r:Nat→Rat} {cs:Array Value} {W:World} (h:GQ k r (.agg cs) W):QF W cs k r:=by obtain⟨cs',e,h⟩:=h; injection e with e; subst e; exact h
theorem QF.noU {w:World} {cs:Array Value} {k:Nat→Int} {r:Nat→Rat} (h:QF w cs k r):noU32 cs=true:=by
 obtain⟨hs,-,hk,hf⟩:=h
 unfold noU32
 rw[List.all_eq_true]
 intro x hx
 obtain⟨j,hj,e⟩:=List.getElem_of_mem hx
 have hj20:j<20:=by simpa[hs]using hj
 have e2:cs[j]? = some x:=by rw[← e]; simp at hj⊢
 have key:∀i,i<4→∀m,m<4→cs[4+i*4+m]? = some x→(match x with | .int .u32 _=>false | _=>true)=true:=fun i hi m hm h=>by
  obtain⟨a1,a2,a3,a4,a5,a6,a7,a8,c0,c1,c2,c3,-⟩:=hf i hi
  rcases(show m=0∨m=1∨m=2∨m=3 by omega)with rfl | rfl | rfl | rfl
  · rw[Nat.add_zero,c0]at h; injection h with h; subst h; rfl
  · rw[c1]at h; injection h with h; subst h; rfl
  · rw[c2]at h; injection h with h; subst h; rfl
  · rw[c3]at h; injection h with h; subst h; rfl
 rcases Nat.lt_or_ge j 4 with g | g
 · rw[hk j g]at e2; injection e2 with e2; subst e2; rfl
 ·
  refine key ((j-4) / 4) (by omega) ((j-4)%4) (by omega) ?_
  rw[show 4+(j-4) / 4*4+(j-4)%4=j by omega]; exact e2
end Go.Proofs.YtdkcffnmlllamaaGreat
namespace Go.Proofs.YtdkcffnmlllamaaGreat
open Go.RowKit
theorem QF.qn {w:World} {cs:Array Value} {a:Arr} (hn:0<a.n) (h:QF w cs (kA a) (rA a)):QN w (.agg cs) a:=by
 obtain⟨hs,-,hk,hf⟩:=h
 obtain⟨l⟩:=cs
 replace hs:l.length=20:=by simpa using hs
 match l,hs with
 | [x0,x1,x2,x3,x4,x5,x6,x7,x8,x9,x10,x11,x12,x13,x14,x15,x16,x17,x18,x19],_=>
  obtain⟨a1,a2,a3,a4,a5,a6,a7,a8,p0,p1,p2,p3,f0⟩:=hf 0 (by omega)
  obtain⟨b1,b2,b3,b4,b5,b6,b7,b8,p4,p5,p6,p7,f1⟩:=hf 1 (by omega)
  obtain⟨c1,c2,c3,c4,c5,c6,c7,c8,p8,p9,p10,p11,f2⟩:=hf 2 (by omega)
  obtain⟨d1,d2,d3,d4,d5,d6,d7,d8,p12,p13,p14,p15,f3⟩:=hf 3 (by omega)
  have k0:=hk 0 (by omega)
  have k1:=hk 1 (by omega)
  have k2:=hk 2 (by omega)
  have k3:=hk 3 (by omega)
  replace k0:some x0=some _:=k0
  injection k0 with k0
  replace k1:some x1=some _:=k1
  injection k1 with k1
  replace k2:some x2=some _:=k2
  injection k2 with k2
  replace k3:some x3=some _:=k3
  injection k3 with k3
  replace p0:some x4=some _:=p0
  injection p0 with p0
  replace p1:some x5=some _:=p1
  injection p1 with p1
  replace p2:some x6=some _:=p2
  injection p2 with p2
  replace p3:some x7=some _:=p3
  injection p3 with p3
  replace p4:some x8=some _:=p4
  injection p4 with p4
  replace p5:some x9=some _:=p5
  injection p5 with p5
  replace p6:some x10=some _:=p6
  injection p6 with p6
  replace p7:some x11=some _:=p7
  injection p7 with p7
  replace p8:some x12=some _:=p8
  injection p8 with p8
  replace p9:some x13=some _:=p9
  injection p9 with p9
  replace p10:some x14=some _:=p10
  injection p10 with p10
  replace p11:some x15=some _:=p11
  injection p11 with p11
  replace p12:some x16=some _:=p12
  injection p12 with p12
  replace p13:some x17=some _:=p13
  injection p13 with p13
  replace p14:some x18=some _:=p14
  injection p14 with p14
  replace p15:some x19=some _:=p15
  injection p15 with p15
  subst k0 k1 k2 k3 p0 p1 p2 p3 p4 p5 p6 p7 p8 p9 p10 p11 p12 p13 p14 p15
  exact⟨_,_,_,_,_,_,_,_,_,_,_,_,_,_,_,_,rfl,f0.num2 hn,f1.num2 hn,f2.num2 hn,f3.num2 hn⟩
end Go.Proofs.YtdkcffnmlllamaaGreat
namespace Go.Proofs.YtdkcffnmlllamaaGreat
open Go.RowKit
def Frn (w:World) (x y:Int) (a b c d:Value):Prop:=Num w (.agg #[a,b]) x∧Num w (.agg #[c,d]) y
theorem Frn.keeps {w w':World} {x y:Int} {a b c d:Value} (h:Frn w x y a b c d) (k:Keeps w w'):Frn w' x y a b c d:=⟨h.1.keeps k,h.2.keeps k⟩
def QM (w:World) (cs:Array Value) (k p q:Nat→Int):Prop:=cs.size=20∧cs.all (·.oneCell')=true∧(∀i,i<4→cs[i]? = some (.int .i64 (k i)))∧
 ∀i,i<4→∃a b c d,cs[4+i*4]? = some a∧cs[4+i*4+1]? = some b∧cs[4+i*4+2]? = some c∧cs[4+i*4+3]? = some d∧Frn w (p i) (q i) a b c d
theorem QM.keeps {w w':World} {cs:Array Value} {k p q:Nat→Int} (h:QM w cs k p q) (kp:Keeps w w'):QM w' cs k p q:=by
 obtain⟨h1,h2,h3,h4⟩:=h
 refine⟨h1,h2,h3,fun i hi=> ?_⟩
 obtain⟨a,b,c,d,c0,c1,c2,c3,f⟩:=h4 i hi
 exact⟨a,b,c,d,c0,c1,c2,c3,f.keeps kp⟩
theorem QM.steps {w w':World} {cs:Array Value} {k p q:Nat→Int} (h:QM w cs k p q) (s:Steps w w'):QM w' cs k p q:=h.keeps (Keeps.steps s)
end Go.Proofs.YtdkcffnmlllamaaGreat
namespace Go.Proofs.YtdkcffnmlllamaaGreat
open Go.RowKit
end Go.Proofs.YtdkcffnmlllamaaGreat
namespace Go.Proofs.YtdkcffnmlllamaaGreat
open Go.RowKit
def given4:PL:= [(0,0),(4,0),(1,1),(3,2)]
def k0123 (i:Nat):Int:=match i with | 0=>0 | 1=>1 | 2=>2 | _=>3
end Go.Proofs.YtdkcffnmlllamaaGreat
namespace Go.Proofs.YtdkcffnmlllamaaGreat
open Go.RowKit
def kT (k:Nat→Int) (i:Nat):Int:=k (at4 2 0 3 1 i)
def pcs (l:PL):List Value:=l.flatMap fun p=> [.int .i64 p.1,.int .i64 p.2]
theorem pcs_len (l:PL):(pcs l).length=l.length*2:=by
 induction l with
 | nil=>rfl
 | cons p r ih=>show ((pcs r).length+1+1)=_; rw[ih]; simp only[List.length_cons]; omega
theorem pcs_get (l:PL):∀t,t<l.length→(pcs l)[t*2]? = some (.int .i64 (l.getD t (0,0)).1)∧(pcs l)[t*2+1]? = some (.int .i64 (l.getD t (0,0)).2):=by
 induction l with
 | nil=>intro t h; cases h
 | cons p r ih=>
  intro t h
  match t with
  | 0=>exact⟨rfl,rfl⟩
  | t+1=>
   have:=ih t (by simp only[List.length_cons]at h; omega)
   rw[show (t+1)*2=t*2+1+1 by omega]
   exact this
def SlcL (n:Nat) (x:Value):Prop:=∃a c,x = .slice a n c
end Go.Proofs.YtdkcffnmlllamaaGreat
namespace Go.Proofs.YtdkcffnmlllamaaGreat
def cntA (a:Arr) (x:Int):Nat→Nat
 | 0=>0
 | m+1=>cntA a x m+if kA a m=x then 1 else 0
open Go.RowKit
end Go.Proofs.YtdkcffnmlllamaaGreat
namespace Go.Proofs.YtdkcffnmlllamaaGreat
open Go.RowKit
structure Backs (l:PL) (a:Arr) (m:Nat→Nat):Prop where
 lt:∀i,i<4→m i<l.length
 k:∀i,i<4→kA a i=(m i:Int)
 x2:rA a 0*(((pt l (m 1)).1-(pt l (m 0)).1:Int):Rat)-rA a 1*(((pt l (m 1)).2-(pt l (m 0)).2:Int):Rat)=(((pt l (m 2)).1-(pt l (m 0)).1:Int):Rat)
 y2:rA a 0*(((pt l (m 1)).2-(pt l (m 0)).2:Int):Rat)+rA a 1*(((pt l (m 1)).1-(pt l (m 0)).1:Int):Rat)=(((pt l (m 2)).2-(pt l (m 0)).2:Int):Rat)
 x3:rA a 2*(((pt l (m 1)).1-(pt l (m 0)).1:Int):Rat)-rA a 3*(((pt l (m 1)).2-(pt l (m 0)).2:Int):Rat)=(((pt l (m 3)).1-(pt l (m 0)).1:Int):Rat)
 y3:rA a 2*(((pt l (m 1)).2-(pt l (m 0)).2:Int):Rat)+rA a 3*(((pt l (m 1)).1-(pt l (m 0)).1:Int):Rat)=(((pt l (m 3)).2-(pt l (m 0)).2:Int):Rat)
end Go.Proofs.YtdkcffnmlllamaaGreat
namespace Go.Proofs.YtdkcffnmlllamaaGreat
open Go.RowKit
def rndC (r:Rat):Int:=cmpI (2*modF r.num r.den) r.den
def rndB (r:Rat):Bool:=decide (0<rndC r)||(decide (rndC r=0)&&decide (divF r.num r.den%2=1))
def rndQ (r:Rat):Int:=if rndB r then divF r.num r.den+1 else divF r.num r.den
theorem divF_le {x y:Int} (hy:0<y):absN (divF x y)≤absN x:=by
 unfold divF absN
 rw[Int.fdiv_eq_ediv_of_nonneg x (by omega)]
 have h1:=Int.mul_ediv_add_emod x y
 have h2:=Int.emod_nonneg x (show y≠0 by omega)
 have h3:=Int.emod_lt_of_pos x hy
 generalize x / y=q at *
 rcases Int.lt_or_le q 0 with h | h
 ·
  have h4:y*(q+1)≤q+1:=by
   have:=Int.mul_le_mul_of_nonpos_right (show (1:Int)≤y by omega) (show q+1≤0 by omega)
   omega
  rw[Int.mul_add,Int.mul_one]at h4
  omega
 ·
  have h4:q≤y*q:=by
   have:=Int.mul_le_mul_of_nonneg_right (show (1:Int)≤y by omega) h
   omega
  omega
theorem modF_pos {x y:Int} (hy:0<y):0≤modF x y∧modF x y<y:=by
 unfold modF divF
 rw[Int.fdiv_eq_ediv_of_nonneg x (by omega)]
 have h1:=Int.mul_ediv_add_emod x y
 have h2:=Int.emod_nonneg x (show y≠0 by omega)
 have h3:=Int.emod_lt_of_pos x hy
 omega
theorem rnd_sizes {r:Rat} {k:Nat} (z:sz r k) (hk:k≤4000):fits (divF r.num r.den)∧fits (divF r.num r.den+1)∧fits (modF r.num r.den)∧fits (modF r.num r.den+modF r.num r.den)∧fits ((r.den:Int)-modF r.num r.den)∧fits r.num∧fits (r.den:Int):=by
 obtain⟨z1,z2⟩:=z
 have d0:=den_pos' r
 have d1:=divF_le (x:=r.num) d0
 have m0:=modF_pos (x:=r.num) d0
 have b1:2*bp k≤bp (k+1):=by
  have h0:0<bp k:=by unfold bp; exact_mod_cast Nat.pow_pos (by omega)
  rw[bp_succ]; omega
 have b2:(1:Int)≤bp k:=by unfold bp; exact_mod_cast Nat.pow_pos (by omega)
 generalize divF r.num r.den=q at *
 generalize modF r.num r.den=m at *
 generalize (r.den:Int)=d at *
 have F:∀x:Int,((x.natAbs:Nat):Int)≤bp (k+1)→fits x:=fun x h=>fits_bp h (by omega)
 unfold absN at *
 exact⟨F _ (by omega),F _ (by omega),F _ (by omega),F _ (by omega),F _ (by omega),F _ (by omega),F _ (by omega)⟩
theorem rnd_rest (r:Rat):cmpI (modF r.num r.den) ((r.den:Int)-modF r.num r.den)=rndC r:=by
 unfold rndC cmpI
 split<;>split<;>(try split)<;>(try split)<;>omega
theorem Num.limQ {w:World} {g:Bool} {s:Value} {z:Int} (h:Num w (.agg #[.bool g,s]) z):Lim w s (limbs (absN z)):=by
 obtain⟨s',e,hl⟩:=h
 simp only[Value.agg.injEq,Array.mk.injEq,List.cons.injEq,and_true]at e
 rw[e.2]
 exact hl
theorem lim_ptr {w:World} {s:Option Addr} {n c:Nat} {q:Int} (h:Lim w (.slice s n c) (limbs (absN q))) (hq:q≠0):∃b o,s=some ⟨b,o,none⟩∧0<n∧w.cell? ⟨b,o,none⟩=some (.int .u32 (absN q%4294967296)):=by
 obtain⟨lk,e,-,f⟩:=h.cells
 have lv:=lval_limbs (absN_nonneg q)
 have hn:0<n:=by
  rcases Nat.eq_zero_or_pos n with h0 | h0
  ·
   rw[h0]at e
   rw[List.eq_nil_of_length_eq_zero e.symm]at lv
   simp only[lval]at lv
   unfold absN at lv
   omega
  · exact h0
 obtain⟨b,o,rfl,hb,hc⟩:=f hn
 refine⟨b,o,rfl,hn,?_⟩
 generalize limbs (absN q)=l at *
 generalize absN q=z at *
 cases l with
 | nil=>simp at e; omega
 | cons u t=>
  have h0:=hc 0 (by simp)
  have hu:=lk u (by simp)
  simp only[lval]at lv
  have e2:z%4294967296=u:=by
   generalize lval t=T at lv
   clear h0 hc f e lk h
   omega
  rw[e2]
  simpa using h0
theorem lim_cell {w:World} {b o n c:Nat} {q:Int} (h:Lim w (.slice (some ⟨b,o,none⟩) n c) (limbs (absN q))) (hq:q≠0):w.cell? ⟨b,o,none⟩=some (.int .u32 (absN q%4294967296)):=by
 obtain⟨b',o',e,-,hc⟩:=lim_ptr h hq
 simp only[Option.some.injEq,Addr.mk.injEq,and_true]at e
 rw[e.1,e.2]
 exact hc
theorem bits_and_one {u:Int} (h0:0≤u) (h1:u<4294967296):bits .and .u32 u 1=u%2:=by
 obtain⟨n,rfl⟩:=Int.eq_ofNat_of_zero_le h0
 have e1:(BitVec.ofInt 32 (n:Int)).toNat=n:=by rw[BitVec.ofInt_natCast,BitVec.toNat_ofNat]; omega
 have e2:(BitVec.ofInt 32 (1:Int)).toNat=1:=rfl
 show IntKind.u32.wrap ((BitVec.ofInt 32 (n:Int) &&& BitVec.ofInt 32 (1:Int)).toNat:Int)=_
 rw[BitVec.toNat_and,e1,e2,Nat.and_one_is_mod,IntKind.wrap_u32]
 omega
theorem fround {va:Value} {r:Rat} {k:Nat} (w:World) (h:FR w va r) (z:sz r k) (hk:k≤4000) :
  Calls Tryz.prog 50 #[va] w fun e w'=>∃v,e = .returned (.tuple #[v,.int .i64 0])∧Num w' v (rndQ r)∧Steps w w':=by
 obtain⟨fQ,fQ1,fM,fMM,fDM,fn,fd⟩:=rnd_sizes z hk
 have d0:=den_pos' r
 have dm:∀w' u v,Num w' u r.num→Num w' v r.den→Calls Tryz.prog 75 #[u,v] w' fun e w2=>∃q s,e = .returned (.tuple #[q,s,.int .i64 0])∧Num w2 q (divF r.num r.den)∧Num w2 s (modF r.num r.den)∧Steps w' w2:=fun w' u v h1 h2=>wdivmod w' h1 h2 fn fd (by omega)
 have CK:∀w' v,FR w' v r→Calls Tryz.prog 74 #[v] w' fun e w2=>e = .returned (.int .i64 0)∧Steps w' w2:=fun w' v h=>fcheck_q w' h
 have AD:∀w' u v,Num w' u (modF r.num r.den)→Num w' v (modF r.num r.den)→Calls Tryz.prog 78 #[u,v] w' fun e w2=>∃v,e = .returned (.tuple #[v,.int .i64 0])∧Num w2 v (modF r.num r.den+modF r.num r.den)∧Steps w' w2:=fun w' u v h1 h2=>by
  have:=wAdd w' h1 h2 fM fM
  rwa[errN_fits fMM,clipN_fits fMM]at this
 have CM:∀w' u v,Num w' u (modF r.num r.den+modF r.num r.den)→Num w' v r.den→Calls Tryz.prog 76 #[u,v] w' fun e w2=>e = .returned (.tuple #[.int .i64 (rndC r),.int .i64 0])∧Steps w' w2:=fun w' u v h1 h2=>by
  have:=wCmp w' h1 h2 fMM fd
  rwa[show cmpI (modF r.num r.den+modF r.num r.den) (r.den:Int)=rndC r by unfold rndC; rw[show 2*modF r.num r.den=modF r.num r.den+modF r.num r.den by omega]]at this
 have A1:∀w' u v,Num w' u (divF r.num r.den)→Num w' v 1→Calls Tryz.prog 78 #[u,v] w' fun e w2=>∃v,e = .returned (.tuple #[v,.int .i64 0])∧Num w2 v (divF r.num r.den+1)∧Steps w' w2:=fun w' u v h1 h2=>by
  have:=wAdd w' h1 h2 fQ (by decide)
  rwa[errN_fits fQ1,clipN_fits fQ1]at this
 have Fr:=Hid.mk_ h
 have HB:Hid (rndQ r=if rndB r then divF r.num r.den+1 else divF r.num r.den):=rfl
 unfold rndB at HB
 have hcm : -1≤rndC r∧rndC r≤1:=by unfold rndC cmpI; split<;>(try split)<;>omega
 have CK':=Hid.mk_ (fun w' (k:Keeps w w')=>CK w' va (Fr.out.keeps k))
 clear CK
 obtain⟨a2,a3,a4,a6,a7,a8,rfl,na,da,-⟩:=h.nums
 generalize rndQ r=RR at *
 generalize rndC r=c at *
 generalize divF r.num r.den=Q at *
 generalize modF r.num r.den=M at *
 generalize (r.den:Int)=D at *
 generalize r.num=P at *
 generalize decide (r<0)=ga at *
 have Fa:=Hid.mk_ na
 have Fd:=Hid.mk_ da
 clear Fr na da h z hk d0 fQ fQ1 fM fMM fDM fn fd
 go_enter_defers Tryz.func50,Tryz.ntmps50
 have kk:=Keeps.refl w
 skip
 go_wp2_with fail
 refine(CK'.out _ (kk.trans keepsB)).mono ?_
 rintro e w1 ⟨rfl,st⟩
 have B:=bA w st
 have kp:=kB w st
 replace kk:=kk.trans kp
 have oa:Blk w1 (w.heap.size) 32 #[.bool ga,.slice a2 a3 a4,.bool false,.slice a6 a7 a8]:=Blk.stepsK st
 have or:Blk w1 (w.heap.size+1) 30 #[.bool false,.slice none 0 0]:=Blk.stepsK st
 have oe:Blk w1 (w.heap.size+1+1) 36 #[.int .i64 0]:=Blk.stepsK st
 replace Fa:=Hid.mk_ (Fa.out.keeps kp)
 replace Fd:=Hid.mk_ (Fd.out.keeps kp)
 clear kp
 clear st
 go_wp2_with fail
 refine(fwant0s _).mono ?_
 rintro e w2 ⟨rfl,st⟩
 have sk:=bA w1 st
 replace B:=bS B sk
 replace oa:=oa.steps sk
 replace or:=or.steps sk
 replace oe:=oe.steps sk
 replace Fa:=Hid.mk_ (Fa.out.steps sk)
 replace Fd:=Hid.mk_ (Fd.out.steps sk)
 replace kk:=kk.then_ sk
 clear st sk
 obtain⟨ca0,ca1,ca2,ca3⟩:=oa.r3
 have la:=oa.lt
 have lr:=or.lt
 have le:=oe.lt
 go_wp2_with fail
 refine(dm _ _ _ (Fa.out.keeps keepsB) (Fd.out.keeps keepsB)).mono ?_
 rintro e w3 ⟨vp,vs,rfl,hvp,hvs,st⟩
 have sk:=bA w2 st
 replace B:=bS B sk
 replace oa:=oa.steps sk
 replace or:=or.steps sk
 replace oe:=oe.steps sk
 replace Fa:=Hid.mk_ (Fa.out.steps sk)
 replace Fd:=Hid.mk_ (Fd.out.steps sk)
 replace kk:=kk.then_ sk
 clear st sk ca0 ca1 ca2 ca3 la lr le
 have la:=oa.lt
 have lr:=or.lt
 have ce0:=oe.q0
 have fe:=oe.fr
 have le:=oe.lt
 obtain⟨p1,p2,p3,p4,rfl⟩:=hvp.shape
 obtain⟨s1,s2,s3,s4,rfl⟩:=hvs.shape
 have Fp:=Hid.mk_ hvp
 clear hvp
 have Fs:=Hid.mk_ hvs
 clear hvs
 have ze_3:w.heap.size+1+1<w3.heap.size:=oe.lt
 have zz3:=B.size
 go_wp2_with fail
 refine(fwant0s _).mono ?_
 rintro e w4 ⟨rfl,st⟩
 have Bn:=bA w st
 have kp:=kB w3 st
 replace kk:=kk.trans kp
 replace oa:Blk w4 (w.heap.size) 32 #[.bool ga,.slice a2 a3 a4,.bool false,.slice a6 a7 a8]:=Blk.stepsK st
 replace or:Blk w4 (w.heap.size+1) 30 #[.bool false,.slice none 0 0]:=Blk.stepsK st
 replace oe:Blk w4 (w.heap.size+1+1) 36 #[.int .i64 0]:=Blk.steps ownD st
 have oq:Blk w4 (w3.heap.size) 30 #[.bool p1,.slice p2 p3 p4]:=Blk.stepsK st
 have om:Blk w4 (w3.heap.size+1) 30 #[.bool s1,.slice s2 s3 s4]:=Blk.stepsK st
 clear la lr ce0 fe le
 replace B:=Bn
 replace Fa:=Hid.mk_ (Fa.out.keeps kp)
 replace Fd:=Hid.mk_ (Fd.out.keeps kp)
 replace Fp:=Hid.mk_ (Fp.out.keeps kp)
 replace Fs:=Hid.mk_ (Fs.out.keeps kp)
 clear kp
 clear st
 obtain⟨ca0,ca1,ca2,ca3⟩:=oa.r3
 have la:=oa.lt
 have lr:=or.lt
 have le:=oe.lt
 have lq:=oq.lt
 obtain⟨cm0,cm1⟩:=om.r1
 have lm:=om.lt
 have zm_4:w3.heap.size+1<w4.heap.size:=om.lt
 have zz4:=B.size
 go_upto_region 5 with fail
 refine Reg.chn (fun N0 D v W=>Below w.heap.size w W∧Keeps w4 W∧N0≤W.heap.size∧Blk W (w.heap.size) 32 #[.bool ga,.slice a2 a3 a4,.bool false,.slice a6 a7 a8]∧Blk W (w.heap.size+1) 30 #[.bool false,.slice none 0 0]∧Blk W (w.heap.size+1+1) 36 #[.int .i64 0]∧Blk W (w3.heap.size) 30 #[.bool p1,.slice p2 p3 p4]∧Blk W (w3.heap.size+1) 30 #[.bool s1,.slice s2 s3 s4]) [2,5,8] [(2,IsNuE 0),(5,IsNu),(8,fun z_=>z_ = .tuple #[.int .i64 c,.int .i64 0])] [(2,GNuE (M+M) 0),(5,GNu (M+M))] [(5,[(2,some 25)]),(8,[(5,some 28)]),(14,[(2,some 25),(5,some 28),(8,some 31)])] [] (fun N0 hN0=>⟨fun v=> ?_,fun D v v' W hv hj=> ?_,fun ops' Q' hops hQ=> ?_⟩)
 · exact⟨belowB,keepsB,leD hN0,ownK,ownK,ownK,ownK,ownK⟩
 · exact hj
 clear ca0 ca1 ca2 ca3 la lr le lq cm0 cm1 lm
 clear hN0
 refine Reg.RPf 23 (fun _ _ _ h=>h.2.2.2.2.2.2.2.r1) ?_
 refine Reg.RPf 24 (fun _ _ _ h=>h.2.2.2.2.2.2.2.r1) ?_
 refine Reg.RC_call rfl (tlt rfl) rfl (fun D v' W' hc hj hf K hK=> ?_) ?_
 ·
  clear hf
  go_step
  refine(AD W' _ _ (Fs.out.keeps hj.2.1) (Fs.out.keeps hj.2.1)).mono ?_
  rintro e W2 ⟨u,rfl,hu,hs⟩
  obtain⟨t1,t2,t3,t4,rfl⟩:=hu.shape
  exact hK.out _ W2 (Keeps.steps hs) (jb5 hj hs) ⟨_,rfl,hu⟩ ⟨_,_,_,_,rfl⟩
 rintro _ ⟨t1,t2,t3,t4,rfl⟩
 refine Reg.at60 rfl ?_
 repeat refine Reg.RP0 _ ?_
 refine Reg.RC_call rfl (tlt rfl) rfl (fun D v' W' hc hj hf K hK=> ?_) ?_
 ·
  have g2:GNuE (M+M) 0 _ W':=(hf (2,some 25) (.head _) rfl).2.2
  have g2:=g2.get
  clear hf
  go_step
  refine(fmust W' g2).mono ?_
  rintro e W2 ⟨u,rfl,hu,hs⟩
  obtain⟨u1,u2,u3,u4,rfl⟩:=hu.shape
  exact hK.out _ W2 (Keeps.steps hs) (jb5 hj hs) hu ⟨_,_,_,_,rfl⟩
 rintro _ ⟨u1,u2,u3,u4,rfl⟩
 refine Reg.at60 rfl ?_
 refine Reg.RP0 29 ?_
 refine Reg.RPf 30 (fun _ _ _ h=>And.intro h.2.2.2.1.q2 h.2.2.2.1.q3) ?_
 refine Reg.RC_call rfl (tlt rfl) rfl (fun D v' W' hc hj hf K hK=> ?_) ?_
 ·
  have g5:GNu (M+M) _ W':=(hf (5,some 28) (.head _) rfl).2.2
  have g5:Num W' _ (M+M):=g5
  clear hf
  go_step
  refine(CM W' _ _ g5 (Fd.out.keeps hj.2.1)).mono ?_
  rintro e W2 ⟨rfl,hs⟩
  exact hK.out _ W2 (Keeps.steps hs) (jb5 hj hs) trivial rfl
 rintro _ rfl
 refine Reg.at60 rfl ?_
 repeat refine Reg.RP0 _ ?_
 refine Reg.RC_end (fun Dn v' w5 hd hj hf=> ?_)
 obtain⟨B,jk,jn,oa,or,oe,oq,om⟩:=hj
 have Ft:=Hid.mk_ (GNuE.get (z:=M+M) (e:=0) (v:= .agg #[.bool t1,.slice t2 t3 t4]) (hf (2,some 25) (.head _) rfl).2.2)
 have Fu:Hid (Num w5 (.agg #[.bool u1,.slice u2 u3 u4]) (M+M)):=(hf (5,some 28) (.tail _ (.head _)) rfl).2.2
 replace Fa:=Hid.mk_ (Fa.out.keeps jk)
 replace Fd:=Hid.mk_ (Fd.out.keeps jk)
 replace Fp:=Hid.mk_ (Fp.out.keeps jk)
 replace Fs:=Hid.mk_ (Fs.out.keeps jk)
 replace kk:=kk.trans jk
 clear hd hf jk
 refine hQ _ _ ?_
 clear hQ hops Q' ops'
 have la:=oa.lt
 obtain⟨cr0,cr1,fr,lr⟩:=or.s1
 have ce0:=oe.q0
 have fe:=oe.fr
 have le:=oe.lt
 obtain⟨cq0,cq1⟩:=oq.r1
 have lq:=oq.lt
 have lm:=om.lt
 rcases(show 0<c∨c<0∨c=0 by omega)with h1 | h1 | h1
 ·
  have HE:=Hid.mk_ (show RR=Q+1 by rw[HB.out,decide_eq_true h1]; rfl)
  have d1:decide (0<c)=true:=decide_eq_true h1
  have zm_5:w3.heap.size+1<w5.heap.size:=om.lt
  have zz5:=B.size
  go_upto_region 7 with fail
  refine Reg.chn (fun N0 D v W=>Below w.heap.size w W∧Keeps w5 W∧N0≤W.heap.size∧Blk W (w.heap.size) 32 #[.bool ga,.slice a2 a3 a4,.bool false,.slice a6 a7 a8]∧Blk W (w.heap.size+1) 30 #[.bool false,.slice none 0 0]∧Blk W (w.heap.size+1+1) 36 #[.int .i64 0]∧((D 6=false→Blk W (w3.heap.size) 30 #[.bool p1,.slice p2 p3 p4])∧(D 6=true→D 5=true∧∃cs,v 5 = .agg cs∧Blk W (w3.heap.size) 30 cs))∧Blk W (w3.heap.size+1) 30 #[.bool s1,.slice s2 s3 s4]) [1,2,5,6] [(1,IsNu),(2,IsNuE 0),(5,IsNu)] [(1,GNu (1)),(2,GNuE (Q+1) 0),(5,GNu (Q+1))] [(2,[(1,some 54)]),(5,[(2,some 55)]),(6,[(5,some 58)]),(7,[(1,some 54),(2,some 55),(5,some 58)])] [(5,[6]),(0,[6])] (fun N0 hN0=>⟨fun v=> ?_,fun D v v' W hv hj=> ?_,fun ops' Q' hops hQ=> ?_⟩)
  · exact⟨belowB,keepsB,leD hN0,ownK,ownK,ownK,⟨fun _=>ownK,(fun h=>Bool.noConfusion h)⟩,ownK⟩
  ·
   obtain⟨j0,jk,jn,b_a,b_r,b_e,b_q,b_m⟩:=hj
   exact⟨j0,jk,jn,b_a,b_r,b_e,⟨b_q.1,fun h=>by obtain⟨d,cs,e,hb⟩:=b_q.2 h; exact⟨d,cs,(hv 5 d)▸e,hb⟩⟩,b_m⟩
  have eN:=hN0.out
  try simp only[World.size_alloc,World.size_setCell,World.size_drew,World.heap_drewN]at eN
  have i_a:w.heap.size<N0:=by first | omega | (have h:=oa.lt; omega)
  have i_r:w.heap.size+1<N0:=by first | omega | (have h:=or.lt; omega)
  have i_e:w.heap.size+1+1<N0:=by first | omega | (have h:=oe.lt; omega)
  have i_q:w3.heap.size<N0:=by first | omega | (have h:=oq.lt; omega)
  have i_m:w3.heap.size+1<N0:=by first | omega | (have h:=om.lt; omega)
  have iw:w.heap.size≤N0:=by first | omega | (have h:=B.size; omega)
  clear la cr0 cr1 fr lr ce0 fe le cq0 cq1 lq lm
  clear hN0
  apply Reg.RP rfl rfl rfl 53 rfl rfl
  ·
   intro D v' W' hc hj hf K hK
   obtain⟨j0,jk,jn,b_a,b_r,b_e,b_q,b_m⟩:=hj
   have b_q:=b_q.1 (hc.2 6 (by decide))
   obtain⟨c0,c1⟩:=b_q.r1
   go_step
   exact hK.out
  · rfl
  refine Reg.RC_call rfl (tlt rfl) rfl (fun D v' W' hc hj hf K hK=> ?_) ?_
  ·
   obtain⟨j0,jk,jn,b_a,b_r,b_e,b_q,b_m⟩:=hj
   clear hf
   go_step
   refine(fone W').mono ?_
   rintro e W2 ⟨u,rfl,hu,hs⟩
   obtain⟨o1,o2,o3,o4,rfl⟩:=hu.shape
   exact hK.out _ W2 (Keeps.steps hs) ⟨jst j0 hs,jk.then_ hs,jsz jn hs,b_a.steps hs,b_r.steps hs,b_e.steps hs,dS b_q hs,b_m.steps hs⟩ hu ⟨_,_,_,_,rfl⟩
  rintro _ ⟨o1,o2,o3,o4,rfl⟩
  refine Reg.at60 rfl ?_
  refine Reg.RC_call rfl (tlt rfl) rfl (fun D v' W' hc hj hf K hK=> ?_) ?_
  ·
   obtain⟨j0,jk,jn,b_a,b_r,b_e,b_q,b_m⟩:=hj
   have g1:GNu (1) _ W':=(hf (1,some 54) (.head _) rfl).2.2
   have g1:Num W' _ (1):=g1
   clear hf
   go_step
   refine(A1 W' _ _ (Fp.out.keeps jk) g1).mono ?_
   rintro e W2 ⟨u,rfl,hu,hs⟩
   obtain⟨x1,x2,x3,x4,rfl⟩:=hu.shape
   exact hK.out _ W2 (Keeps.steps hs) ⟨jst j0 hs,jk.then_ hs,jsz jn hs,b_a.steps hs,b_r.steps hs,b_e.steps hs,dS b_q hs,b_m.steps hs⟩ ⟨_,rfl,hu⟩ ⟨_,_,_,_,rfl⟩
  rintro _ ⟨x1,x2,x3,x4,rfl⟩
  refine Reg.at60 rfl ?_
  repeat refine Reg.RP0 _ ?_
  refine Reg.RC_call rfl (tlt rfl) rfl (fun D v' W' hc hj hf K hK=> ?_) ?_
  ·
   obtain⟨j0,jk,jn,b_a,b_r,b_e,b_q,b_m⟩:=hj
   have g2:GNuE (Q+1) 0 _ W':=(hf (2,some 55) (.head _) rfl).2.2
   have g2:=g2.get
   clear hf
   go_step
   refine(fmust W' g2).mono ?_
   rintro e W2 ⟨u,rfl,hu,hs⟩
   obtain⟨y1,y2,y3,y4,rfl⟩:=hu.shape
   exact hK.out _ W2 (Keeps.steps hs) ⟨jst j0 hs,jk.then_ hs,jsz jn hs,b_a.steps hs,b_r.steps hs,b_e.steps hs,⟨fun h=>(b_q.1 h).steps hs,fun h=>Bool.noConfusion ((hc.2 6 (by decide)).symm.trans h)⟩,b_m.steps hs⟩ hu ⟨_,_,_,_,rfl⟩
  rintro _ ⟨y1,y2,y3,y4,rfl⟩
  refine Reg.at60 rfl ?_
  refine Reg.RCs (fun D v' W' hc hj hf K hK=> ?_) (fun _ _=>Reg.RC_at (b:=⟨_,_⟩) rfl ?_)
  ·
   obtain⟨j0,jk,jn,b_a,b_r,b_e,b_q,b_m⟩:=hj
   have hb:=b_q.1 hc.1
   have e2:w.heap.size≤w3.heap.size:=by omega
   have fc:=hf (5,some 58) (.head _) rfl
   have ec:v' 5 = .agg #[.bool y1,.slice y2 y3 y4]:=fc.2.1
   have ff:=hb.fr
   obtain⟨cc0,cc1⟩:=hb.r1
   go_step
   exact hK.out undef _ (wr2.k hb) ⟨(wr2.b j0),jk.trans (wr2.k hb),wr2.n jn,(wr2.f b_a),(wr2.f b_r),(wr2.f b_e),⟨fun h=>Bool.noConfusion h,fun _=>⟨fc.1,_,ec,(Blk.st (i:=1) (Blk.st (i:=0) hb))⟩⟩,(wr2.f b_m)⟩ trivial trivial
  refine Reg.RC_end (fun Dn v' w6 hd hj hf=> ?_)
  obtain⟨B,jk,jn,oa,or,oe,b_q,om⟩:=hj
  obtain⟨-,cs_,ee,oq⟩:=b_q.2 (hd 6 (Nat.le_of_ble_eq_true rfl))
  have ef:v' 5 = .agg #[.bool y1,.slice y2 y3 y4]:=(hf (5,some 58) (.tail _ (.tail _ (.head _))) rfl).2.1
  obtain rfl:#[.bool y1,.slice y2 y3 y4]=cs_:=by have:=ef.symm.trans ee; simpa only[Value.tuple.injEq,Value.agg.injEq,Array.mk.injEq,List.cons.injEq,and_true,true_and]using this
  clear b_q ee ef
  have Fo:Hid (Num w6 (.agg #[.bool o1,.slice o2 o3 o4]) (1)):=(hf (1,some 54) (.head _) rfl).2.2
  have Fx:=Hid.mk_ (GNuE.get (z:=Q+1) (e:=0) (v:= .agg #[.bool x1,.slice x2 x3 x4]) (hf (2,some 55) (.tail _ (.head _)) rfl).2.2)
  have Fy:Hid (Num w6 (.agg #[.bool y1,.slice y2 y3 y4]) (Q+1)):=(hf (5,some 58) (.tail _ (.tail _ (.head _))) rfl).2.2
  replace Fa:=Hid.mk_ (Fa.out.keeps jk)
  replace Fd:=Hid.mk_ (Fd.out.keeps jk)
  replace Fp:=Hid.mk_ (Fp.out.keeps jk)
  replace Fs:=Hid.mk_ (Fs.out.keeps jk)
  replace Ft:=Hid.mk_ (Ft.out.keeps jk)
  replace Fu:=Hid.mk_ (Fu.out.keeps jk)
  replace kk:=kk.trans jk
  clear hd hf jk
  refine hQ _ _ ?_
  clear hQ hops Q' ops'
  have la:=oa.lt
  obtain⟨cr0,cr1,fr,lr⟩:=or.s1
  have ce0:=oe.q0
  have fe:=oe.fr
  have le:=oe.lt
  obtain⟨cq0,cq1⟩:=oq.r1
  have lq:=oq.lt
  have lm:=om.lt
  go_wp2_with fail
  refine leaves_cons (f:=72) (args:=#[.pointer (some ⟨w.heap.size+1+1,0,none⟩)]) (by simp) (by simp[go_sem]) ?_
  refine(fcatch_idle _ _).mono ?_
  rintro e u' w'' ⟨rfl,rfl,rfl⟩
  refine⟨_,by simp[results,Tryz.results50,go_sem,la,cr0,cr1,fr,lr,ce0,fe,le,cq0,cq1,lq,lm]; rfl,?_⟩
  exact⟨_,rfl,by rw[HE.out]; exact Fy.out.keeps keepsB,belowB⟩
 ·
  have HE:=Hid.mk_ (show RR=Q by rw[HB.out,decide_eq_false (show ¬0<c by omega),decide_eq_false (show ¬c=0 by omega)]; rfl)
  have d1:decide (0<c)=false:=decide_eq_false (by omega)
  have d2:(c==0)=false:=by simp; omega
  go_wp2_with fail
  refine leaves_cons (f:=72) (args:=#[.pointer (some ⟨w.heap.size+1+1,0,none⟩)]) (by simp) (by simp[go_sem]) ?_
  refine(fcatch_idle _ _).mono ?_
  rintro e u' w'' ⟨rfl,rfl,rfl⟩
  refine⟨_,by simp[results,Tryz.results50,go_sem,la,cr0,cr1,fr,lr,ce0,fe,le,cq0,cq1,lq,lm]; rfl,?_⟩
  exact⟨_,rfl,by rw[HE.out]; exact Fp.out.keeps keepsB,belowB⟩
 ·
  subst h1
  by_cases hQ:Q=0
  ·
   have HE:=Hid.mk_ (show RR=Q by rw[HB.out,hQ]; rfl)
   have dq:decide (Q=0)=true:=decide_eq_true hQ
   go_wp2_with fail
   refine((dq▸fzero _ (Fp.out.keeps keepsB))).mono ?_
   rintro e w6 ⟨rfl,hb6⟩
   have st:Steps _ w6:=hb6
   have sk:=bA w5 st
   replace B:=bS B sk
   replace oa:=oa.steps sk
   replace or:=or.steps sk
   replace oe:=oe.steps sk
   replace oq:=oq.steps sk
   replace om:=om.steps sk
   replace Fa:=Hid.mk_ (Fa.out.steps sk)
   replace Fd:=Hid.mk_ (Fd.out.steps sk)
   replace Fp:=Hid.mk_ (Fp.out.steps sk)
   replace Fs:=Hid.mk_ (Fs.out.steps sk)
   replace Ft:=Hid.mk_ (Ft.out.steps sk)
   replace Fu:=Hid.mk_ (Fu.out.steps sk)
   replace kk:=kk.then_ sk
   clear st sk la cr0 cr1 fr lr ce0 fe le cq0 cq1 lq lm
   have la:=oa.lt
   obtain⟨cr0,cr1,fr,lr⟩:=or.s1
   have ce0:=oe.q0
   have fe:=oe.fr
   have le:=oe.lt
   obtain⟨cq0,cq1⟩:=oq.r1
   have lq:=oq.lt
   have lm:=om.lt
   go_wp2_with fail
   refine leaves_cons (f:=72) (args:=#[.pointer (some ⟨w.heap.size+1+1,0,none⟩)]) (by simp) (by simp[go_sem]) ?_
   refine(fcatch_idle _ _).mono ?_
   rintro e u' w'' ⟨rfl,rfl,rfl⟩
   refine⟨_,by simp[results,Tryz.results50,go_sem,la,cr0,cr1,fr,lr,ce0,fe,le,cq0,cq1,lq,lm]; rfl,?_⟩
   exact⟨_,rfl,by rw[HE.out]; exact Fp.out.keeps keepsB,belowB⟩
  ·
   have dq:decide (Q=0)=false:=decide_eq_false hQ
   obtain⟨b,o,hp2,hn4,-⟩:=lim_ptr (Num.limQ Fp.out) hQ
   obtain⟨u,hu⟩:∃u,absN Q%4294967296=u:=⟨_,rfl⟩
   obtain⟨v,hv⟩:∃v,u%2=v:=⟨_,rfl⟩
   have hpar:u%2=1↔Q%2=1:=by rw[← hu]; unfold absN; omega
   have hand:bits .and .u32 u 1=v:=by rw[← hv]; exact bits_and_one (by rw[← hu]; omega) (by rw[← hu]; omega)
   have Hu:=Hid.mk_ hu
   clear hu
   subst hp2
   obtain⟨cq0,cq1⟩:=oq.r1
   have lq:=oq.lt
   have lm:=om.lt
   by_cases hv1:v=1
   ·
    have HE:=Hid.mk_ (show RR=Q+1 by rw[HB.out,decide_eq_true (show Q%2=1 from hpar.1 (hv.trans hv1))]; rfl)
    have dv:(v==1)=true:=by simp[hv1]
    go_wp2_with fail
    refine((dq▸fzero _ (Fp.out.keeps keepsB))).mono ?_
    rintro e w6 ⟨rfl,hb6⟩
    have st:Steps _ w6:=hb6
    have sk:=bA w5 st
    replace B:=bS B sk
    replace oa:=oa.steps sk
    replace or:=or.steps sk
    replace oe:=oe.steps sk
    replace oq:=oq.steps sk
    replace om:=om.steps sk
    replace Fa:=Hid.mk_ (Fa.out.steps sk)
    replace Fd:=Hid.mk_ (Fd.out.steps sk)
    replace Fp:=Hid.mk_ (Fp.out.steps sk)
    replace Fs:=Hid.mk_ (Fs.out.steps sk)
    replace Ft:=Hid.mk_ (Ft.out.steps sk)
    replace Fu:=Hid.mk_ (Fu.out.steps sk)
    replace kk:=kk.then_ sk
    clear st sk cq0 cq1 lq lm
    obtain⟨cq0,cq1⟩:=oq.r1
    have lq:=oq.lt
    have lm:=om.lt
    have cu2:=lim_cell (Num.limQ Fp.out) hQ
    rw[Hu.out]at cu2
    have zm_6:w3.heap.size+1<w6.heap.size:=om.lt
    have zz6:=B.size
    go_upto_region 7 with fail
    refine Reg.chn (fun N0 D v W=>Below w.heap.size w W∧Keeps w6 W∧N0≤W.heap.size∧Blk W (w.heap.size) 32 #[.bool ga,.slice a2 a3 a4,.bool false,.slice a6 a7 a8]∧Blk W (w.heap.size+1) 30 #[.bool false,.slice none 0 0]∧Blk W (w.heap.size+1+1) 36 #[.int .i64 0]∧((D 6=false→Blk W (w3.heap.size) 30 #[.bool p1,.slice (some ⟨b,o,none⟩) p3 p4])∧(D 6=true→D 5=true∧∃cs,v 5 = .agg cs∧Blk W (w3.heap.size) 30 cs))∧Blk W (w3.heap.size+1) 30 #[.bool s1,.slice s2 s3 s4]) [1,2,5,6] [(1,IsNu),(2,IsNuE 0),(5,IsNu)] [(1,GNu (1)),(2,GNuE (Q+1) 0),(5,GNu (Q+1))] [(2,[(1,some 54)]),(5,[(2,some 55)]),(6,[(5,some 58)]),(7,[(1,some 54),(2,some 55),(5,some 58)])] [(5,[6]),(0,[6])] (fun N0 hN0=>⟨fun v=> ?_,fun D v v' W hv hj=> ?_,fun ops' Q' hops hQ=> ?_⟩)
    · exact⟨belowB,keepsB,leD hN0,ownK,ownK,ownK,⟨fun _=>ownK,(fun h=>Bool.noConfusion h)⟩,ownK⟩
    ·
     obtain⟨j0,jk,jn,b_a,b_r,b_e,b_q,b_m⟩:=hj
     exact⟨j0,jk,jn,b_a,b_r,b_e,⟨b_q.1,fun h=>by obtain⟨d,cs,e,hb⟩:=b_q.2 h; exact⟨d,cs,(hv 5 d)▸e,hb⟩⟩,b_m⟩
    have eN:=hN0.out
    try simp only[World.size_alloc,World.size_setCell,World.size_drew,World.heap_drewN]at eN
    have i_a:w.heap.size<N0:=by first | omega | (have h:=oa.lt; omega)
    have i_r:w.heap.size+1<N0:=by first | omega | (have h:=or.lt; omega)
    have i_e:w.heap.size+1+1<N0:=by first | omega | (have h:=oe.lt; omega)
    have i_q:w3.heap.size<N0:=by first | omega | (have h:=oq.lt; omega)
    have i_m:w3.heap.size+1<N0:=by first | omega | (have h:=om.lt; omega)
    have iw:w.heap.size≤N0:=by first | omega | (have h:=B.size; omega)
    clear cq0 cq1 lq lm
    clear hN0
    apply Reg.RP rfl rfl rfl 53 rfl rfl
    ·
     intro D v' W' hc hj hf K hK
     obtain⟨j0,jk,jn,b_a,b_r,b_e,b_q,b_m⟩:=hj
     have b_q:=b_q.1 (hc.2 6 (by decide))
     obtain⟨c0,c1⟩:=b_q.r1
     go_step
     exact hK.out
    · rfl
    refine Reg.RC_call rfl (tlt rfl) rfl (fun D v' W' hc hj hf K hK=> ?_) ?_
    ·
     obtain⟨j0,jk,jn,b_a,b_r,b_e,b_q,b_m⟩:=hj
     clear hf
     go_step
     refine(fone W').mono ?_
     rintro e W2 ⟨u,rfl,hu,hs⟩
     obtain⟨o1,o2,o3,o4,rfl⟩:=hu.shape
     exact hK.out _ W2 (Keeps.steps hs) ⟨jst j0 hs,jk.then_ hs,jsz jn hs,b_a.steps hs,b_r.steps hs,b_e.steps hs,dS b_q hs,b_m.steps hs⟩ hu ⟨_,_,_,_,rfl⟩
    rintro _ ⟨o1,o2,o3,o4,rfl⟩
    refine Reg.at60 rfl ?_
    refine Reg.RC_call rfl (tlt rfl) rfl (fun D v' W' hc hj hf K hK=> ?_) ?_
    ·
     obtain⟨j0,jk,jn,b_a,b_r,b_e,b_q,b_m⟩:=hj
     have g1:GNu (1) _ W':=(hf (1,some 54) (.head _) rfl).2.2
     have g1:Num W' _ (1):=g1
     clear hf
     go_step
     refine(A1 W' _ _ (Fp.out.keeps jk) g1).mono ?_
     rintro e W2 ⟨u,rfl,hu,hs⟩
     obtain⟨x1,x2,x3,x4,rfl⟩:=hu.shape
     exact hK.out _ W2 (Keeps.steps hs) ⟨jst j0 hs,jk.then_ hs,jsz jn hs,b_a.steps hs,b_r.steps hs,b_e.steps hs,dS b_q hs,b_m.steps hs⟩ ⟨_,rfl,hu⟩ ⟨_,_,_,_,rfl⟩
    rintro _ ⟨x1,x2,x3,x4,rfl⟩
    refine Reg.at60 rfl ?_
    repeat refine Reg.RP0 _ ?_
    refine Reg.RC_call rfl (tlt rfl) rfl (fun D v' W' hc hj hf K hK=> ?_) ?_
    ·
     obtain⟨j0,jk,jn,b_a,b_r,b_e,b_q,b_m⟩:=hj
     have g2:GNuE (Q+1) 0 _ W':=(hf (2,some 55) (.head _) rfl).2.2
     have g2:=g2.get
     clear hf
     go_step
     refine(fmust W' g2).mono ?_
     rintro e W2 ⟨u,rfl,hu,hs⟩
     obtain⟨y1,y2,y3,y4,rfl⟩:=hu.shape
     exact hK.out _ W2 (Keeps.steps hs) ⟨jst j0 hs,jk.then_ hs,jsz jn hs,b_a.steps hs,b_r.steps hs,b_e.steps hs,⟨fun h=>(b_q.1 h).steps hs,fun h=>Bool.noConfusion ((hc.2 6 (by decide)).symm.trans h)⟩,b_m.steps hs⟩ hu ⟨_,_,_,_,rfl⟩
    rintro _ ⟨y1,y2,y3,y4,rfl⟩
    refine Reg.at60 rfl ?_
    refine Reg.RCs (fun D v' W' hc hj hf K hK=> ?_) (fun _ _=>Reg.RC_at (b:=⟨_,_⟩) rfl ?_)
    ·
     obtain⟨j0,jk,jn,b_a,b_r,b_e,b_q,b_m⟩:=hj
     have hb:=b_q.1 hc.1
     have e2:w.heap.size≤w3.heap.size:=by omega
     have fc:=hf (5,some 58) (.head _) rfl
     have ec:v' 5 = .agg #[.bool y1,.slice y2 y3 y4]:=fc.2.1
     have ff:=hb.fr
     obtain⟨cc0,cc1⟩:=hb.r1
     go_step
     exact hK.out undef _ (wr2.k hb) ⟨(wr2.b j0),jk.trans (wr2.k hb),wr2.n jn,(wr2.f b_a),(wr2.f b_r),(wr2.f b_e),⟨fun h=>Bool.noConfusion h,fun _=>⟨fc.1,_,ec,(Blk.st (i:=1) (Blk.st (i:=0) hb))⟩⟩,(wr2.f b_m)⟩ trivial trivial
    refine Reg.RC_end (fun Dn v' w7 hd hj hf=> ?_)
    obtain⟨B,jk,jn,oa,or,oe,b_q,om⟩:=hj
    obtain⟨-,cs_,ee,oq⟩:=b_q.2 (hd 6 (Nat.le_of_ble_eq_true rfl))
    have ef:v' 5 = .agg #[.bool y1,.slice y2 y3 y4]:=(hf (5,some 58) (.tail _ (.tail _ (.head _))) rfl).2.1
    obtain rfl:#[.bool y1,.slice y2 y3 y4]=cs_:=by have:=ef.symm.trans ee; simpa only[Value.tuple.injEq,Value.agg.injEq,Array.mk.injEq,List.cons.injEq,and_true,true_and]using this
    clear b_q ee ef
    have Fo:Hid (Num w7 (.agg #[.bool o1,.slice o2 o3 o4]) (1)):=(hf (1,some 54) (.head _) rfl).2.2
    have Fx:=Hid.mk_ (GNuE.get (z:=Q+1) (e:=0) (v:= .agg #[.bool x1,.slice x2 x3 x4]) (hf (2,some 55) (.tail _ (.head _)) rfl).2.2)
    have Fy:Hid (Num w7 (.agg #[.bool y1,.slice y2 y3 y4]) (Q+1)):=(hf (5,some 58) (.tail _ (.tail _ (.head _))) rfl).2.2
    replace Fa:=Hid.mk_ (Fa.out.keeps jk)
    replace Fd:=Hid.mk_ (Fd.out.keeps jk)
    replace Fp:=Hid.mk_ (Fp.out.keeps jk)
    replace Fs:=Hid.mk_ (Fs.out.keeps jk)
    replace Ft:=Hid.mk_ (Ft.out.keeps jk)
    replace Fu:=Hid.mk_ (Fu.out.keeps jk)
    replace kk:=kk.trans jk
    clear hd hf jk
    refine hQ _ _ ?_
    clear hQ hops Q' ops'
    have la:=oa.lt
    obtain⟨cr0,cr1,fr,lr⟩:=or.s1
    have ce0:=oe.q0
    have fe:=oe.fr
    have le:=oe.lt
    obtain⟨cq0,cq1⟩:=oq.r1
    have lq:=oq.lt
    have lm:=om.lt
    go_wp2_with fail
    refine leaves_cons (f:=72) (args:=#[.pointer (some ⟨w.heap.size+1+1,0,none⟩)]) (by simp) (by simp[go_sem]) ?_
    refine(fcatch_idle _ _).mono ?_
    rintro e u' w'' ⟨rfl,rfl,rfl⟩
    refine⟨_,by simp[results,Tryz.results50,go_sem,la,cr0,cr1,fr,lr,ce0,fe,le,cq0,cq1,lq,lm]; rfl,?_⟩
    exact⟨_,rfl,by rw[HE.out]; exact Fy.out.keeps keepsB,belowB⟩
   ·
    have HE:=Hid.mk_ (show RR=Q by rw[HB.out,decide_eq_false (show ¬Q%2=1 from fun h=>hv1 (hv.symm.trans (hpar.2 h)))]; rfl)
    have dv:(v==1)=false:=by simpa using hv1
    go_wp2_with fail
    refine((dq▸fzero _ (Fp.out.keeps keepsB))).mono ?_
    rintro e w6 ⟨rfl,hb6⟩
    have st:Steps _ w6:=hb6
    have sk:=bA w5 st
    replace B:=bS B sk
    replace oa:=oa.steps sk
    replace or:=or.steps sk
    replace oe:=oe.steps sk
    replace oq:=oq.steps sk
    replace om:=om.steps sk
    replace Fa:=Hid.mk_ (Fa.out.steps sk)
    replace Fd:=Hid.mk_ (Fd.out.steps sk)
    replace Fp:=Hid.mk_ (Fp.out.steps sk)
    replace Fs:=Hid.mk_ (Fs.out.steps sk)
    replace Ft:=Hid.mk_ (Ft.out.steps sk)
    replace Fu:=Hid.mk_ (Fu.out.steps sk)
    replace kk:=kk.then_ sk
    clear st sk cq0 cq1 lq lm
    have la:=oa.lt
    obtain⟨cr0,cr1,fr,lr⟩:=or.s1
    have ce0:=oe.q0
    have fe:=oe.fr
    have le:=oe.lt
    obtain⟨cq0,cq1⟩:=oq.r1
    have lq:=oq.lt
    have lm:=om.lt
    have cu2:=lim_cell (Num.limQ Fp.out) hQ
    rw[Hu.out]at cu2
    go_wp2_with fail
    refine leaves_cons (f:=72) (args:=#[.pointer (some ⟨w.heap.size+1+1,0,none⟩)]) (by simp) (by simp[go_sem]) ?_
    refine(fcatch_idle _ _).mono ?_
    rintro e u' w'' ⟨rfl,rfl,rfl⟩
    refine⟨_,by simp[results,Tryz.results50,go_sem,la,cr0,cr1,fr,lr,ce0,fe,le,cq0,cq1,lq,lm]; rfl,?_⟩
    exact⟨_,rfl,by rw[HE.out]; exact Fp.out.keeps keepsB,belowB⟩
theorem lim_none {w:World} {s:Option Addr} {n c:Nat} (h:Lim w (.slice s n c) (limbs (absN 0))):n=0:=by
 obtain⟨-,e,-,-⟩:=h.cells
 rw[e]
 rfl
theorem rround {va:Value} {r:Rat} {k:Nat} (w:World) (h:FR w va r) (z:sz r k) (hk:k≤4000) :
  Calls Tryz.prog 60 #[va] w fun e w'=>∃v,e = .returned (.tuple #[v,.int .i64 0])∧Num w' v (rndQ r)∧Steps w w':=by
 obtain⟨fQ,fQ1,fM,fMM,fDM,fn,fd⟩:=rnd_sizes z hk
 have d0:=den_pos' r
 have dm:∀w' u v,Num w' u r.num→Num w' v r.den→Calls Tryz.prog 91 #[u,v] w' fun e w2=>∃q s,e = .returned (.tuple #[q,s,.int .i64 0])∧Num w2 q (divF r.num r.den)∧Num w2 s (modF r.num r.den)∧Steps w' w2:=fun w' u v h1 h2=>rdivmod w' h1 h2 fn fd (by omega)
 have CK:∀w' v,FR w' v r→Calls Tryz.prog 90 #[v] w' fun e w2=>e = .returned (.int .i64 0)∧Steps w' w2:=fun w' v h=>rfcheck_q w' h
 have SB:∀w' u v,Num w' u r.den→Num w' v (modF r.num r.den)→Calls Tryz.prog 92 #[u,v] w' fun e w2=>∃v,e = .returned (.tuple #[v,.int .i64 0])∧Num w2 v ((r.den:Int)-modF r.num r.den)∧Steps w' w2:=fun w' u v h1 h2=>rsub_fits w' h1 h2 fd fM fDM
 have CM:∀w' u v,Num w' u (modF r.num r.den)→Num w' v ((r.den:Int)-modF r.num r.den)→Calls Tryz.prog 84 #[u,v] w' fun e w2=>e = .returned (.int .i64 (rndC r))∧Steps w' w2:=fun w' u v h1 h2=>by
  have:=rcompared w' h1 h2 fM fDM
  rwa[rnd_rest]at this
 have A1:∀w' u v,Num w' u (divF r.num r.den)→Num w' v 1→Calls Tryz.prog 93 #[u,v] w' fun e w2=>∃v,e = .returned (.tuple #[v,.int .i64 0])∧Num w2 v (divF r.num r.den+1)∧Steps w' w2:=fun w' u v h1 h2=>radd_fits w' h1 h2 fQ (by decide) fQ1
 have ON:∀w',Calls Tryz.prog 65 #[.int .i64 1] w' fun e w2=>∃v,e = .returned v∧Num w2 v 1∧Steps w' w2:=fun w'=>rfrom 1 w' (by decide) (by decide)
 have Fr:=Hid.mk_ h
 have HB:Hid (rndQ r=if rndB r then divF r.num r.den+1 else divF r.num r.den):=rfl
 unfold rndB at HB
 have hcm : -1≤rndC r∧rndC r≤1:=by unfold rndC cmpI; split<;>(try split)<;>omega
 have CK':=Hid.mk_ (fun w' (k:Keeps w w')=>CK w' va (Fr.out.keeps k))
 clear CK
 obtain⟨a2,a3,a4,a6,a7,a8,rfl,na,da,-⟩:=h.nums
 generalize rndQ r=RR at *
 generalize rndC r=c at *
 generalize divF r.num r.den=Q at *
 generalize modF r.num r.den=M at *
 generalize (r.den:Int)=D at *
 generalize r.num=P at *
 generalize decide (r<0)=ga at *
 have Fa:=Hid.mk_ na
 have Fd:=Hid.mk_ da
 clear Fr na da h z hk d0 fQ fQ1 fM fMM fDM fn fd
 go_enter Tryz.func60,Tryz.ntmps60
 have kk:=Keeps.refl w
 go_wp2_with fail
 refine(CK'.out _ (kk.trans keepsB)).mono ?_
 rintro e w1 ⟨rfl,st⟩
 have B:=bA w st
 have kp:=kB w st
 replace kk:=kk.trans kp
 have oa:Blk w1 (w.heap.size) 32 #[.bool ga,.slice a2 a3 a4,.bool false,.slice a6 a7 a8]:=Blk.stepsK st
 have or:Blk w1 (w.heap.size+1) 30 #[.bool false,.slice none 0 0]:=Blk.stepsK st
 replace Fa:=Hid.mk_ (Fa.out.keeps kp)
 replace Fd:=Hid.mk_ (Fd.out.keeps kp)
 clear kp
 clear st
 obtain⟨ca0,ca1,ca2,ca3⟩:=oa.r3
 have la:=oa.lt
 have lr:=or.lt
 go_wp2_with fail
 refine(dm _ _ _ (Fa.out.keeps keepsB) (Fd.out.keeps keepsB)).mono ?_
 rintro e w2 ⟨vp,vs,rfl,hvp,hvs,st⟩
 have sk:=bA w1 st
 replace B:=bS B sk
 replace oa:=oa.steps sk
 replace or:=or.steps sk
 replace Fa:=Hid.mk_ (Fa.out.steps sk)
 replace Fd:=Hid.mk_ (Fd.out.steps sk)
 replace kk:=kk.then_ sk
 clear st sk ca0 ca1 ca2 ca3 la lr
 obtain⟨ca0,ca1,ca2,ca3⟩:=oa.r3
 have la:=oa.lt
 have lr:=or.lt
 obtain⟨p1,p2,p3,p4,rfl⟩:=hvp.shape
 obtain⟨s1,s2,s3,s4,rfl⟩:=hvs.shape
 have Fp:=Hid.mk_ hvp
 clear hvp
 have Fs:=Hid.mk_ hvs
 clear hvs
 have zr_2:w.heap.size+1<w2.heap.size:=or.lt
 have zz2:=B.size
 go_wp2_with fail
 refine(SB _ _ _ (Fd.out.keeps keepsB) (Fs.out.keeps keepsB)).mono ?_
 rintro e w3 ⟨vt,rfl,hvt,st⟩
 have sk:=bA w2 st
 replace B:=bS B sk
 have oq:Blk w3 (w2.heap.size) 30 #[.bool p1,.slice p2 p3 p4]:=Blk.stepsK st
 have om:Blk w3 (w2.heap.size+1) 30 #[.bool s1,.slice s2 s3 s4]:=Blk.stepsK st
 replace oa:=oa.steps sk
 replace or:=or.steps sk
 replace Fa:=Hid.mk_ (Fa.out.steps sk)
 replace Fd:=Hid.mk_ (Fd.out.steps sk)
 replace Fp:=Hid.mk_ (Fp.out.steps sk)
 replace Fs:=Hid.mk_ (Fs.out.steps sk)
 replace kk:=kk.then_ sk
 clear st sk ca0 ca1 ca2 ca3 la lr
 have lq:=oq.lt
 obtain⟨cm0,cm1⟩:=om.r1
 have lm:=om.lt
 obtain⟨t1,t2,t3,t4,rfl⟩:=hvt.shape
 have Ft:=Hid.mk_ hvt
 clear hvt
 have zm_3:w2.heap.size+1<w3.heap.size:=om.lt
 have zz3:=B.size
 go_wp2_with fail
 refine(CM _ _ _ (Fs.out.keeps keepsB) (Ft.out.keeps keepsB)).mono ?_
 rintro e w4 ⟨rfl,st⟩
 have sk:=bA w3 st
 replace B:=bS B sk
 have on:Blk w4 (w3.heap.size) 30 #[.bool t1,.slice t2 t3 t4]:=Blk.stepsK st
 replace oa:=oa.steps sk
 replace or:=or.steps sk
 replace oq:=oq.steps sk
 replace om:=om.steps sk
 replace Fa:=Hid.mk_ (Fa.out.steps sk)
 replace Fd:=Hid.mk_ (Fd.out.steps sk)
 replace Fp:=Hid.mk_ (Fp.out.steps sk)
 replace Fs:=Hid.mk_ (Fs.out.steps sk)
 replace Ft:=Hid.mk_ (Ft.out.steps sk)
 replace kk:=kk.then_ sk
 clear st sk lq cm0 cm1 lm
 by_cases hQ:Q=0
 ·
  obtain rfl:p3=0:=lim_none (show Lim _ (.slice p2 p3 p4) _ from hQ▸Num.limQ Fp.out)
  have la:=oa.lt
  obtain⟨cr0,cr1,fr,lr⟩:=or.s1
  obtain⟨cq0,cq1⟩:=oq.r1
  have lq:=oq.lt
  have lm:=om.lt
  rcases(show 0<c∨c<0∨c=0 by omega)with h1 | h1 | h1
  ·
   have HE:=Hid.mk_ (show RR=Q+1 by rw[HB.out,decide_eq_true h1]; rfl)
   have d1:decide (0<c)=true:=decide_eq_true h1
   have zn_4:w3.heap.size<w4.heap.size:=on.lt
   have zz4:=B.size
   go_upto_region 10 with fail
   refine Reg.chn (fun N0 D v W=>Below w.heap.size w W∧Keeps w4 W∧N0≤W.heap.size∧Blk W (w.heap.size) 32 #[.bool ga,.slice a2 a3 a4,.bool false,.slice a6 a7 a8]∧((D 5=false→Blk W (w.heap.size+1) 30 #[.bool false,.slice none 0 0])∧(D 5=true→D 2=true∧∃cs,v 2 = .tuple #[.agg cs,.int .i64 0]∧Blk W (w.heap.size+1) 30 cs))∧Blk W (w2.heap.size) 30 #[.bool p1,.slice p2 0 p4]∧Blk W (w2.heap.size+1) 30 #[.bool s1,.slice s2 s3 s4]∧Blk W (w3.heap.size) 30 #[.bool t1,.slice t2 t3 t4]) [1,2,5] [(1,IsNu),(2,IsNuE 0)] [(1,GNu (1)),(2,GNuE (Q+1) 0)] [(2,[(1,some 62)]),(5,[(2,some 63)]),(7,[(1,some 62),(2,some 63)])] [(2,[5])] (fun N0 hN0=>⟨fun v=> ?_,fun D v v' W hv hj=> ?_,fun ops' Q' hops hQ=> ?_⟩)
   · exact⟨belowB,keepsB,leD hN0,ownK,⟨fun _=>ownK,(fun h=>Bool.noConfusion h)⟩,ownK,ownK,ownK⟩
   ·
    obtain⟨j0,jk,jn,b_a,b_r,b_q,b_m,b_n⟩:=hj
    exact⟨j0,jk,jn,b_a,⟨b_r.1,fun h=>by obtain⟨d,cs,e,hb⟩:=b_r.2 h; exact⟨d,cs,(hv 2 d)▸e,hb⟩⟩,b_q,b_m,b_n⟩
   have eN:=hN0.out
   try simp only[World.size_alloc,World.size_setCell,World.size_drew,World.heap_drewN]at eN
   have i_a:w.heap.size<N0:=by first | omega | (have h:=oa.lt; omega)
   have i_r:w.heap.size+1<N0:=by first | omega | (have h:=or.lt; omega)
   have i_q:w2.heap.size<N0:=by first | omega | (have h:=oq.lt; omega)
   have i_m:w2.heap.size+1<N0:=by first | omega | (have h:=om.lt; omega)
   have i_n:w3.heap.size<N0:=by first | omega | (have h:=on.lt; omega)
   have iw:w.heap.size≤N0:=by first | omega | (have h:=B.size; omega)
   clear la cr0 cr1 fr lr cq0 cq1 lq lm
   clear hN0
   refine Reg.RPf 61 (fun _ _ _ h=>h.2.2.2.2.2.1.r1) ?_
   refine Reg.RC_call rfl (tlt rfl) rfl (fun D v' W' hc hj hf K hK=> ?_) ?_
   ·
    obtain⟨j0,jk,jn,b_a,b_r,b_q,b_m,b_n⟩:=hj
    clear hf
    go_step
    refine(ON W').mono ?_
    rintro e W2 ⟨u,rfl,hu,hs⟩
    obtain⟨o1,o2,o3,o4,rfl⟩:=hu.shape
    exact hK.out _ W2 (Keeps.steps hs) ⟨jst j0 hs,jk.then_ hs,jsz jn hs,b_a.steps hs,dS b_r hs,b_q.steps hs,b_m.steps hs,b_n.steps hs⟩ hu ⟨_,_,_,_,rfl⟩
   rintro _ ⟨o1,o2,o3,o4,rfl⟩
   refine Reg.at67 rfl ?_
   refine Reg.RC_call rfl (tlt rfl) rfl (fun D v' W' hc hj hf K hK=> ?_) ?_
   ·
    obtain⟨j0,jk,jn,b_a,b_r,b_q,b_m,b_n⟩:=hj
    have g1:GNu (1) _ W':=(hf (1,some 62) (.head _) rfl).2.2
    have g1:Num W' _ (1):=g1
    clear hf
    go_step
    refine(A1 W' _ _ (Fp.out.keeps jk) g1).mono ?_
    rintro e W2 ⟨u,rfl,hu,hs⟩
    obtain⟨x1,x2,x3,x4,rfl⟩:=hu.shape
    exact hK.out _ W2 (Keeps.steps hs) ⟨jst j0 hs,jk.then_ hs,jsz jn hs,b_a.steps hs,⟨fun h=>(b_r.1 h).steps hs,fun h=>Bool.noConfusion ((hc.2 5 (by decide)).symm.trans h)⟩,b_q.steps hs,b_m.steps hs,b_n.steps hs⟩ ⟨_,rfl,hu⟩ ⟨_,_,_,_,rfl⟩
   rintro _ ⟨x1,x2,x3,x4,rfl⟩
   refine Reg.at67 rfl ?_
   repeat refine Reg.RP0 _ ?_
   refine Reg.RCs (fun D v' W' hc hj hf K hK=> ?_) (fun _ _=>Reg.RC_at (b:=⟨_,_⟩) rfl ?_)
   ·
    obtain⟨j0,jk,jn,b_a,b_r,b_q,b_m,b_n⟩:=hj
    have hb:=b_r.1 hc.1
    have e2:w.heap.size≤w.heap.size+1:=by omega
    have fc:=hf (2,some 63) (.head _) rfl
    have ec:v' 2 = .tuple #[.agg #[.bool x1,.slice x2 x3 x4],.int .i64 0]:=fc.2.1
    have ff:=hb.fr
    obtain⟨cc0,cc1⟩:=hb.r1
    go_step
    exact hK.out undef _ (wr2.k hb) ⟨(wr2.b j0),jk.trans (wr2.k hb),wr2.n jn,(wr2.f b_a),⟨fun h=>Bool.noConfusion h,fun _=>⟨fc.1,_,ec,(Blk.st (i:=1) (Blk.st (i:=0) hb))⟩⟩,(wr2.f b_q),(wr2.f b_m),(wr2.f b_n)⟩ trivial trivial
   refine Reg.RP0 3 ?_
   refine Reg.RC_end (fun Dn v' w5 hd hj hf=> ?_)
   obtain⟨B,jk,jn,oa,b_r,oq,om,on⟩:=hj
   obtain⟨-,cs_,ee,or⟩:=b_r.2 (hd 5 (Nat.le_of_ble_eq_true rfl))
   have ef:v' 2 = .tuple #[.agg #[.bool x1,.slice x2 x3 x4],.int .i64 0]:=(hf (2,some 63) (.tail _ (.head _)) rfl).2.1
   obtain rfl:#[.bool x1,.slice x2 x3 x4]=cs_:=by have:=ef.symm.trans ee; simpa only[Value.tuple.injEq,Value.agg.injEq,Array.mk.injEq,List.cons.injEq,and_true,true_and]using this
   clear b_r ee ef
   have Fo:Hid (Num w5 (.agg #[.bool o1,.slice o2 o3 o4]) (1)):=(hf (1,some 62) (.head _) rfl).2.2
   have Fx:=Hid.mk_ (GNuE.get (z:=Q+1) (e:=0) (v:= .agg #[.bool x1,.slice x2 x3 x4]) (hf (2,some 63) (.tail _ (.head _)) rfl).2.2)
   replace Fa:=Hid.mk_ (Fa.out.keeps jk)
   replace Fd:=Hid.mk_ (Fd.out.keeps jk)
   replace Fp:=Hid.mk_ (Fp.out.keeps jk)
   replace Fs:=Hid.mk_ (Fs.out.keeps jk)
   replace Ft:=Hid.mk_ (Ft.out.keeps jk)
   replace kk:=kk.trans jk
   clear hd hf jk
   refine hQ _ _ ?_
   clear hQ hops Q' ops'
   have la:=oa.lt
   obtain⟨cr0,cr1⟩:=or.r1
   have lr:=or.lt
   go_wp2_with fail
   refine bodyPost_ret (by simp[results,Tryz.results60,go_sem,la,cr0,cr1,lr]; rfl) rfl ?_
   exact⟨_,rfl,by rw[HE.out]; exact Fx.out.keeps keepsB,belowB⟩
  ·
   have HE:=Hid.mk_ (show RR=Q by rw[HB.out,decide_eq_false (show ¬0<c by omega),decide_eq_false (show ¬c=0 by omega)]; rfl)
   have d1:decide (0<c)=false:=decide_eq_false (by omega)
   have d2:(c==0)=false:=by simp; omega
   go_wp2_with fail
   refine bodyPost_ret (by simp[results,Tryz.results60,go_sem,la,cr0,cr1,fr,lr,cq0,cq1,lq,lm]; rfl) rfl ?_
   exact⟨_,rfl,by rw[HE.out]; exact Fp.out.keeps keepsB,belowB⟩
  ·
   subst h1
   have HE:=Hid.mk_ (show RR=Q by rw[HB.out,hQ]; rfl)
   go_wp2_with fail
   refine bodyPost_ret (by simp[results,Tryz.results60,go_sem,la,cr0,cr1,fr,lr,cq0,cq1,lq,lm]; rfl) rfl ?_
   exact⟨_,rfl,by rw[HE.out]; exact Fp.out.keeps keepsB,belowB⟩
 ·
  obtain⟨b,o,hp2,hn4,hcu⟩:=lim_ptr (Num.limQ Fp.out) hQ
  have hn5:¬(p3:Int)≤0:=by omega
  obtain⟨u,hu⟩:∃u,absN Q%4294967296=u:=⟨_,rfl⟩
  obtain⟨v,hv⟩:∃v,u%2=v:=⟨_,rfl⟩
  have hpar:u%2=1↔Q%2=1:=by rw[← hu]; unfold absN; omega
  have u0:0≤u:=by rw[← hu]; omega
  have u1:u<4294967296:=by rw[← hu]; omega
  rw[hu]at hcu
  clear hu
  have hrem:Int.tmod u 2=v:=by rw[← hv,Int.tmod_eq_emod_of_nonneg u0]
  subst hp2
  have la:=oa.lt
  obtain⟨cr0,cr1,fr,lr⟩:=or.s1
  obtain⟨cq0,cq1⟩:=oq.r1
  have lq:=oq.lt
  have lm:=om.lt
  by_cases hv1:v=1
  ·
   have dv:(v==1)=true:=by simp[hv1]
   rcases(show 0<c∨c<0∨c=0 by omega)with h1 | h1 | h1
   focus
    have HE:=Hid.mk_ (show RR=Q+1 by rw[HB.out,decide_eq_true h1]; rfl)
    have d1:decide (0<c)=true:=decide_eq_true h1
   rotate_left
   ·
    have HE:=Hid.mk_ (show RR=Q by rw[HB.out,decide_eq_false (show ¬0<c by omega),decide_eq_false (show ¬c=0 by omega)]; rfl)
    have d1:decide (0<c)=false:=decide_eq_false (by omega)
    have d2:(c==0)=false:=by simp; omega
    go_wp2_with fail
    refine bodyPost_ret (by simp[results,Tryz.results60,go_sem,la,cr0,cr1,fr,lr,cq0,cq1,lq,lm]; rfl) rfl ?_
    exact⟨_,rfl,by rw[HE.out]; exact Fp.out.keeps keepsB,belowB⟩
   focus
    subst h1
    have HE:=Hid.mk_ (show RR=Q+1 by rw[HB.out,decide_eq_true (show Q%2=1 from hpar.1 (hv.trans hv1))]; rfl)
   rotate_left
   all_goals
    have zn_4:w3.heap.size<w4.heap.size:=on.lt
    have zz4:=B.size
    go_upto_region 10 with fail
    refine Reg.chn (fun N0 D v W=>Below w.heap.size w W∧Keeps w4 W∧N0≤W.heap.size∧Blk W (w.heap.size) 32 #[.bool ga,.slice a2 a3 a4,.bool false,.slice a6 a7 a8]∧((D 5=false→Blk W (w.heap.size+1) 30 #[.bool false,.slice none 0 0])∧(D 5=true→D 2=true∧∃cs,v 2 = .tuple #[.agg cs,.int .i64 0]∧Blk W (w.heap.size+1) 30 cs))∧Blk W (w2.heap.size) 30 #[.bool p1,.slice (some ⟨b,o,none⟩) p3 p4]∧Blk W (w2.heap.size+1) 30 #[.bool s1,.slice s2 s3 s4]∧Blk W (w3.heap.size) 30 #[.bool t1,.slice t2 t3 t4]) [1,2,5] [(1,IsNu),(2,IsNuE 0)] [(1,GNu (1)),(2,GNuE (Q+1) 0)] [(2,[(1,some 62)]),(5,[(2,some 63)]),(7,[(1,some 62),(2,some 63)])] [(2,[5])] (fun N0 hN0=>⟨fun v=> ?_,fun D v v' W hv hj=> ?_,fun ops' Q' hops hQ=> ?_⟩)
    · exact⟨belowB,keepsB,leD hN0,ownK,⟨fun _=>ownK,(fun h=>Bool.noConfusion h)⟩,ownK,ownK,ownK⟩
    ·
     obtain⟨j0,jk,jn,b_a,b_r,b_q,b_m,b_n⟩:=hj
     exact⟨j0,jk,jn,b_a,⟨b_r.1,fun h=>by obtain⟨d,cs,e,hb⟩:=b_r.2 h; exact⟨d,cs,(hv 2 d)▸e,hb⟩⟩,b_q,b_m,b_n⟩
    have eN:=hN0.out
    try simp only[World.size_alloc,World.size_setCell,World.size_drew,World.heap_drewN]at eN
    have i_a:w.heap.size<N0:=by first | omega | (have h:=oa.lt; omega)
    have i_r:w.heap.size+1<N0:=by first | omega | (have h:=or.lt; omega)
    have i_q:w2.heap.size<N0:=by first | omega | (have h:=oq.lt; omega)
    have i_m:w2.heap.size+1<N0:=by first | omega | (have h:=om.lt; omega)
    have i_n:w3.heap.size<N0:=by first | omega | (have h:=on.lt; omega)
    have iw:w.heap.size≤N0:=by first | omega | (have h:=B.size; omega)
    clear la cr0 cr1 fr lr cq0 cq1 lq lm
    clear hN0
    refine Reg.RPf 61 (fun _ _ _ h=>h.2.2.2.2.2.1.r1) ?_
    refine Reg.RC_call rfl (tlt rfl) rfl (fun D v' W' hc hj hf K hK=> ?_) ?_
    ·
     obtain⟨j0,jk,jn,b_a,b_r,b_q,b_m,b_n⟩:=hj
     clear hf
     go_step
     refine(ON W').mono ?_
     rintro e W2 ⟨u,rfl,hu,hs⟩
     obtain⟨o1,o2,o3,o4,rfl⟩:=hu.shape
     exact hK.out _ W2 (Keeps.steps hs) ⟨jst j0 hs,jk.then_ hs,jsz jn hs,b_a.steps hs,dS b_r hs,b_q.steps hs,b_m.steps hs,b_n.steps hs⟩ hu ⟨_,_,_,_,rfl⟩
    rintro _ ⟨o1,o2,o3,o4,rfl⟩
    refine Reg.at67 rfl ?_
    refine Reg.RC_call rfl (tlt rfl) rfl (fun D v' W' hc hj hf K hK=> ?_) ?_
    ·
     obtain⟨j0,jk,jn,b_a,b_r,b_q,b_m,b_n⟩:=hj
     have g1:GNu (1) _ W':=(hf (1,some 62) (.head _) rfl).2.2
     have g1:Num W' _ (1):=g1
     clear hf
     go_step
     refine(A1 W' _ _ (Fp.out.keeps jk) g1).mono ?_
     rintro e W2 ⟨u,rfl,hu,hs⟩
     obtain⟨x1,x2,x3,x4,rfl⟩:=hu.shape
     exact hK.out _ W2 (Keeps.steps hs) ⟨jst j0 hs,jk.then_ hs,jsz jn hs,b_a.steps hs,⟨fun h=>(b_r.1 h).steps hs,fun h=>Bool.noConfusion ((hc.2 5 (by decide)).symm.trans h)⟩,b_q.steps hs,b_m.steps hs,b_n.steps hs⟩ ⟨_,rfl,hu⟩ ⟨_,_,_,_,rfl⟩
    rintro _ ⟨x1,x2,x3,x4,rfl⟩
    refine Reg.at67 rfl ?_
    repeat refine Reg.RP0 _ ?_
    refine Reg.RCs (fun D v' W' hc hj hf K hK=> ?_) (fun _ _=>Reg.RC_at (b:=⟨_,_⟩) rfl ?_)
    ·
     obtain⟨j0,jk,jn,b_a,b_r,b_q,b_m,b_n⟩:=hj
     have hb:=b_r.1 hc.1
     have e2:w.heap.size≤w.heap.size+1:=by omega
     have fc:=hf (2,some 63) (.head _) rfl
     have ec:v' 2 = .tuple #[.agg #[.bool x1,.slice x2 x3 x4],.int .i64 0]:=fc.2.1
     have ff:=hb.fr
     obtain⟨cc0,cc1⟩:=hb.r1
     go_step
     exact hK.out undef _ (wr2.k hb) ⟨(wr2.b j0),jk.trans (wr2.k hb),wr2.n jn,(wr2.f b_a),⟨fun h=>Bool.noConfusion h,fun _=>⟨fc.1,_,ec,(Blk.st (i:=1) (Blk.st (i:=0) hb))⟩⟩,(wr2.f b_q),(wr2.f b_m),(wr2.f b_n)⟩ trivial trivial
    refine Reg.RP0 3 ?_
    refine Reg.RC_end (fun Dn v' w5 hd hj hf=> ?_)
    obtain⟨B,jk,jn,oa,b_r,oq,om,on⟩:=hj
    obtain⟨-,cs_,ee,or⟩:=b_r.2 (hd 5 (Nat.le_of_ble_eq_true rfl))
    have ef:v' 2 = .tuple #[.agg #[.bool x1,.slice x2 x3 x4],.int .i64 0]:=(hf (2,some 63) (.tail _ (.head _)) rfl).2.1
    obtain rfl:#[.bool x1,.slice x2 x3 x4]=cs_:=by have:=ef.symm.trans ee; simpa only[Value.tuple.injEq,Value.agg.injEq,Array.mk.injEq,List.cons.injEq,and_true,true_and]using this
    clear b_r ee ef
    have Fo:Hid (Num w5 (.agg #[.bool o1,.slice o2 o3 o4]) (1)):=(hf (1,some 62) (.head _) rfl).2.2
    have Fx:=Hid.mk_ (GNuE.get (z:=Q+1) (e:=0) (v:= .agg #[.bool x1,.slice x2 x3 x4]) (hf (2,some 63) (.tail _ (.head _)) rfl).2.2)
    replace Fa:=Hid.mk_ (Fa.out.keeps jk)
    replace Fd:=Hid.mk_ (Fd.out.keeps jk)
    replace Fp:=Hid.mk_ (Fp.out.keeps jk)
    replace Fs:=Hid.mk_ (Fs.out.keeps jk)
    replace Ft:=Hid.mk_ (Ft.out.keeps jk)
    replace kk:=kk.trans jk
    clear hd hf jk
    refine hQ _ _ ?_
    clear hQ hops Q' ops'
    have la:=oa.lt
    obtain⟨cr0,cr1⟩:=or.r1
    have lr:=or.lt
    go_wp2_with fail
    refine bodyPost_ret (by simp[results,Tryz.results60,go_sem,la,cr0,cr1,lr]; rfl) rfl ?_
    exact⟨_,rfl,by rw[HE.out]; exact Fx.out.keeps keepsB,belowB⟩
  ·
   have dv:(v==1)=false:=by simpa using hv1
   rcases(show 0<c∨c<0∨c=0 by omega)with h1 | h1 | h1
   ·
    have HE:=Hid.mk_ (show RR=Q+1 by rw[HB.out,decide_eq_true h1]; rfl)
    have d1:decide (0<c)=true:=decide_eq_true h1
    have zn_4:w3.heap.size<w4.heap.size:=on.lt
    have zz4:=B.size
    go_upto_region 10 with fail
    refine Reg.chn (fun N0 D v W=>Below w.heap.size w W∧Keeps w4 W∧N0≤W.heap.size∧Blk W (w.heap.size) 32 #[.bool ga,.slice a2 a3 a4,.bool false,.slice a6 a7 a8]∧((D 5=false→Blk W (w.heap.size+1) 30 #[.bool false,.slice none 0 0])∧(D 5=true→D 2=true∧∃cs,v 2 = .tuple #[.agg cs,.int .i64 0]∧Blk W (w.heap.size+1) 30 cs))∧Blk W (w2.heap.size) 30 #[.bool p1,.slice (some ⟨b,o,none⟩) p3 p4]∧Blk W (w2.heap.size+1) 30 #[.bool s1,.slice s2 s3 s4]∧Blk W (w3.heap.size) 30 #[.bool t1,.slice t2 t3 t4]) [1,2,5] [(1,IsNu),(2,IsNuE 0)] [(1,GNu (1)),(2,GNuE (Q+1) 0)] [(2,[(1,some 62)]),(5,[(2,some 63)]),(7,[(1,some 62),(2,some 63)])] [(2,[5])] (fun N0 hN0=>⟨fun v=> ?_,fun D v v' W hv hj=> ?_,fun ops' Q' hops hQ=> ?_⟩)
    · exact⟨belowB,keepsB,leD hN0,ownK,⟨fun _=>ownK,(fun h=>Bool.noConfusion h)⟩,ownK,ownK,ownK⟩
    ·
     obtain⟨j0,jk,jn,b_a,b_r,b_q,b_m,b_n⟩:=hj
     exact⟨j0,jk,jn,b_a,⟨b_r.1,fun h=>by obtain⟨d,cs,e,hb⟩:=b_r.2 h; exact⟨d,cs,(hv 2 d)▸e,hb⟩⟩,b_q,b_m,b_n⟩
    have eN:=hN0.out
    try simp only[World.size_alloc,World.size_setCell,World.size_drew,World.heap_drewN]at eN
    have i_a:w.heap.size<N0:=by first | omega | (have h:=oa.lt; omega)
    have i_r:w.heap.size+1<N0:=by first | omega | (have h:=or.lt; omega)
    have i_q:w2.heap.size<N0:=by first | omega | (have h:=oq.lt; omega)
    have i_m:w2.heap.size+1<N0:=by first | omega | (have h:=om.lt; omega)
    have i_n:w3.heap.size<N0:=by first | omega | (have h:=on.lt; omega)
    have iw:w.heap.size≤N0:=by first | omega | (have h:=B.size; omega)
    clear la cr0 cr1 fr lr cq0 cq1 lq lm
    clear hN0
    refine Reg.RPf 61 (fun _ _ _ h=>h.2.2.2.2.2.1.r1) ?_
    refine Reg.RC_call rfl (tlt rfl) rfl (fun D v' W' hc hj hf K hK=> ?_) ?_
    ·
     obtain⟨j0,jk,jn,b_a,b_r,b_q,b_m,b_n⟩:=hj
     clear hf
     go_step
     refine(ON W').mono ?_
     rintro e W2 ⟨u,rfl,hu,hs⟩
     obtain⟨o1,o2,o3,o4,rfl⟩:=hu.shape
     exact hK.out _ W2 (Keeps.steps hs) ⟨jst j0 hs,jk.then_ hs,jsz jn hs,b_a.steps hs,dS b_r hs,b_q.steps hs,b_m.steps hs,b_n.steps hs⟩ hu ⟨_,_,_,_,rfl⟩
    rintro _ ⟨o1,o2,o3,o4,rfl⟩
    refine Reg.at67 rfl ?_
    refine Reg.RC_call rfl (tlt rfl) rfl (fun D v' W' hc hj hf K hK=> ?_) ?_
    ·
     obtain⟨j0,jk,jn,b_a,b_r,b_q,b_m,b_n⟩:=hj
     have g1:GNu (1) _ W':=(hf (1,some 62) (.head _) rfl).2.2
     have g1:Num W' _ (1):=g1
     clear hf
     go_step
     refine(A1 W' _ _ (Fp.out.keeps jk) g1).mono ?_
     rintro e W2 ⟨u,rfl,hu,hs⟩
     obtain⟨x1,x2,x3,x4,rfl⟩:=hu.shape
     exact hK.out _ W2 (Keeps.steps hs) ⟨jst j0 hs,jk.then_ hs,jsz jn hs,b_a.steps hs,⟨fun h=>(b_r.1 h).steps hs,fun h=>Bool.noConfusion ((hc.2 5 (by decide)).symm.trans h)⟩,b_q.steps hs,b_m.steps hs,b_n.steps hs⟩ ⟨_,rfl,hu⟩ ⟨_,_,_,_,rfl⟩
    rintro _ ⟨x1,x2,x3,x4,rfl⟩
    refine Reg.at67 rfl ?_
    repeat refine Reg.RP0 _ ?_
    refine Reg.RCs (fun D v' W' hc hj hf K hK=> ?_) (fun _ _=>Reg.RC_at (b:=⟨_,_⟩) rfl ?_)
    ·
     obtain⟨j0,jk,jn,b_a,b_r,b_q,b_m,b_n⟩:=hj
     have hb:=b_r.1 hc.1
     have e2:w.heap.size≤w.heap.size+1:=by omega
     have fc:=hf (2,some 63) (.head _) rfl
     have ec:v' 2 = .tuple #[.agg #[.bool x1,.slice x2 x3 x4],.int .i64 0]:=fc.2.1
     have ff:=hb.fr
     obtain⟨cc0,cc1⟩:=hb.r1
     go_step
     exact hK.out undef _ (wr2.k hb) ⟨(wr2.b j0),jk.trans (wr2.k hb),wr2.n jn,(wr2.f b_a),⟨fun h=>Bool.noConfusion h,fun _=>⟨fc.1,_,ec,(Blk.st (i:=1) (Blk.st (i:=0) hb))⟩⟩,(wr2.f b_q),(wr2.f b_m),(wr2.f b_n)⟩ trivial trivial
    refine Reg.RP0 3 ?_
    refine Reg.RC_end (fun Dn v' w5 hd hj hf=> ?_)
    obtain⟨B,jk,jn,oa,b_r,oq,om,on⟩:=hj
    obtain⟨-,cs_,ee,or⟩:=b_r.2 (hd 5 (Nat.le_of_ble_eq_true rfl))
    have ef:v' 2 = .tuple #[.agg #[.bool x1,.slice x2 x3 x4],.int .i64 0]:=(hf (2,some 63) (.tail _ (.head _)) rfl).2.1
    obtain rfl:#[.bool x1,.slice x2 x3 x4]=cs_:=by have:=ef.symm.trans ee; simpa only[Value.tuple.injEq,Value.agg.injEq,Array.mk.injEq,List.cons.injEq,and_true,true_and]using this
    clear b_r ee ef
    have Fo:Hid (Num w5 (.agg #[.bool o1,.slice o2 o3 o4]) (1)):=(hf (1,some 62) (.head _) rfl).2.2
    have Fx:=Hid.mk_ (GNuE.get (z:=Q+1) (e:=0) (v:= .agg #[.bool x1,.slice x2 x3 x4]) (hf (2,some 63) (.tail _ (.head _)) rfl).2.2)
    replace Fa:=Hid.mk_ (Fa.out.keeps jk)
    replace Fd:=Hid.mk_ (Fd.out.keeps jk)
    replace Fp:=Hid.mk_ (Fp.out.keeps jk)
    replace Fs:=Hid.mk_ (Fs.out.keeps jk)
    replace Ft:=Hid.mk_ (Ft.out.keeps jk)
    replace kk:=kk.trans jk
    clear hd hf jk
    refine hQ _ _ ?_
    clear hQ hops Q' ops'
    have la:=oa.lt
    obtain⟨cr0,cr1⟩:=or.r1
    have lr:=or.lt
    go_wp2_with fail
    refine bodyPost_ret (by simp[results,Tryz.results60,go_sem,la,cr0,cr1,lr]; rfl) rfl ?_
    exact⟨_,rfl,by rw[HE.out]; exact Fx.out.keeps keepsB,belowB⟩
   ·
    have HE:=Hid.mk_ (show RR=Q by rw[HB.out,decide_eq_false (show ¬0<c by omega),decide_eq_false (show ¬c=0 by omega)]; rfl)
    have d1:decide (0<c)=false:=decide_eq_false (by omega)
    have d2:(c==0)=false:=by simp; omega
    go_wp2_with fail
    refine bodyPost_ret (by simp[results,Tryz.results60,go_sem,la,cr0,cr1,fr,lr,cq0,cq1,lq,lm]; rfl) rfl ?_
    exact⟨_,rfl,by rw[HE.out]; exact Fp.out.keeps keepsB,belowB⟩
   ·
    subst h1
    have HE:=Hid.mk_ (show RR=Q by rw[HB.out,decide_eq_false (show ¬Q%2=1 from fun h=>hv1 (hv.symm.trans (hpar.2 h)))]; rfl)
    go_wp2_with fail
    refine bodyPost_ret (by simp[results,Tryz.results60,go_sem,la,cr0,cr1,fr,lr,cq0,cq1,lq,lm]; rfl) rfl ?_
    exact⟨_,rfl,by rw[HE.out]; exact Fp.out.keeps keepsB,belowB⟩
end Go.Proofs.YtdkcffnmlllamaaGreat
