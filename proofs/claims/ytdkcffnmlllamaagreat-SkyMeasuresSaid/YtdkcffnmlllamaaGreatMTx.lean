import Derived.Test.YtdkcffnmlllamaaGreatMTw
import Derived.Test.YtdkcffnmlllamaaGreatMNg
set_option linter.unusedVariables false
set_option linter.unusedSimpArgs false
set_option maxHeartbeats 6400000
set_option maxRecDepth 1000000
namespace Go.Proofs.YtdkcffnmlllamaaGreat
open Go.RowKit
theorem wSub {va vb:Value} {x y:Int} (w:World) (ha:Num w va x) (hb:Num w vb y) (fx:fits x) (fy:fits y) :
  Calls Tryz.prog 133 #[va,vb] w fun e w'=>∃v,e = .returned (.tuple #[v,.int .i64 (errN (x-y))])∧Num w' v (clipN (x-y))∧Steps w w':=by
 have ck:∀ (w':World) (q:Nat) (aa ab:Option Addr) (ca cb:Nat),Blk w' q 30 #[.bool (decide (x<0)),.slice aa (limbs (absN x)).length ca,.bool (decide (y<0)),.slice ab (limbs (absN y)).length cb]→Lim w' (.slice aa (limbs (absN x)).length ca) (limbs (absN x))→Lim w' (.slice ab (limbs (absN y)).length cb) (limbs (absN y))→
   Calls Tryz.prog 81 #[.slice (some ⟨q,0,none⟩) 2 2] w' fun e w2=>e = .returned (.int .i64 0)∧Steps w' w2:=fun w' q aa ab ca cb hb h1 h2=>wcheck2_ok w' hb h1 h2 fx fy
 obtain⟨ab,cb,rfl,pb⟩:=hb.parts
 have en:absN (-y)=absN y:=by unfold absN; omega
 have ad:∀w',Steps w w'→Calls Tryz.prog 117 #[va,.agg #[.bool (!decide (y<0)),.slice ab (limbs (absN y)).length cb]] w' fun e w2=>∃v,e = .returned (.tuple #[v,.int .i64 (errN (x-y))])∧Num w2 v (clipN (x-y))∧Steps w' w2:=fun w' h=>by
  have:=wadd_any (y:= -y) (gy:= !decide (y<0)) w' (ha.steps h) (by rw[en]; exact pb.steps h) (by
   rcases Int.lt_trichotomy y 0 with h | h | h
   · right; rw[decide_eq_true h,decide_eq_false (by omega)]; rfl
   · left; omega
   · right; rw[decide_eq_false (show ¬y<0 by omega),decide_eq_true (by omega)]; rfl) fx (by unfold fits; rw[en]; exact fy)
  rw[← Int.sub_eq_add_neg]at this
  exact this
 obtain⟨aa,ca,rfl,pa⟩:=ha.parts
 have ck':=fun(w':World) (q:Nat)=>ck w' q aa ab ca cb
 obtain⟨n,hn⟩:∃n,(limbs (absN x)).length=n:=⟨_,rfl⟩
 obtain⟨m,hm⟩:∃m,(limbs (absN y)).length=m:=⟨_,rfl⟩
 rw[hn]at pa ad⊢
 rw[hm]at pb ad⊢
 simp only[hn,hm]at ck'
 obtain⟨gx,hgx⟩:∃b,decide (x<0)=b:=⟨_,rfl⟩
 obtain⟨gy,hgy⟩:∃b,decide (y<0)=b:=⟨_,rfl⟩
 rw[hgx,hgy]at ad⊢
 simp only[hgx,hgy]at ck'
 clear ha hb hn hm hgx hgy fx fy ck en
 go_enter Tryz.func133,Tryz.ntmps133
 go_wp2_with fail
 refine(ck' _ _ ownB (pa.steps belowB) (pb.steps belowB)).mono ?_
 rintro e w1 ⟨rfl,st⟩
 have Bn:=bA w st
 have oa:Blk w1 (w.heap.size) 30 #[.bool gx,.slice aa n ca]:=Blk.stepsA st
 have ob:Blk w1 (w.heap.size+1) 30 #[.bool gy,.slice ab m cb]:=Blk.stepsA st
 have or:Blk w1 (w.heap.size+1+1) 30 #[.bool false,.slice none 0 0]:=Blk.stepsA st
 clear st
 have B:=Bn
 clear Bn
 obtain⟨ca0,ca1,fa,la⟩:=oa.s1
 obtain⟨cb0,cb1,fb,lb⟩:=ob.s1
 obtain⟨cr0,cr1,fr,lr⟩:=or.s1
 clear ck'
 go_wp2_with fail
 refine(ad _ belowB).mono ?_
 rintro e w2 ⟨v2,rfl,hn2,st⟩
 have Bn:=bA w st
 have na:=oa.stq st
 have nr:=or.stq st
 clear B oa ob or ca0 ca1 fa la cb0 cb1 fb lb cr0 cr1 fr lr
 clear st
 have B:=Bn
 clear Bn
 have oa:=na
 clear na
 obtain⟨ca0,ca1,fa,la⟩:=oa.s1
 have or:=nr
 clear nr
 obtain⟨cr0,cr1,fr,lr⟩:=or.s1
 clear ad
 obtain⟨bb,ao,k,c,rfl⟩:=hn2.shape
 have HV:=Hid.mk_ hn2
 clear hn2
 go_wp2
 refine bodyPost_ret (by simp[results,Tryz.results133,go_sem,ca0,ca1,fa,la,cr0,cr1,fr,lr]; rfl) rfl ?_
 exact⟨_,rfl,HV.out.put2 or,belowB⟩
theorem wdivmod_s {va vb:Value} {x y:Int} (w:World) (ha:Num w va x) (hb:Num w vb y) (fx:fits x) (fy:fits y) (hy:y≠0) (hss:(decide (x<0)=decide (y<0))) (hZ:(absN x%absN y=0)∨(0<absN x%absN y)) :
  Calls Tryz.prog 75 #[va,vb] w fun e w'=>∃q r,e = .returned (.tuple #[q,r,.int .i64 0])∧Num w' q (divF x y)∧Num w' r (modF x y)∧Steps w w':=by
 have ck:∀ (w':World) (q:Nat) (aa ab:Option Addr) (ca cb:Nat),Blk w' q 30 #[.bool (decide (x<0)),.slice aa (limbs (absN x)).length ca,.bool (decide (y<0)),.slice ab (limbs (absN y)).length cb]→Lim w' (.slice aa (limbs (absN x)).length ca) (limbs (absN x))→Lim w' (.slice ab (limbs (absN y)).length cb) (limbs (absN y))→
   Calls Tryz.prog 81 #[.slice (some ⟨q,0,none⟩) 2 2] w' fun e w2=>e = .returned (.int .i64 0)∧Steps w' w2:=fun w' q aa ab ca cb hb h1 h2=>wcheck2_ok w' hb h1 h2 fx fy
 have F:=div_fits (x:=x) hy
 have fq:fits (divF x y):=fits_le F.1 fx
 have fr':fits (modF x y):=fits_le F.2.1 fy
 have hy0:0<absN y:=by unfold absN; omega
 have q0:0≤absN x / absN y:=Int.ediv_nonneg (absN_nonneg x) (by omega)
 have m0:=Int.emod_nonneg (absN x) (show absN y≠0 by omega)
 have m1:=Int.emod_lt_of_pos (absN x) hy0
 have lq:(limbs (absN x / absN y)).length≤4096:=Nat.le_trans (limbs_le q0 F.2.2.1) fx
 have lr':(limbs (absN x%absN y)).length≤4096:=Nat.le_trans (limbs_le m0 F.2.2.2) fy
 obtain⟨aa,ca,rfl,pa⟩:=ha.parts
 obtain⟨ab,cb,rfl,pb⟩:=hb.parts
 have ck':=fun(w':World) (q:Nat)=>ck w' q aa ab ca cb
 have dv:∀w',Steps w w'→Calls Tryz.prog 112 #[.slice aa (limbs (absN x)).length ca,.slice ab (limbs (absN y)).length cb] w' fun e w2=>∃q r,e = .returned (.tuple #[q,r])∧Lim w2 q (limbs (absN x / absN y))∧Lim w2 r (limbs (absN x%absN y))∧Steps w' w2:=fun w' h=>
  wdivide w' (pa.steps h) (pb.steps h) (absN_nonneg x) (by omega) (by unfold fits at fx; omega) (by unfold fits at fy; omega)
 have y0:0<(limbs (absN y)).length:=List.length_pos_iff.2 (fun e=>by have:=(limbs_nil (absN_nonneg y)).1 e; omega)
 have VY:=lval_limbs (absN_nonneg y)
 have Y1:(limbs (absN y)).length≤4096:=fy
 unfold fits at fx fy
 obtain⟨n,hn⟩:∃n,(limbs (absN x)).length=n:=⟨_,rfl⟩
 obtain⟨m,hm⟩:∃m,(limbs (absN y)).length=m:=⟨_,rfl⟩
 rw[hn]at pa dv⊢
 rw[hm]at pb dv y0 Y1⊢
 simp only[hn,hm]at ck'
 obtain⟨gx,hgx⟩:∃b,decide (x<0)=b:=⟨_,rfl⟩
 obtain⟨gy,hgy⟩:∃b,decide (y<0)=b:=⟨_,rfl⟩
 have HS:Hid (decide (x<0)=gx∧decide (y<0)=gy):=⟨hgx,hgy⟩
 rw[hgx,hgy]at hss⊢
 simp only[hgx,hgy]at ck'
 have VQ:=lval_limbs q0
 have VR:=lval_limbs m0
 have nq0:(limbs (absN x%absN y)).length=0↔absN x%absN y=0:=List.length_eq_zero_iff.trans (limbs_nil m0)
 have DS:=div_same hgx (hss▸hgy) hy
 have mk1:∀w' v l,Lim w' v l→lval l=absN x / absN y→l.length≤few→Calls Tryz.prog 115 #[.bool false,v] w' fun e w2=>∃v',e = .returned (.tuple #[v',.int .i64 0])∧Num w2 v' (divF x y)∧Steps w' w2:=fun w' v l h h1 h2=>by
  have:=wmadeN false w' h h2
  rw[h1,show zv false (absN x / absN y)=divF x y from by exact DS.1.symm,errN_fits fq,clipN_fits fq]at this
  exact this
 have mk2:∀w' v l,Lim w' v l→lval l=absN x%absN y→l.length≤few→Calls Tryz.prog 115 #[.bool gx,v] w' fun e w2=>∃v',e = .returned (.tuple #[v',.int .i64 0])∧Num w2 v' (modF x y)∧Steps w' w2:=fun w' v l h h1 h2=>by
  have:=wmadeN gx w' h h2
  rw[h1,show zv gx (absN x%absN y)=modF x y from by exact DS.2.symm,errN_fits fr',clipN_fits fr']at this
  exact this
 have HF:=Hid.mk_ (And.intro VQ (And.intro VR (And.intro lq (And.intro lr' VY))))
 have HM:=Hid.mk_ (And.intro m1 (And.intro hm m0))
 obtain⟨k,hk⟩:∃k,(limbs (absN x%absN y)).length=k:=⟨_,rfl⟩
 rw[hk]at nq0
 rcases hZ with hZ | hZ
 focus
  have hk0:k=0:=nq0.2 hZ
  have HK:=Hid.mk_ hk
  clear ha hb hn hm hgx hgy fx fy ck DS F hy0 q0 m0 m1 lq lr' VY VQ VR hy nq0 hk hZ fq fr'
  subst hss
  subst hk0
 rotate_left
 focus
  have hk0:0<k:=by omega
  have HK:=Hid.mk_ hk
  clear ha hb hn hm hgx hgy fx fy ck DS F hy0 q0 m0 m1 lq lr' VY VQ VR hy nq0 hk hZ fq fr'
  subst hss
 all_goals
  go_enter Tryz.func75,Tryz.ntmps75
  go_wp2_with fail
  refine(ck' _ _ ownB (pa.steps belowB) (pb.steps belowB)).mono ?_
  rintro e w1 ⟨rfl,st⟩
  have Bn:=bA w st
  have oa:Blk w1 (w.heap.size) 30 #[.bool gx,.slice aa n ca]:=Blk.stepsA st
  have ob:Blk w1 (w.heap.size+1) 30 #[.bool gx,.slice ab m cb]:=Blk.stepsA st
  have or:Blk w1 (w.heap.size+1+1) 30 #[.bool false,.slice none 0 0]:=Blk.stepsA st
  have ot:Blk w1 (w.heap.size+1+1+1) 30 #[.bool false,.slice none 0 0]:=Blk.stepsA st
  clear st
  have B:=Bn
  clear Bn
  obtain⟨ca0,ca1,fa,la⟩:=oa.s1
  obtain⟨cb0,cb1,fb,lb⟩:=ob.s1
  obtain⟨cr0,cr1,fr,lr⟩:=or.s1
  obtain⟨ct0,ct1,ft,lt⟩:=ot.s1
  clear ck'
  go_wp2_with fail
  refine(dv _ B).mono ?_
  rintro e w2 ⟨sq,sr,rfl,hq,hr,st⟩
  have Bn:=bA w st
  have na:=oa.stq st
  have nb:=ob.stq st
  have nr:=or.stq st
  have nt:=ot.stq st
  clear B oa ob or ot ca0 ca1 fa la cb0 cb1 fb lb cr0 cr1 fr lr ct0 ct1 ft lt
  clear st
  have B:=Bn
  clear Bn
  have oa:=na
  clear na
  obtain⟨ca0,ca1,fa,la⟩:=oa.s1
  have ob:=nb
  clear nb
  obtain⟨cb0,cb1,fb,lb⟩:=ob.s1
  have or:=nr
  clear nr
  obtain⟨cr0,cr1,fr,lr⟩:=or.s1
  have ot:=nt
  clear nt
  obtain⟨ct0,ct1,ft,lt⟩:=ot.s1
  clear dv
  obtain⟨aq,cq,rfl⟩:=hq.shape
  obtain⟨ar,cr,rfl⟩:=hr.shape
  rw[HK.out]at hr⊢
  obtain⟨nq,hnq⟩:∃k,(limbs (absN x / absN y)).length=k:=⟨_,rfl⟩
  rw[hnq]at hq⊢
  have HNQ:=Hid.mk_ hnq
  clear hnq
  go_wp2_with fail
  refine(mk1 _ _ _ hq HF.out.1 (by have:=HF.out.2.2.1; unfold few; omega)).mono ?_
  rintro e w3 ⟨v7,rfl,hn7,hb3⟩
  have st:Steps _ w3:=hb3
  have Bn:=bA w st
  have na:=oa.stq st
  have nb:=ob.stq st
  have nr:=or.stq st
  have nt:=ot.stq st
  clear B oa ob or ot ca0 ca1 fa la cb0 cb1 fb lb cr0 cr1 fr lr ct0 ct1 ft lt
  clear st
  have B:=Bn
  clear Bn
  have oa:=na
  clear na
  obtain⟨ca0,ca1,fa,la⟩:=oa.s1
  have ob:=nb
  clear nb
  obtain⟨cb0,cb1,fb,lb⟩:=ob.s1
  have or:=nr
  clear nr
  obtain⟨cr0,cr1,fr,lr⟩:=or.s1
  have ot:=nt
  clear nt
  obtain⟨ct0,ct1,ft,lt⟩:=ot.s1
  clear mk1
  have hr':=hr.steps hb3
  clear hr hq
  obtain⟨b7,a7,n7,c7,rfl⟩:=hn7.shape
  have N7:=Hid.mk_ hn7
  clear hn7
  have or':=or
  go_wp2_with fail
  refine(mk2 _ _ _ (Lim.put2 hr' or) HF.out.2.1 (by have:=HF.out.2.2.2.1; unfold few; omega)).mono ?_
  rintro e w4 ⟨v8,rfl,hn8,hb4⟩
  have st:Steps _ w4:=hb4
  have Bn:=bA w st
  have na:=oa.stq st
  have nb:=ob.stq st
  replace or:Blk w4 (w.heap.size+1+1) 30 #[.bool b7,.slice a7 n7 c7]:=Blk.stepsA st
  have nt:=ot.stq st
  clear B oa ob ot ca0 ca1 fa la cb0 cb1 fb lb cr0 cr1 fr lr ct0 ct1 ft lt
  clear st
  have B:=Bn
  clear Bn
  have oa:=na
  clear na
  obtain⟨ca0,ca1,fa,la⟩:=oa.s1
  have ob:=nb
  clear nb
  obtain⟨cb0,cb1,fb,lb⟩:=ob.s1
  obtain⟨cr0,cr1,fr,lr⟩:=or.s1
  have ot:=nt
  clear nt
  obtain⟨ct0,ct1,ft,lt⟩:=ot.s1
  clear mk2
  have N9:=Hid.mk_ ((N7.out.put2 or').steps hb4)
  clear or'
  obtain⟨b8,a8,n8,c8,rfl⟩:=hn8.shape
  have N8:=Hid.mk_ hn8
  clear hn8
  go_wp2_with fail
  clear ca0 ca1 fa la cb0 cb1 fb lb
  refine Reg.wp_chain (fun D v W=>Blk W (w.heap.size+1+1) 30 #[.bool b7,.slice a7 n7 c7]∧Blk W (w.heap.size+1+1+1) 30 #[.bool b8,.slice a8 n8 c8]∧Below w.heap.size w W∧Num W (.agg #[.bool b7,.slice a7 n7 c7]) (divF x y)∧Num W (.agg #[.bool b8,.slice a8 n8 c8]) (modF x y))
   (Reg.inl [3,4]) (Reg.ge []) Reg.None_ (fun _=>Reg.Any) (fun _ _=>False) (Reg.pl []) (Reg.pl []) (by kernel_rfl) (by kernel_rfl) (by kernel_rfl) (Reg.ge_some _) (fun v=> ?_) (fun _ _ _ _ _ h=>h) (fun _ _ _ _ _ _ _ _ _ _ _ _ _=>Reg.none_) (fun _ _ _ _ h=>h.elim) (fun ops' Q' hops hQ=> ?_)
  · exact⟨(((or.far' (by omega)).far' (by omega)).drew:Blk (World.drew _) _ _ _),ot.both.drew,belowB,(N9.out.put2 ot).drew_,(N8.out.put2 ot).drew_⟩
  clear N9 N8 or ot B
  apply Reg.RP rfl rfl rfl 72 rfl rfl
  ·
   intro D v' W' hc hj hf K hK
   have c0:W'.cell? ⟨w.heap.size+1+1,0,none⟩=some (.bool b7):=hj.1.c 0 rfl
   have c1:W'.cell? ⟨w.heap.size+1+1,1,none⟩=some (.slice a7 n7 c7):=hj.1.c 1 rfl
   go_step
   exact hK.out
  · rfl
  apply Reg.RP rfl rfl rfl 73 rfl rfl
  ·
   intro D v' W' hc hj hf K hK
   have c0:W'.cell? ⟨w.heap.size+1+1+1,0,none⟩=some (.bool b8):=hj.2.1.c 0 rfl
   have c1:W'.cell? ⟨w.heap.size+1+1+1,1,none⟩=some (.slice a8 n8 c8):=hj.2.1.c 1 rfl
   go_step
   exact hK.out
  · rfl
  refine Reg.RP0 74 ?_
  refine Reg.RCs (fun D v' W' hc hj hf K hK=> ?_) (fun _ _=>Reg.RC_at (b:=⟨_,[]⟩) rfl ?_)
  ·
   obtain⟨h1,h2,h3,h4,h5⟩:=hj
   have c0:W'.cell? ⟨w.heap.size+1+1,0,none⟩=some (.bool b7):=h1.c 0 rfl
   have c1:W'.cell? ⟨w.heap.size+1+1,1,none⟩=some (.slice a7 n7 c7):=h1.c 1 rfl
   have ff:=h1.fr
   go_step
   exact hK.out undef _ Reg.any ⟨h1.both,(h2.far' (by omega)).far' (by omega),(Below.setCell (p:=⟨w.heap.size+1+1,1,none⟩) (Below.setCell (p:=⟨w.heap.size+1+1,0,none⟩) h3 (show w.heap.size≤w.heap.size+1+1 by omega) _) (show w.heap.size≤w.heap.size+1+1 by omega) _),h4.put2 h1,h5.put2 h1⟩ Reg.none_ trivial
  refine Reg.RCs (fun D v' W' hc hj hf K hK=> ?_) (fun _ _=>Reg.RC_at (b:=⟨_,[]⟩) rfl ?_)
  ·
   obtain⟨h1,h2,h3,h4,h5⟩:=hj
   have c0:W'.cell? ⟨w.heap.size+1+1+1,0,none⟩=some (.bool b8):=h2.c 0 rfl
   have c1:W'.cell? ⟨w.heap.size+1+1+1,1,none⟩=some (.slice a8 n8 c8):=h2.c 1 rfl
   have ff:=h2.fr
   go_step
   exact hK.out undef _ Reg.any ⟨(h1.far' (by omega)).far' (by omega),h2.both,(Below.setCell (p:=⟨w.heap.size+1+1+1,1,none⟩) (Below.setCell (p:=⟨w.heap.size+1+1+1,0,none⟩) h3 (show w.heap.size≤w.heap.size+1+1+1 by omega) _) (show w.heap.size≤w.heap.size+1+1+1 by omega) _),h4.put2 h2,h5.put2 h2⟩ Reg.none_ trivial
  refine Reg.RP0 6 ?_
  refine Reg.RC_end (fun Dn v' W' hd hj hf=> ?_)
  clear hd hf
  refine hQ _ _ ?_
  clear hQ hops Q' ops'
  obtain⟨h1,h2,h3,h4,h5⟩:=hj
  have cr0:W'.cell? ⟨w.heap.size+1+1,0,none⟩=some (.bool b7):=h1.c 0 rfl
  have cr1:W'.cell? ⟨w.heap.size+1+1,1,none⟩=some (.slice a7 n7 c7):=h1.c 1 rfl
  have fr:=h1.fr
  have lr:=h1.lt
  have ct0:W'.cell? ⟨w.heap.size+1+1+1,0,none⟩=some (.bool b8):=h2.c 0 rfl
  have ct1:W'.cell? ⟨w.heap.size+1+1+1,1,none⟩=some (.slice a8 n8 c8):=h2.c 1 rfl
  have ft:=h2.fr
  have lt:=h2.lt
  go_wp2
  refine bodyPost_ret (by simp[results,Tryz.results75,go_sem,cr0,cr1,fr,lr,ct0,ct1,ft,lt]; rfl) rfl ?_
  exact⟨_,_,rfl,h4,h5,h3⟩
theorem wdivmod_sz {va vb:Value} {x y:Int} (w:World) (ha:Num w va x) (hb:Num w vb y) (fx:fits x) (fy:fits y) (hy:y≠0) (hss:(decide (x<0)=decide (y<0))) (hZ:absN x%absN y=0) :
  Calls Tryz.prog 75 #[va,vb] w fun e w'=>∃q r,e = .returned (.tuple #[q,r,.int .i64 0])∧Num w' q (divF x y)∧Num w' r (modF x y)∧Steps w w':=
 wdivmod_s w ha hb fx fy hy hss (.inl hZ)
theorem wdivmod_sp {va vb:Value} {x y:Int} (w:World) (ha:Num w va x) (hb:Num w vb y) (fx:fits x) (fy:fits y) (hy:y≠0) (hss:(decide (x<0)=decide (y<0))) (hZ:0<absN x%absN y) :
  Calls Tryz.prog 75 #[va,vb] w fun e w'=>∃q r,e = .returned (.tuple #[q,r,.int .i64 0])∧Num w' q (divF x y)∧Num w' r (modF x y)∧Steps w w':=
 wdivmod_s w ha hb fx fy hy hss (.inr hZ)
theorem wdivmod_dp {va vb:Value} {x y:Int} (w:World) (ha:Num w va x) (hb:Num w vb y) (fx:fits x) (fy:fits y) (hy:y≠0) (hss:¬(decide (x<0)=decide (y<0))) (hZ:0<absN x%absN y) :
  Calls Tryz.prog 75 #[va,vb] w fun e w'=>∃q r,e = .returned (.tuple #[q,r,.int .i64 0])∧Num w' q (divF x y)∧Num w' r (modF x y)∧Steps w w':=by
 have ck:∀ (w':World) (q:Nat) (aa ab:Option Addr) (ca cb:Nat),Blk w' q 30 #[.bool (decide (x<0)),.slice aa (limbs (absN x)).length ca,.bool (decide (y<0)),.slice ab (limbs (absN y)).length cb]→Lim w' (.slice aa (limbs (absN x)).length ca) (limbs (absN x))→Lim w' (.slice ab (limbs (absN y)).length cb) (limbs (absN y))→
   Calls Tryz.prog 81 #[.slice (some ⟨q,0,none⟩) 2 2] w' fun e w2=>e = .returned (.int .i64 0)∧Steps w' w2:=fun w' q aa ab ca cb hb h1 h2=>wcheck2_ok w' hb h1 h2 fx fy
 have F:=div_fits (x:=x) hy
 have fq:fits (divF x y):=fits_le F.1 fx
 have fr':fits (modF x y):=fits_le F.2.1 fy
 have hy0:0<absN y:=by unfold absN; omega
 have q0:0≤absN x / absN y:=Int.ediv_nonneg (absN_nonneg x) (by omega)
 have m0:=Int.emod_nonneg (absN x) (show absN y≠0 by omega)
 have m1:=Int.emod_lt_of_pos (absN x) hy0
 have lq:(limbs (absN x / absN y)).length≤4096:=Nat.le_trans (limbs_le q0 F.2.2.1) fx
 have lr':(limbs (absN x%absN y)).length≤4096:=Nat.le_trans (limbs_le m0 F.2.2.2) fy
 obtain⟨aa,ca,rfl,pa⟩:=ha.parts
 obtain⟨ab,cb,rfl,pb⟩:=hb.parts
 have ck':=fun(w':World) (q:Nat)=>ck w' q aa ab ca cb
 have dv:∀w',Steps w w'→Calls Tryz.prog 112 #[.slice aa (limbs (absN x)).length ca,.slice ab (limbs (absN y)).length cb] w' fun e w2=>∃q r,e = .returned (.tuple #[q,r])∧Lim w2 q (limbs (absN x / absN y))∧Lim w2 r (limbs (absN x%absN y))∧Steps w' w2:=fun w' h=>
  wdivide w' (pa.steps h) (pb.steps h) (absN_nonneg x) (by omega) (by unfold fits at fx; omega) (by unfold fits at fy; omega)
 have y0:0<(limbs (absN y)).length:=List.length_pos_iff.2 (fun e=>by have:=(limbs_nil (absN_nonneg y)).1 e; omega)
 have VY:=lval_limbs (absN_nonneg y)
 have Y1:(limbs (absN y)).length≤4096:=fy
 unfold fits at fx fy
 obtain⟨n,hn⟩:∃n,(limbs (absN x)).length=n:=⟨_,rfl⟩
 obtain⟨m,hm⟩:∃m,(limbs (absN y)).length=m:=⟨_,rfl⟩
 rw[hn]at pa dv⊢
 rw[hm]at pb dv y0 Y1⊢
 simp only[hn,hm]at ck'
 obtain⟨gx,hgx⟩:∃b,decide (x<0)=b:=⟨_,rfl⟩
 obtain⟨gy,hgy⟩:∃b,decide (y<0)=b:=⟨_,rfl⟩
 have HS:Hid (decide (x<0)=gx∧decide (y<0)=gy):=⟨hgx,hgy⟩
 rw[hgx,hgy]at hss⊢
 simp only[hgx,hgy]at ck'
 have VQ:=lval_limbs q0
 have VR:=lval_limbs m0
 have nq0:(limbs (absN x%absN y)).length=0↔absN x%absN y=0:=List.length_eq_zero_iff.trans (limbs_nil m0)
 have DS:=(div_diff hgx hgy hss hy).2 hZ
 have hgg:gx = !gy:=by cases gx<;>cases gy<;>simp_all
 have mk1:∀w' v l,Lim w' v l→lval l=absN x / absN y+1→l.length≤few→Calls Tryz.prog 115 #[.bool true,v] w' fun e w2=>∃v',e = .returned (.tuple #[v',.int .i64 0])∧Num w2 v' (divF x y)∧Steps w' w2:=fun w' v l h h1 h2=>by
  have:=wmadeN true w' h h2
  rw[h1,show zv true (absN x / absN y+1)=divF x y from by rw[DS.1]; unfold zv; simp only[if_true]; omega,errN_fits fq,clipN_fits fq]at this
  exact this
 have mk2:∀w' v l,Lim w' v l→lval l=absN y-absN x%absN y→l.length≤few→Calls Tryz.prog 115 #[.bool gy,v] w' fun e w2=>∃v',e = .returned (.tuple #[v',.int .i64 0])∧Num w2 v' (modF x y)∧Steps w' w2:=fun w' v l h h1 h2=>by
  have:=wmadeN gy w' h h2
  rw[h1,show zv gy (absN y-absN x%absN y)=modF x y from by rw[DS.2]; have Y:=absN_cases y; subst hgg; unfold zv; cases gy<;>simp at hgy<;>simp<;>omega,errN_fits fr',clipN_fits fr']at this
  exact this
 have HF:=Hid.mk_ (And.intro VQ (And.intro VR (And.intro lq (And.intro lr' VY))))
 have HM:=Hid.mk_ (And.intro m1 (And.intro hm m0))
 obtain⟨k,hk⟩:∃k,(limbs (absN x%absN y)).length=k:=⟨_,rfl⟩
 rw[hk]at nq0
 have hk0:0<k:=by omega
 have HK:=Hid.mk_ hk
 clear ha hb hn hm hgx hgy fx fy ck DS F hy0 q0 m0 m1 lq lr' VY VQ VR hy nq0 hk hZ fq fr'
 subst hgg
 clear hss
 go_enter Tryz.func75,Tryz.ntmps75
 go_wp2_with fail
 refine(ck' _ _ ownB (pa.steps belowB) (pb.steps belowB)).mono ?_
 rintro e w1 ⟨rfl,st⟩
 have Bn:=bA w st
 have oa:Blk w1 (w.heap.size) 30 #[.bool (!gy),.slice aa n ca]:=Blk.stepsA st
 have ob:Blk w1 (w.heap.size+1) 30 #[.bool gy,.slice ab m cb]:=Blk.stepsA st
 have or:Blk w1 (w.heap.size+1+1) 30 #[.bool false,.slice none 0 0]:=Blk.stepsA st
 have ot:Blk w1 (w.heap.size+1+1+1) 30 #[.bool false,.slice none 0 0]:=Blk.stepsA st
 clear st
 have B:=Bn
 clear Bn
 obtain⟨ca0,ca1,fa,la⟩:=oa.s1
 obtain⟨cb0,cb1,fb,lb⟩:=ob.s1
 obtain⟨cr0,cr1,fr,lr⟩:=or.s1
 obtain⟨ct0,ct1,ft,lt⟩:=ot.s1
 clear ck'
 go_wp2_with fail
 refine(dv _ B).mono ?_
 rintro e w2 ⟨sq,sr,rfl,hq,hr,st⟩
 have Bn:=bA w st
 have na:=oa.stq st
 have nb:=ob.stq st
 have nr:=or.stq st
 have nt:=ot.stq st
 clear B oa ob or ot ca0 ca1 fa la cb0 cb1 fb lb cr0 cr1 fr lr ct0 ct1 ft lt
 clear st
 have B:=Bn
 clear Bn
 have oa:=na
 clear na
 obtain⟨ca0,ca1,fa,la⟩:=oa.s1
 have ob:=nb
 clear nb
 obtain⟨cb0,cb1,fb,lb⟩:=ob.s1
 have or:=nr
 clear nr
 obtain⟨cr0,cr1,fr,lr⟩:=or.s1
 have ot:=nt
 clear nt
 obtain⟨ct0,ct1,ft,lt⟩:=ot.s1
 clear dv
 obtain⟨aq,cq,rfl⟩:=hq.shape
 obtain⟨ar,cr,rfl⟩:=hr.shape
 rw[HK.out]at hr⊢
 obtain⟨nq,hnq⟩:∃k,(limbs (absN x / absN y)).length=k:=⟨_,rfl⟩
 rw[hnq]at hq⊢
 have HNQ:=Hid.mk_ hnq
 clear hnq
 have hr1:=Hid.mk_ hr
 clear hr
 have pb1:=Hid.mk_ (pb.steps B)
 go_wp2_with fail
 refine(wplus _ (hq.steps ((Below.refl _ _).alloc (Nat.le_refl _) _)) (Lim.one (x:=1) (by omega) (by omega)) (by have:=HF.out.2.2.1; unfold few; omega) (by unfold few; simp)).mono ?_
 rintro e w3 ⟨v5,l5,rfl,hv5,vl5,ll5,hb3⟩
 have st:Steps _ w3:=hb3
 have Bn:=bA w st
 have na:=oa.stq st
 have nb:=ob.stq st
 have nr:=or.stq st
 have nt:=ot.stq st
 clear B oa ob or ot ca0 ca1 fa la cb0 cb1 fb lb cr0 cr1 fr lr ct0 ct1 ft lt
 clear st
 have B:=Bn
 clear Bn
 have oa:=na
 clear na
 obtain⟨ca0,ca1,fa,la⟩:=oa.s1
 have ob:=nb
 clear nb
 obtain⟨cb0,cb1,fb,lb⟩:=ob.s1
 have or:=nr
 clear nr
 obtain⟨cr0,cr1,fr,lr⟩:=or.s1
 have ot:=nt
 clear nt
 obtain⟨ct0,ct1,ft,lt⟩:=ot.s1
 have H5:Hid (lval l5=absN x / absN y+1∧l5.length≤few):=⟨by rw[vl5,HF.out.1]; simp[lval],by rw[ll5]; have:=HF.out.2.2.1; simp; unfold few; omega⟩
 clear vl5 ll5 hq
 obtain⟨a5,c5,rfl⟩:=hv5.shape
 obtain⟨n5,hn5⟩:∃k,l5.length=k:=⟨_,rfl⟩
 rw[hn5]at hv5⊢
 have HN5:=Hid.mk_ hn5
 clear hn5
 have pb2:=Hid.mk_ (pb.steps B)
 have hr2:=Hid.mk_ (hr1.out.steps (((Below.refl _ _).alloc (Nat.le_refl _) _).trans (hb3.mono (by simp))))
 go_wp2_with fail
 refine(wminus _ pb2.out hr2.out (by have:=HM.out.2.1; unfold few; omega) (limbs_le HM.out.2.2 (by have:=HM.out.1; omega)) (by rw[HF.out.2.1,HF.out.2.2.2.2]; have:=HM.out.1; omega)).mono ?_
 rintro e w4 ⟨v6,l6,rfl,hv6,vl6,ll6,hb4⟩
 have st:Steps _ w4:=hb4
 have Bn:=bA w st
 have na:=oa.stq st
 have nb:=ob.stq st
 have nr:=or.stq st
 have nt:=ot.stq st
 clear B oa ob or ot ca0 ca1 fa la cb0 cb1 fb lb cr0 cr1 fr lr ct0 ct1 ft lt
 clear st
 have B:=Bn
 clear Bn
 have oa:=na
 clear na
 obtain⟨ca0,ca1,fa,la⟩:=oa.s1
 have ob:=nb
 clear nb
 obtain⟨cb0,cb1,fb,lb⟩:=ob.s1
 have or:=nr
 clear nr
 obtain⟨cr0,cr1,fr,lr⟩:=or.s1
 have ot:=nt
 clear nt
 obtain⟨ct0,ct1,ft,lt⟩:=ot.s1
 have H6:Hid (lval l6=absN y-absN x%absN y∧l6.length≤few):=⟨by rw[vl6,HF.out.2.1,HF.out.2.2.2.2],by rw[ll6,HM.out.2.1]; unfold few; omega⟩
 clear vl6 ll6 pb1 hr1
 obtain⟨a6,c6,rfl⟩:=hv6.shape
 obtain⟨n6,hn6⟩:∃k,l6.length=k:=⟨_,rfl⟩
 rw[hn6]at hv6⊢
 have HN6:=Hid.mk_ hn6
 clear hn6
 have hv5':=hv5.steps hb4
 clear hv5
 go_wp2_with fail
 refine(mk1 _ _ _ hv5' H5.out.1 H5.out.2).mono ?_
 rintro e w5 ⟨v7,rfl,hn7,hb5⟩
 have st:Steps _ w5:=hb5
 have Bn:=bA w st
 have na:=oa.stq st
 have nb:=ob.stq st
 have nr:=or.stq st
 have nt:=ot.stq st
 clear B oa ob or ot ca0 ca1 fa la cb0 cb1 fb lb cr0 cr1 fr lr ct0 ct1 ft lt
 clear st
 have B:=Bn
 clear Bn
 have oa:=na
 clear na
 obtain⟨ca0,ca1,fa,la⟩:=oa.s1
 have ob:=nb
 clear nb
 obtain⟨cb0,cb1,fb,lb⟩:=ob.s1
 have or:=nr
 clear nr
 obtain⟨cr0,cr1,fr,lr⟩:=or.s1
 have ot:=nt
 clear nt
 obtain⟨ct0,ct1,ft,lt⟩:=ot.s1
 clear mk1
 have hv6':=hv6.steps hb5
 clear hv6
 obtain⟨b7,a7,n7,c7,rfl⟩:=hn7.shape
 have N7:=Hid.mk_ hn7
 clear hn7
 have or':=or
 go_wp2_with fail
 refine(mk2 _ _ _ (Lim.put2 hv6' or) H6.out.1 H6.out.2).mono ?_
 rintro e w6 ⟨v8,rfl,hn8,hb6⟩
 have st:Steps _ w6:=hb6
 have Bn:=bA w st
 have na:=oa.stq st
 have nb:=ob.stq st
 replace or:Blk w6 (w.heap.size+1+1) 30 #[.bool b7,.slice a7 n7 c7]:=Blk.stepsA st
 have nt:=ot.stq st
 clear B oa ob ot ca0 ca1 fa la cb0 cb1 fb lb cr0 cr1 fr lr ct0 ct1 ft lt
 clear st
 have B:=Bn
 clear Bn
 have oa:=na
 clear na
 obtain⟨ca0,ca1,fa,la⟩:=oa.s1
 have ob:=nb
 clear nb
 obtain⟨cb0,cb1,fb,lb⟩:=ob.s1
 obtain⟨cr0,cr1,fr,lr⟩:=or.s1
 have ot:=nt
 clear nt
 obtain⟨ct0,ct1,ft,lt⟩:=ot.s1
 clear mk2
 have N9:=Hid.mk_ ((N7.out.put2 or').steps hb6)
 clear or'
 obtain⟨b8,a8,n8,c8,rfl⟩:=hn8.shape
 have N8:=Hid.mk_ hn8
 clear hn8
 go_wp2_with fail
 clear ca0 ca1 fa la cb0 cb1 fb lb
 refine Reg.wp_chain (fun D v W=>Blk W (w.heap.size+1+1) 30 #[.bool b7,.slice a7 n7 c7]∧Blk W (w.heap.size+1+1+1) 30 #[.bool b8,.slice a8 n8 c8]∧Below w.heap.size w W∧Num W (.agg #[.bool b7,.slice a7 n7 c7]) (divF x y)∧Num W (.agg #[.bool b8,.slice a8 n8 c8]) (modF x y))
  (Reg.inl [3,4]) (Reg.ge []) Reg.None_ (fun _=>Reg.Any) (fun _ _=>False) (Reg.pl []) (Reg.pl []) (by kernel_rfl) (by kernel_rfl) (by kernel_rfl) (Reg.ge_some _) (fun v=> ?_) (fun _ _ _ _ _ h=>h) (fun _ _ _ _ _ _ _ _ _ _ _ _ _=>Reg.none_) (fun _ _ _ _ h=>h.elim) (fun ops' Q' hops hQ=> ?_)
 · exact⟨(((or.far' (by omega)).far' (by omega)).drew:Blk (World.drew _) _ _ _),ot.both.drew,belowB,(N9.out.put2 ot).drew_,(N8.out.put2 ot).drew_⟩
 clear N9 N8 or ot B
 apply Reg.RP rfl rfl rfl 72 rfl rfl
 ·
  intro D v' W' hc hj hf K hK
  have c0:W'.cell? ⟨w.heap.size+1+1,0,none⟩=some (.bool b7):=hj.1.c 0 rfl
  have c1:W'.cell? ⟨w.heap.size+1+1,1,none⟩=some (.slice a7 n7 c7):=hj.1.c 1 rfl
  go_step
  exact hK.out
 · rfl
 apply Reg.RP rfl rfl rfl 73 rfl rfl
 ·
  intro D v' W' hc hj hf K hK
  have c0:W'.cell? ⟨w.heap.size+1+1+1,0,none⟩=some (.bool b8):=hj.2.1.c 0 rfl
  have c1:W'.cell? ⟨w.heap.size+1+1+1,1,none⟩=some (.slice a8 n8 c8):=hj.2.1.c 1 rfl
  go_step
  exact hK.out
 · rfl
 refine Reg.RP0 74 ?_
 refine Reg.RCs (fun D v' W' hc hj hf K hK=> ?_) (fun _ _=>Reg.RC_at (b:=⟨_,[]⟩) rfl ?_)
 ·
  obtain⟨h1,h2,h3,h4,h5⟩:=hj
  have c0:W'.cell? ⟨w.heap.size+1+1,0,none⟩=some (.bool b7):=h1.c 0 rfl
  have c1:W'.cell? ⟨w.heap.size+1+1,1,none⟩=some (.slice a7 n7 c7):=h1.c 1 rfl
  have ff:=h1.fr
  go_step
  exact hK.out undef _ Reg.any ⟨h1.both,(h2.far' (by omega)).far' (by omega),(Below.setCell (p:=⟨w.heap.size+1+1,1,none⟩) (Below.setCell (p:=⟨w.heap.size+1+1,0,none⟩) h3 (show w.heap.size≤w.heap.size+1+1 by omega) _) (show w.heap.size≤w.heap.size+1+1 by omega) _),h4.put2 h1,h5.put2 h1⟩ Reg.none_ trivial
 refine Reg.RCs (fun D v' W' hc hj hf K hK=> ?_) (fun _ _=>Reg.RC_at (b:=⟨_,[]⟩) rfl ?_)
 ·
  obtain⟨h1,h2,h3,h4,h5⟩:=hj
  have c0:W'.cell? ⟨w.heap.size+1+1+1,0,none⟩=some (.bool b8):=h2.c 0 rfl
  have c1:W'.cell? ⟨w.heap.size+1+1+1,1,none⟩=some (.slice a8 n8 c8):=h2.c 1 rfl
  have ff:=h2.fr
  go_step
  exact hK.out undef _ Reg.any ⟨(h1.far' (by omega)).far' (by omega),h2.both,(Below.setCell (p:=⟨w.heap.size+1+1+1,1,none⟩) (Below.setCell (p:=⟨w.heap.size+1+1+1,0,none⟩) h3 (show w.heap.size≤w.heap.size+1+1+1 by omega) _) (show w.heap.size≤w.heap.size+1+1+1 by omega) _),h4.put2 h2,h5.put2 h2⟩ Reg.none_ trivial
 refine Reg.RP0 6 ?_
 refine Reg.RC_end (fun Dn v' W' hd hj hf=> ?_)
 clear hd hf
 refine hQ _ _ ?_
 clear hQ hops Q' ops'
 obtain⟨h1,h2,h3,h4,h5⟩:=hj
 have cr0:W'.cell? ⟨w.heap.size+1+1,0,none⟩=some (.bool b7):=h1.c 0 rfl
 have cr1:W'.cell? ⟨w.heap.size+1+1,1,none⟩=some (.slice a7 n7 c7):=h1.c 1 rfl
 have fr:=h1.fr
 have lr:=h1.lt
 have ct0:W'.cell? ⟨w.heap.size+1+1+1,0,none⟩=some (.bool b8):=h2.c 0 rfl
 have ct1:W'.cell? ⟨w.heap.size+1+1+1,1,none⟩=some (.slice a8 n8 c8):=h2.c 1 rfl
 have ft:=h2.fr
 have lt:=h2.lt
 go_wp2
 refine bodyPost_ret (by simp[results,Tryz.results75,go_sem,cr0,cr1,fr,lr,ct0,ct1,ft,lt]; rfl) rfl ?_
 exact⟨_,_,rfl,h4,h5,h3⟩
theorem wdivmod_dz {va vb:Value} {x y:Int} (w:World) (ha:Num w va x) (hb:Num w vb y) (fx:fits x) (fy:fits y) (hy:y≠0) (hss:¬(decide (x<0)=decide (y<0))) (hZ:absN x%absN y=0) :
  Calls Tryz.prog 75 #[va,vb] w fun e w'=>∃q r,e = .returned (.tuple #[q,r,.int .i64 0])∧Num w' q (divF x y)∧Num w' r (modF x y)∧Steps w w':=by
 have ck:∀ (w':World) (q:Nat) (aa ab:Option Addr) (ca cb:Nat),Blk w' q 30 #[.bool (decide (x<0)),.slice aa (limbs (absN x)).length ca,.bool (decide (y<0)),.slice ab (limbs (absN y)).length cb]→Lim w' (.slice aa (limbs (absN x)).length ca) (limbs (absN x))→Lim w' (.slice ab (limbs (absN y)).length cb) (limbs (absN y))→
   Calls Tryz.prog 81 #[.slice (some ⟨q,0,none⟩) 2 2] w' fun e w2=>e = .returned (.int .i64 0)∧Steps w' w2:=fun w' q aa ab ca cb hb h1 h2=>wcheck2_ok w' hb h1 h2 fx fy
 have F:=div_fits (x:=x) hy
 have fq:fits (divF x y):=fits_le F.1 fx
 have fr':fits (modF x y):=fits_le F.2.1 fy
 have hy0:0<absN y:=by unfold absN; omega
 have q0:0≤absN x / absN y:=Int.ediv_nonneg (absN_nonneg x) (by omega)
 have m0:=Int.emod_nonneg (absN x) (show absN y≠0 by omega)
 have m1:=Int.emod_lt_of_pos (absN x) hy0
 have lq:(limbs (absN x / absN y)).length≤4096:=Nat.le_trans (limbs_le q0 F.2.2.1) fx
 have lr':(limbs (absN x%absN y)).length≤4096:=Nat.le_trans (limbs_le m0 F.2.2.2) fy
 obtain⟨aa,ca,rfl,pa⟩:=ha.parts
 obtain⟨ab,cb,rfl,pb⟩:=hb.parts
 have ck':=fun(w':World) (q:Nat)=>ck w' q aa ab ca cb
 have dv:∀w',Steps w w'→Calls Tryz.prog 112 #[.slice aa (limbs (absN x)).length ca,.slice ab (limbs (absN y)).length cb] w' fun e w2=>∃q r,e = .returned (.tuple #[q,r])∧Lim w2 q (limbs (absN x / absN y))∧Lim w2 r (limbs (absN x%absN y))∧Steps w' w2:=fun w' h=>
  wdivide w' (pa.steps h) (pb.steps h) (absN_nonneg x) (by omega) (by unfold fits at fx; omega) (by unfold fits at fy; omega)
 have y0:0<(limbs (absN y)).length:=List.length_pos_iff.2 (fun e=>by have:=(limbs_nil (absN_nonneg y)).1 e; omega)
 have VY:=lval_limbs (absN_nonneg y)
 have Y1:(limbs (absN y)).length≤4096:=fy
 unfold fits at fx fy
 obtain⟨n,hn⟩:∃n,(limbs (absN x)).length=n:=⟨_,rfl⟩
 obtain⟨m,hm⟩:∃m,(limbs (absN y)).length=m:=⟨_,rfl⟩
 rw[hn]at pa dv⊢
 rw[hm]at pb dv y0 Y1⊢
 simp only[hn,hm]at ck'
 obtain⟨gx,hgx⟩:∃b,decide (x<0)=b:=⟨_,rfl⟩
 obtain⟨gy,hgy⟩:∃b,decide (y<0)=b:=⟨_,rfl⟩
 have HS:Hid (decide (x<0)=gx∧decide (y<0)=gy):=⟨hgx,hgy⟩
 rw[hgx,hgy]at hss⊢
 simp only[hgx,hgy]at ck'
 have VQ:=lval_limbs q0
 have VR:=lval_limbs m0
 have nq0:(limbs (absN x%absN y)).length=0↔absN x%absN y=0:=List.length_eq_zero_iff.trans (limbs_nil m0)
 have DS:=(div_diff hgx hgy hss hy).1 hZ
 have hgg:gx = !gy:=by cases gx<;>cases gy<;>simp_all
 have mk1:∀w' v l,Lim w' v l→lval l=absN x / absN y→l.length≤few→Calls Tryz.prog 115 #[.bool true,v] w' fun e w2=>∃v',e = .returned (.tuple #[v',.int .i64 0])∧Num w2 v' (divF x y)∧Steps w' w2:=fun w' v l h h1 h2=>by
  have:=wmadeN true w' h h2
  rw[h1,show zv true (absN x / absN y)=divF x y from by exact DS.1.symm,errN_fits fq,clipN_fits fq]at this
  exact this
 have mk2:∀w' v l,Lim w' v l→lval l=absN x%absN y→l.length≤few→Calls Tryz.prog 115 #[.bool gy,v] w' fun e w2=>∃v',e = .returned (.tuple #[v',.int .i64 0])∧Num w2 v' (modF x y)∧Steps w' w2:=fun w' v l h h1 h2=>by
  have:=wmadeN gy w' h h2
  rw[h1,show zv gy (absN x%absN y)=modF x y from by rw[DS.2,hZ]; subst hgg; cases gy<;>rfl,errN_fits fr',clipN_fits fr']at this
  exact this
 have HF:=Hid.mk_ (And.intro VQ (And.intro VR (And.intro lq (And.intro lr' VY))))
 have HM:=Hid.mk_ (And.intro m1 (And.intro hm m0))
 obtain⟨k,hk⟩:∃k,(limbs (absN x%absN y)).length=k:=⟨_,rfl⟩
 rw[hk]at nq0
 have hk0:k=0:=nq0.2 hZ
 have HK:=Hid.mk_ hk
 clear ha hb hn hm hgx hgy fx fy ck DS F hy0 q0 m0 m1 lq lr' VY VQ VR hy nq0 hk hZ fq fr'
 subst hgg
 subst hk0
 clear hss
 go_enter Tryz.func75,Tryz.ntmps75
 go_wp2_with fail
 refine(ck' _ _ ownB (pa.steps belowB) (pb.steps belowB)).mono ?_
 rintro e w1 ⟨rfl,st⟩
 have Bn:=bA w st
 have oa:Blk w1 (w.heap.size) 30 #[.bool (!gy),.slice aa n ca]:=Blk.stepsA st
 have ob:Blk w1 (w.heap.size+1) 30 #[.bool gy,.slice ab m cb]:=Blk.stepsA st
 have or:Blk w1 (w.heap.size+1+1) 30 #[.bool false,.slice none 0 0]:=Blk.stepsA st
 have ot:Blk w1 (w.heap.size+1+1+1) 30 #[.bool false,.slice none 0 0]:=Blk.stepsA st
 clear st
 have B:=Bn
 clear Bn
 obtain⟨ca0,ca1,fa,la⟩:=oa.s1
 obtain⟨cb0,cb1,fb,lb⟩:=ob.s1
 obtain⟨cr0,cr1,fr,lr⟩:=or.s1
 obtain⟨ct0,ct1,ft,lt⟩:=ot.s1
 clear ck'
 go_wp2_with fail
 refine(dv _ B).mono ?_
 rintro e w2 ⟨sq,sr,rfl,hq,hr,st⟩
 have Bn:=bA w st
 have na:=oa.stq st
 have nb:=ob.stq st
 have nr:=or.stq st
 have nt:=ot.stq st
 clear B oa ob or ot ca0 ca1 fa la cb0 cb1 fb lb cr0 cr1 fr lr ct0 ct1 ft lt
 clear st
 have B:=Bn
 clear Bn
 have oa:=na
 clear na
 obtain⟨ca0,ca1,fa,la⟩:=oa.s1
 have ob:=nb
 clear nb
 obtain⟨cb0,cb1,fb,lb⟩:=ob.s1
 have or:=nr
 clear nr
 obtain⟨cr0,cr1,fr,lr⟩:=or.s1
 have ot:=nt
 clear nt
 obtain⟨ct0,ct1,ft,lt⟩:=ot.s1
 clear dv
 obtain⟨aq,cq,rfl⟩:=hq.shape
 obtain⟨ar,cr,rfl⟩:=hr.shape
 rw[HK.out]at hr⊢
 obtain⟨nq,hnq⟩:∃k,(limbs (absN x / absN y)).length=k:=⟨_,rfl⟩
 rw[hnq]at hq⊢
 have HNQ:=Hid.mk_ hnq
 clear hnq
 go_wp2_with fail
 refine(mk1 _ _ _ hq HF.out.1 (by have:=HF.out.2.2.1; unfold few; omega)).mono ?_
 rintro e w3 ⟨v7,rfl,hn7,hb3⟩
 have st:Steps _ w3:=hb3
 have Bn:=bA w st
 have na:=oa.stq st
 have nb:=ob.stq st
 have nr:=or.stq st
 have nt:=ot.stq st
 clear B oa ob or ot ca0 ca1 fa la cb0 cb1 fb lb cr0 cr1 fr lr ct0 ct1 ft lt
 clear st
 have B:=Bn
 clear Bn
 have oa:=na
 clear na
 obtain⟨ca0,ca1,fa,la⟩:=oa.s1
 have ob:=nb
 clear nb
 obtain⟨cb0,cb1,fb,lb⟩:=ob.s1
 have or:=nr
 clear nr
 obtain⟨cr0,cr1,fr,lr⟩:=or.s1
 have ot:=nt
 clear nt
 obtain⟨ct0,ct1,ft,lt⟩:=ot.s1
 clear mk1
 have hr':=hr.steps hb3
 clear hr hq
 obtain⟨b7,a7,n7,c7,rfl⟩:=hn7.shape
 have N7:=Hid.mk_ hn7
 clear hn7
 have or':=or
 go_wp2_with fail
 refine(mk2 _ _ _ (Lim.put2 hr' or) HF.out.2.1 (by have:=HF.out.2.2.2.1; unfold few; omega)).mono ?_
 rintro e w4 ⟨v8,rfl,hn8,hb4⟩
 have st:Steps _ w4:=hb4
 have Bn:=bA w st
 have na:=oa.stq st
 have nb:=ob.stq st
 replace or:Blk w4 (w.heap.size+1+1) 30 #[.bool b7,.slice a7 n7 c7]:=Blk.stepsA st
 have nt:=ot.stq st
 clear B oa ob ot ca0 ca1 fa la cb0 cb1 fb lb cr0 cr1 fr lr ct0 ct1 ft lt
 clear st
 have B:=Bn
 clear Bn
 have oa:=na
 clear na
 obtain⟨ca0,ca1,fa,la⟩:=oa.s1
 have ob:=nb
 clear nb
 obtain⟨cb0,cb1,fb,lb⟩:=ob.s1
 obtain⟨cr0,cr1,fr,lr⟩:=or.s1
 have ot:=nt
 clear nt
 obtain⟨ct0,ct1,ft,lt⟩:=ot.s1
 clear mk2
 have N9:=Hid.mk_ ((N7.out.put2 or').steps hb4)
 clear or'
 obtain⟨b8,a8,n8,c8,rfl⟩:=hn8.shape
 have N8:=Hid.mk_ hn8
 clear hn8
 go_wp2_with fail
 clear ca0 ca1 fa la cb0 cb1 fb lb
 refine Reg.wp_chain (fun D v W=>Blk W (w.heap.size+1+1) 30 #[.bool b7,.slice a7 n7 c7]∧Blk W (w.heap.size+1+1+1) 30 #[.bool b8,.slice a8 n8 c8]∧Below w.heap.size w W∧Num W (.agg #[.bool b7,.slice a7 n7 c7]) (divF x y)∧Num W (.agg #[.bool b8,.slice a8 n8 c8]) (modF x y))
  (Reg.inl [3,4]) (Reg.ge []) Reg.None_ (fun _=>Reg.Any) (fun _ _=>False) (Reg.pl []) (Reg.pl []) (by kernel_rfl) (by kernel_rfl) (by kernel_rfl) (Reg.ge_some _) (fun v=> ?_) (fun _ _ _ _ _ h=>h) (fun _ _ _ _ _ _ _ _ _ _ _ _ _=>Reg.none_) (fun _ _ _ _ h=>h.elim) (fun ops' Q' hops hQ=> ?_)
 · exact⟨(((or.far' (by omega)).far' (by omega)).drew:Blk (World.drew _) _ _ _),ot.both.drew,belowB,(N9.out.put2 ot).drew_,(N8.out.put2 ot).drew_⟩
 clear N9 N8 or ot B
 apply Reg.RP rfl rfl rfl 72 rfl rfl
 ·
  intro D v' W' hc hj hf K hK
  have c0:W'.cell? ⟨w.heap.size+1+1,0,none⟩=some (.bool b7):=hj.1.c 0 rfl
  have c1:W'.cell? ⟨w.heap.size+1+1,1,none⟩=some (.slice a7 n7 c7):=hj.1.c 1 rfl
  go_step
  exact hK.out
 · rfl
 apply Reg.RP rfl rfl rfl 73 rfl rfl
 ·
  intro D v' W' hc hj hf K hK
  have c0:W'.cell? ⟨w.heap.size+1+1+1,0,none⟩=some (.bool b8):=hj.2.1.c 0 rfl
  have c1:W'.cell? ⟨w.heap.size+1+1+1,1,none⟩=some (.slice a8 n8 c8):=hj.2.1.c 1 rfl
  go_step
  exact hK.out
 · rfl
 refine Reg.RP0 74 ?_
 refine Reg.RCs (fun D v' W' hc hj hf K hK=> ?_) (fun _ _=>Reg.RC_at (b:=⟨_,[]⟩) rfl ?_)
 ·
  obtain⟨h1,h2,h3,h4,h5⟩:=hj
  have c0:W'.cell? ⟨w.heap.size+1+1,0,none⟩=some (.bool b7):=h1.c 0 rfl
  have c1:W'.cell? ⟨w.heap.size+1+1,1,none⟩=some (.slice a7 n7 c7):=h1.c 1 rfl
  have ff:=h1.fr
  go_step
  exact hK.out undef _ Reg.any ⟨h1.both,(h2.far' (by omega)).far' (by omega),(Below.setCell (p:=⟨w.heap.size+1+1,1,none⟩) (Below.setCell (p:=⟨w.heap.size+1+1,0,none⟩) h3 (show w.heap.size≤w.heap.size+1+1 by omega) _) (show w.heap.size≤w.heap.size+1+1 by omega) _),h4.put2 h1,h5.put2 h1⟩ Reg.none_ trivial
 refine Reg.RCs (fun D v' W' hc hj hf K hK=> ?_) (fun _ _=>Reg.RC_at (b:=⟨_,[]⟩) rfl ?_)
 ·
  obtain⟨h1,h2,h3,h4,h5⟩:=hj
  have c0:W'.cell? ⟨w.heap.size+1+1+1,0,none⟩=some (.bool b8):=h2.c 0 rfl
  have c1:W'.cell? ⟨w.heap.size+1+1+1,1,none⟩=some (.slice a8 n8 c8):=h2.c 1 rfl
  have ff:=h2.fr
  go_step
  exact hK.out undef _ Reg.any ⟨(h1.far' (by omega)).far' (by omega),h2.both,(Below.setCell (p:=⟨w.heap.size+1+1+1,1,none⟩) (Below.setCell (p:=⟨w.heap.size+1+1+1,0,none⟩) h3 (show w.heap.size≤w.heap.size+1+1+1 by omega) _) (show w.heap.size≤w.heap.size+1+1+1 by omega) _),h4.put2 h2,h5.put2 h2⟩ Reg.none_ trivial
 refine Reg.RP0 6 ?_
 refine Reg.RC_end (fun Dn v' W' hd hj hf=> ?_)
 clear hd hf
 refine hQ _ _ ?_
 clear hQ hops Q' ops'
 obtain⟨h1,h2,h3,h4,h5⟩:=hj
 have cr0:W'.cell? ⟨w.heap.size+1+1,0,none⟩=some (.bool b7):=h1.c 0 rfl
 have cr1:W'.cell? ⟨w.heap.size+1+1,1,none⟩=some (.slice a7 n7 c7):=h1.c 1 rfl
 have fr:=h1.fr
 have lr:=h1.lt
 have ct0:W'.cell? ⟨w.heap.size+1+1+1,0,none⟩=some (.bool b8):=h2.c 0 rfl
 have ct1:W'.cell? ⟨w.heap.size+1+1+1,1,none⟩=some (.slice a8 n8 c8):=h2.c 1 rfl
 have ft:=h2.fr
 have lt:=h2.lt
 go_wp2
 refine bodyPost_ret (by simp[results,Tryz.results75,go_sem,cr0,cr1,fr,lr,ct0,ct1,ft,lt]; rfl) rfl ?_
 exact⟨_,_,rfl,h4,h5,h3⟩
theorem wdivmod {va vb:Value} {x y:Int} (w:World) (ha:Num w va x) (hb:Num w vb y) (fx:fits x) (fy:fits y) (hy:y≠0) :
  Calls Tryz.prog 75 #[va,vb] w fun e w'=>∃q r,e = .returned (.tuple #[q,r,.int .i64 0])∧Num w' q (divF x y)∧Num w' r (modF x y)∧Steps w w':=by
 have m0:=Int.emod_nonneg (absN x) (show absN y≠0 by unfold absN; omega)
 by_cases hs:decide (x<0)=decide (y<0)
 ·
  rcases Int.lt_or_le 0 (absN x%absN y)with h | h
  · exact wdivmod_sp w ha hb fx fy hy hs h
  · exact wdivmod_sz w ha hb fx fy hy hs (by omega)
 ·
  rcases Int.lt_or_le 0 (absN x%absN y)with h | h
  · exact wdivmod_dp w ha hb fx fy hy hs h
  · exact wdivmod_dz w ha hb fx fy hy hs (by omega)
end Go.Proofs.YtdkcffnmlllamaaGreat
