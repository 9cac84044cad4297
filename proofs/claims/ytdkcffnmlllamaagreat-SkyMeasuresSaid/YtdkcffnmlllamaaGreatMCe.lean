import Derived.Test.YtdkcffnmlllamaaGreatMCc
import Derived.Test.YtdkcffnmlllamaaGreatMVc
set_option linter.unusedVariables false
set_option linter.unusedSimpArgs false
set_option maxHeartbeats 6400000
set_option maxRecDepth 1000000
namespace Go.Proofs.YtdkcffnmlllamaaGreat
open Go.RowKit
theorem fcmp_bad {va vb:Value} {s:Rat} (w:World) (ha:Bad w va) (hb:FR w vb s) :
  Calls Tryz.prog 99 #[va,vb] w fun e w'=>e = .returned (.tuple #[.int .i64 0,.int .i64 8])∧Steps w w':=by
 have ck:∀w',Keeps w w'→Calls Tryz.prog 74 #[va] w' fun e w2=>e = .returned (.int .i64 8)∧Steps w' w2:=fun w' k=>fcheck_bad w' (ha.keeps k)
 obtain⟨a1,a2,a3,a4,a5,a6,a7,a8,rfl⟩:=ha.shape
 obtain⟨b1,b2,b3,b4,b5,b6,b7,b8,rfl⟩:=hb.shape
 clear ha hb
 go_enter_defers Tryz.func99,Tryz.ntmps99
 go_wp2_with fail
 refine(ck _ keepsB).mono ?_
 rintro e w1 ⟨rfl,hs⟩
 have oe:Blk w1 (w.heap.size+1+1) 36 #[.int .i64 0]:=Blk.stepsK hs
 have B:=bA w hs
 clear hs ck
 go_wp2_with fail
 refine(fwantE 8 _ rfl).mono ?_
 rintro r w2 ⟨rfl,rfl⟩
 dsimp only
 have le:=oe.lt
 have ce:=oe.c 0 rfl
 have fe:=oe.fr 0
 refine leaves_cons (f:=72) (args:=#[.pointer (some ⟨w.heap.size+1+1,0,none⟩)]) (by simp) (by simp[go_sem]) ?_
 refine(fcatch_fall (w.heap.size+1+1) 0 8 0 [] _ ce fe le).mono ?_
 rintro e u' w'' ⟨rfl,rfl,rfl⟩
 have zz:=B.size
 have oe2:Blk ((w2.setCell ⟨w.heap.size+1+1,0,none⟩ (.int .i64 8)).alloc (.cells #[.int .i64 8] 156)) (w.heap.size+1+1) 36 #[.int .i64 8]:=(oe.set_ 0 (.int .i64 8)).alloc _
 have ce2:World.cell? ((w2.setCell ⟨w.heap.size+1+1,0,none⟩ (.int .i64 8)).alloc (.cells #[.int .i64 8] 156)) ⟨w.heap.size+1+1,0,none⟩=some (.int .i64 8):=oe2.c 0 rfl
 have B2:Below w.heap.size w ((w2.setCell ⟨w.heap.size+1+1,0,none⟩ (.int .i64 8)).alloc (.cells #[.int .i64 8] 156)):=belowB
 have l2:=oe2.lt
 generalize ((w2.setCell ⟨w.heap.size+1+1,0,none⟩ (.int .i64 8)).alloc (.cells #[.int .i64 8] 156))=w3 at *
 refine⟨_,by simp[results,Tryz.results99,go_sem,ce2,l2]; rfl,?_⟩
 exact⟨rfl,B2⟩
theorem rfboth_bad {va vb:Value} {s:Rat} (w:World) (ha:Bad w va) (hb:FR w vb s) :
  Calls Tryz.prog 82 #[va,vb] w fun e w'=>e = .returned (.int .i64 8)∧Steps w w':=by
 have ck:∀w',Keeps w w'→Calls Tryz.prog 90 #[va] w' fun e w2=>e = .returned (.int .i64 8)∧Steps w' w2:=fun w' k=>rfcheck_bad w' (ha.keeps k)
 obtain⟨a1,a2,a3,a4,a5,a6,a7,a8,rfl⟩:=ha.shape
 obtain⟨b1,b2,b3,b4,b5,b6,b7,b8,rfl⟩:=hb.shape
 clear ha hb
 go_enter Tryz.func82,Tryz.ntmps82
 have kk:=Keeps.refl w
 go_wp2_with fail
 refine(ck _ (kk.trans keepsB)).mono ?_
 rintro e w1 ⟨rfl,st⟩
 have B:=bA w st
 have kp:=kB w st
 replace kk:=kk.trans kp
 have oa:Blk w1 (w.heap.size) 32 #[.bool a1,.slice a2 a3 a4,.bool a5,.slice a6 a7 a8]:=Blk.stepsK st
 have ob:Blk w1 (w.heap.size+1) 32 #[.bool b1,.slice b2 b3 b4,.bool b5,.slice b6 b7 b8]:=Blk.stepsK st
 clear kp
 clear st
 obtain⟨ca0,ca1,ca2,ca3⟩:=oa.r3
 have la:=oa.lt
 have lb:=ob.lt
 go_wp2_with fail
 refine(ck _ (kk.trans keepsB)).mono ?_
 rintro e w2 ⟨rfl,st⟩
 have sk:=bA w1 st
 replace B:=bS B sk
 replace oa:=oa.steps sk
 replace ob:=ob.steps sk
 replace kk:=kk.then_ sk
 clear st sk ca0 ca1 ca2 ca3 la lb
 go_wp2_with fail
 refine bodyPost_ret (by simp[results,Tryz.results82,go_sem,]; rfl) rfl ?_
 exact⟨rfl,belowB⟩
theorem rcmp_bad {va vb:Value} {s:Rat} (w:World) (ha:Bad w va) (hb:FR w vb s) :
  Calls Tryz.prog 52 #[va,vb] w fun e w'=>e = .returned (.tuple #[.int .i64 0,.int .i64 8])∧Steps w w':=by
 have ck:∀w',Keeps w w'→Calls Tryz.prog 82 #[va,vb] w' fun e w2=>e = .returned (.int .i64 8)∧Steps w' w2:=fun w' k=>rfboth_bad w' (ha.keeps k) (hb.keeps k)
 obtain⟨a1,a2,a3,a4,a5,a6,a7,a8,rfl⟩:=ha.shape
 obtain⟨b1,b2,b3,b4,b5,b6,b7,b8,rfl⟩:=hb.shape
 clear ha hb
 go_enter Tryz.func52,Tryz.ntmps52
 have kk:=Keeps.refl w
 go_wp2_with fail
 refine(ck _ (kk.trans keepsB)).mono ?_
 rintro e w1 ⟨rfl,st⟩
 have B:=bA w st
 have kp:=kB w st
 replace kk:=kk.trans kp
 have oa:Blk w1 (w.heap.size) 32 #[.bool a1,.slice a2 a3 a4,.bool a5,.slice a6 a7 a8]:=Blk.stepsK st
 have ob:Blk w1 (w.heap.size+1) 32 #[.bool b1,.slice b2 b3 b4,.bool b5,.slice b6 b7 b8]:=Blk.stepsK st
 clear kp
 clear st
 obtain⟨ca0,ca1,ca2,ca3⟩:=oa.r3
 have la:=oa.lt
 obtain⟨cb0,cb1,cb2,cb3⟩:=ob.r3
 have lb:=ob.lt
 go_wp2_with fail
 refine(ck _ (kk.trans keepsB)).mono ?_
 rintro e w2 ⟨rfl,st⟩
 have sk:=bA w1 st
 replace B:=bS B sk
 replace oa:=oa.steps sk
 replace ob:=ob.steps sk
 replace kk:=kk.then_ sk
 clear st sk ca0 ca1 ca2 ca3 la cb0 cb1 cb2 cb3 lb
 go_wp2_with fail
 refine bodyPost_ret (by simp[results,Tryz.results52,go_sem,]; rfl) rfl ?_
 exact⟨rfl,belowB⟩
def cmpO (o:Option Rat) (s:Rat):Int×Int:=match o with | some r=>(cmpQ r s,0) | none=>(0,8)
theorem fcmpO {va vb:Value} {o:Option Rat} {s:Rat} (w:World) (ha:FB w va o) (hb:FR w vb s) (hz:∀r,o=some r→sz r 4) (hs:sz s 2) :
  Calls Tryz.prog 99 #[va,vb] w fun e w'=>e = .returned (.tuple #[.int .i64 (cmpO o s).1,.int .i64 (cmpO o s).2])∧Steps w w':=by
 cases o with
 | none=>exact fcmp_bad w ha hb
 | some r=>exact fCmpQ w ha hb (hz r rfl) hs (by omega)
theorem rcmpO {va vb:Value} {o:Option Rat} {s:Rat} (w:World) (ha:FB w va o) (hb:FR w vb s) (hz:∀r,o=some r→sz r 4) (hs:sz s 2) :
  Calls Tryz.prog 52 #[va,vb] w fun e w'=>e = .returned (.tuple #[.int .i64 (cmpO o s).1,.int .i64 (cmpO o s).2])∧Steps w w':=by
 cases o with
 | none=>exact rcmp_bad w ha hb
 | some r=>exact rCmpQ w ha hb (hz r rfl) hs (by omega)
def facB:Option Rat→Bool
 | some r=>decide (0≤cmpQ r ((1:Int):Rat))&&decide (cmpQ r ((1000:Int):Rat)≤0)
 | none=>false
theorem facB_ok {o:Option Rat} (h:facB o=true):∃r,o=some r∧1≤r∧r≤1000:=by
 cases o with
 | none=>cases h
 | some r=>
  unfold facB at h
  simp only[Bool.and_eq_true,decide_eq_true_eq]at h
  refine⟨r,rfl,?_,?_⟩
  ·
   have h1:((1:Int):Rat)≤r:=Rat.not_lt.1 (fun g=>by have:=cmpQ_lt.2 g; omega)
   simpa using h1
  ·
   have h1:=cmpQ_le.1 h.2
   simpa using h1
theorem pvwhole (x:Int) (w:World) (x0 : -9223372036854775808≤x) (x1:x≤9223372036854775807) :
  Calls Tryz.prog 53 #[.int .i64 x] w fun e w'=>∃v,e = .returned v∧FR w' v (x:Rat)∧Steps w w':=by
 have OF:∀w',Calls Tryz.prog 45 #[.int .i64 x,.int .i64 1] w' fun e w2=>∃v,e = .returned (.tuple #[v,.int .i64 0])∧FR w2 v (x:Rat)∧Steps w' w2:=fun w'=>by
  have:=rofF x 1 w' x0 x1 (by decide) (by decide) (by decide)
  rw[one_divQ]at this
  exact this
 clear x0 x1
 generalize (x:Rat)=q at *
 go_enter Tryz.func53,Tryz.ntmps53
 go_wp2_with fail
 refine(OF _).mono ?_
 rintro e w1 ⟨vq,rfl,hvq,st⟩
 have B:=bA w st
 have or:Blk w1 (w.heap.size) 32 #[.bool false,.slice none 0 0,.bool false,.slice none 0 0]:=Blk.stepsK st
 clear st
 obtain⟨cr0,cr1,cr2,cr3,fr,lr⟩:=or.s3
 obtain⟨q1,q2,q3,q4,q5,q6,q7,q8,rfl⟩:=hvq.shape
 have Fq:=Hid.mk_ hvq
 clear hvq
 have zr_1:w.heap.size<w1.heap.size:=or.lt
 have zz1:=B.size
 go_wp2_with fail
 refine bodyPost_ret (by simp[results,Tryz.results53,go_sem,cr0,cr1,cr2,cr3,fr,lr]; rfl) rfl ?_
 exact⟨_,rfl,Fq.out.keeps keepsB,belowB⟩
theorem vallowed {va:Value} {o:Option Rat} (w:World) (ha:FB w va o) (hz:∀r,o=some r→sz r 4) :
  Calls Tryz.prog 67 #[va] w fun e w'=>e = .returned (.bool (facB o))∧Steps w w':=by
 unfold facB
 have O1:∀w',Calls Tryz.prog 70 #[.int .i64 1,.int .i64 1] w' fun e w2=>∃v,e = .returned (.tuple #[v,.int .i64 0])∧FR w2 v ((1:Int):Rat)∧Steps w' w2:=fun w'=>by have:=fofQ 1 1 w' (by decide) (by decide) (by decide) (by decide) (by decide); rw[one_divQ]at this; exact this
 have O2:∀w',Calls Tryz.prog 70 #[.int .i64 1000,.int .i64 1] w' fun e w2=>∃v,e = .returned (.tuple #[v,.int .i64 0])∧FR w2 v ((1000:Int):Rat)∧Steps w' w2:=fun w'=>by have:=fofQ 1000 1 w' (by decide) (by decide) (by decide) (by decide) (by decide); rw[one_divQ]at this; exact this
 have s1:sz ((1:Int):Rat) 2:=sz_val (by decide)
 have s2:sz ((1000:Int):Rat) 2:=sz_val (by decide)
 have C1:∀w' v,Keeps w w'→FR w' v ((1:Int):Rat)→Calls Tryz.prog 99 #[va,v] w' fun e w2=>e = .returned (.tuple #[.int .i64 (cmpO o ((1:Int):Rat)).1,.int .i64 (cmpO o ((1:Int):Rat)).2])∧Steps w' w2:=fun w' v k h=>fcmpO w' (ha.keeps k) h hz s1
 have C2:∀w' v,Keeps w w'→FR w' v ((1000:Int):Rat)→Calls Tryz.prog 99 #[va,v] w' fun e w2=>e = .returned (.tuple #[.int .i64 (cmpO o ((1000:Int):Rat)).1,.int .i64 (cmpO o ((1000:Int):Rat)).2])∧Steps w' w2:=fun w' v k h=>fcmpO w' (ha.keeps k) h hz s2
 obtain⟨a1,a2,a3,a4,a5,a6,a7,a8,rfl⟩:=ha.shape
 generalize ((1:Int):Rat)=RA_ at *
 generalize ((1000:Int):Rat)=RB_ at *
 clear ha hz s1 s2
 cases o with
 | none=>
  simp only[cmpO]at C1 C2
  go_enter Tryz.func67,Tryz.ntmps67
  have kk:=Keeps.refl w
  go_wp2_with fail
  refine(O1 _).mono ?_
  rintro e w1 ⟨vp,rfl,hvp,hb1⟩
  have st:Steps _ w1:=hb1
  have B:=bA w st
  have kp:=kB w st
  replace kk:=kk.trans kp
  have ok:Blk w1 (w.heap.size) 32 #[.bool a1,.slice a2 a3 a4,.bool a5,.slice a6 a7 a8]:=Blk.stepsK st
  clear kp
  clear st
  obtain⟨p1,p2,p3,p4,p5,p6,p7,p8,rfl⟩:=hvp.shape
  have Fp:=Hid.mk_ hvp
  clear hvp
  have zk_1:w.heap.size<w1.heap.size:=ok.lt
  have zz1:=B.size
  go_wp2_with fail
  refine(O2 _).mono ?_
  rintro e w2 ⟨vq,rfl,hvq,hb2⟩
  have st:Steps _ w2:=hb2
  have sk:=bA w1 st
  replace B:=bS B sk
  have op:Blk w2 (w1.heap.size) 32 #[.bool p1,.slice p2 p3 p4,.bool p5,.slice p6 p7 p8]:=Blk.stepsK st
  replace ok:=ok.steps sk
  replace Fp:=Hid.mk_ (Fp.out.steps sk)
  replace kk:=kk.then_ sk
  clear st sk
  obtain⟨ck0,ck1,ck2,ck3⟩:=ok.r3
  have lk:=ok.lt
  obtain⟨cp0,cp1,cp2,cp3⟩:=op.r3
  have lp:=op.lt
  obtain⟨q1,q2,q3,q4,q5,q6,q7,q8,rfl⟩:=hvq.shape
  have Fq:=Hid.mk_ hvq
  clear hvq
  have zp_2:w1.heap.size<w2.heap.size:=op.lt
  have zz2:=B.size
  go_wp2_with fail
  refine(C1 _ _ (kk.trans keepsB) (Fp.out.keeps keepsB)).mono ?_
  rintro e w3 ⟨rfl,hb3⟩
  have st:Steps _ w3:=hb3
  have sk:=bA w2 st
  replace B:=bS B sk
  have oq:Blk w3 (w2.heap.size) 32 #[.bool q1,.slice q2 q3 q4,.bool q5,.slice q6 q7 q8]:=Blk.stepsK st
  replace ok:=ok.steps sk
  replace op:=op.steps sk
  replace Fp:=Hid.mk_ (Fp.out.steps sk)
  replace Fq:=Hid.mk_ (Fq.out.steps sk)
  replace kk:=kk.then_ sk
  clear st sk ck0 ck1 ck2 ck3 lk cp0 cp1 cp2 cp3 lp
  obtain⟨ck0,ck1,ck2,ck3⟩:=ok.r3
  have lk:=ok.lt
  obtain⟨cq0,cq1,cq2,cq3⟩:=oq.r3
  have lq:=oq.lt
  go_wp2_with fail
  refine(C2 _ _ (kk.trans keepsB) (Fq.out.keeps keepsB)).mono ?_
  rintro e w4 ⟨rfl,hb4⟩
  have st:Steps _ w4:=hb4
  have sk:=bA w3 st
  replace B:=bS B sk
  replace ok:=ok.steps sk
  replace op:=op.steps sk
  replace oq:=oq.steps sk
  replace Fp:=Hid.mk_ (Fp.out.steps sk)
  replace Fq:=Hid.mk_ (Fq.out.steps sk)
  replace kk:=kk.then_ sk
  clear st sk ck0 ck1 ck2 ck3 lk cq0 cq1 cq2 cq3 lq
  go_wp2_with fail
  refine bodyPost_ret (by simp[results,Tryz.results67,go_sem,]; rfl) rfl ?_
  exact⟨rfl,belowB⟩
 | some r=>
  obtain⟨x,hx⟩:∃x,cmpQ r RA_=x:=⟨_,rfl⟩
  obtain⟨y,hy⟩:∃y,cmpQ r RB_=y:=⟨_,rfl⟩
  simp only[cmpO,hx,hy]at C1 C2⊢
  clear hx hy
  by_cases x0:0≤x
  focus
   have dx:decide (0≤x)=true:=decide_eq_true x0
   rw[dx,Bool.true_and]
  rotate_left
  focus
   have dx:decide (0≤x)=false:=decide_eq_false x0
   rw[dx,Bool.false_and]
  rotate_left
  all_goals
   go_enter Tryz.func67,Tryz.ntmps67
   have kk:=Keeps.refl w
   go_wp2_with fail
   refine(O1 _).mono ?_
   rintro e w1 ⟨vp,rfl,hvp,hb1⟩
   have st:Steps _ w1:=hb1
   have B:=bA w st
   have kp:=kB w st
   replace kk:=kk.trans kp
   have ok:Blk w1 (w.heap.size) 32 #[.bool a1,.slice a2 a3 a4,.bool a5,.slice a6 a7 a8]:=Blk.stepsK st
   clear kp
   clear st
   obtain⟨p1,p2,p3,p4,p5,p6,p7,p8,rfl⟩:=hvp.shape
   have Fp:=Hid.mk_ hvp
   clear hvp
   have zk_1:w.heap.size<w1.heap.size:=ok.lt
   have zz1:=B.size
   go_wp2_with fail
   refine(O2 _).mono ?_
   rintro e w2 ⟨vq,rfl,hvq,hb2⟩
   have st:Steps _ w2:=hb2
   have sk:=bA w1 st
   replace B:=bS B sk
   have op:Blk w2 (w1.heap.size) 32 #[.bool p1,.slice p2 p3 p4,.bool p5,.slice p6 p7 p8]:=Blk.stepsK st
   replace ok:=ok.steps sk
   replace Fp:=Hid.mk_ (Fp.out.steps sk)
   replace kk:=kk.then_ sk
   clear st sk
   obtain⟨ck0,ck1,ck2,ck3⟩:=ok.r3
   have lk:=ok.lt
   obtain⟨cp0,cp1,cp2,cp3⟩:=op.r3
   have lp:=op.lt
   obtain⟨q1,q2,q3,q4,q5,q6,q7,q8,rfl⟩:=hvq.shape
   have Fq:=Hid.mk_ hvq
   clear hvq
   have zp_2:w1.heap.size<w2.heap.size:=op.lt
   have zz2:=B.size
   go_wp2_with fail
   refine(C1 _ _ (kk.trans keepsB) (Fp.out.keeps keepsB)).mono ?_
   rintro e w3 ⟨rfl,hb3⟩
   have st:Steps _ w3:=hb3
   have sk:=bA w2 st
   replace B:=bS B sk
   have oq:Blk w3 (w2.heap.size) 32 #[.bool q1,.slice q2 q3 q4,.bool q5,.slice q6 q7 q8]:=Blk.stepsK st
   replace ok:=ok.steps sk
   replace op:=op.steps sk
   replace Fp:=Hid.mk_ (Fp.out.steps sk)
   replace Fq:=Hid.mk_ (Fq.out.steps sk)
   replace kk:=kk.then_ sk
   clear st sk ck0 ck1 ck2 ck3 lk cp0 cp1 cp2 cp3 lp
   obtain⟨ck0,ck1,ck2,ck3⟩:=ok.r3
   have lk:=ok.lt
   obtain⟨cq0,cq1,cq2,cq3⟩:=oq.r3
   have lq:=oq.lt
   go_wp2_with fail
   refine(C2 _ _ (kk.trans keepsB) (Fq.out.keeps keepsB)).mono ?_
   rintro e w4 ⟨rfl,hb4⟩
   have st:Steps _ w4:=hb4
   have sk:=bA w3 st
   replace B:=bS B sk
   replace ok:=ok.steps sk
   replace op:=op.steps sk
   replace oq:=oq.steps sk
   replace Fp:=Hid.mk_ (Fp.out.steps sk)
   replace Fq:=Hid.mk_ (Fq.out.steps sk)
   replace kk:=kk.then_ sk
   clear st sk ck0 ck1 ck2 ck3 lk cq0 cq1 cq2 cq3 lq
   go_wp2_with fail
   refine bodyPost_ret (by simp[results,Tryz.results67,go_sem,]; rfl) rfl ?_
   exact⟨rfl,belowB⟩
theorem pvfactor {va:Value} {o:Option Rat} (w:World) (ha:FB w va o) (hz:∀r,o=some r→sz r 4) :
  Calls Tryz.prog 35 #[va] w fun e w'=>e = .returned (.bool (facB o))∧Steps w w':=by
 unfold facB
 have O1:∀w',Calls Tryz.prog 53 #[.int .i64 1] w' fun e w2=>∃v,e = .returned v∧FR w2 v ((1:Int):Rat)∧Steps w' w2:=fun w'=>pvwhole 1 w' (by decide) (by decide)
 have O2:∀w',Calls Tryz.prog 53 #[.int .i64 1000] w' fun e w2=>∃v,e = .returned v∧FR w2 v ((1000:Int):Rat)∧Steps w' w2:=fun w'=>pvwhole 1000 w' (by decide) (by decide)
 have s1:sz ((1:Int):Rat) 2:=sz_val (by decide)
 have s2:sz ((1000:Int):Rat) 2:=sz_val (by decide)
 have C1:∀w' v,Keeps w w'→FR w' v ((1:Int):Rat)→Calls Tryz.prog 52 #[va,v] w' fun e w2=>e = .returned (.tuple #[.int .i64 (cmpO o ((1:Int):Rat)).1,.int .i64 (cmpO o ((1:Int):Rat)).2])∧Steps w' w2:=fun w' v k h=>rcmpO w' (ha.keeps k) h hz s1
 have C2:∀w' v,Keeps w w'→FR w' v ((1000:Int):Rat)→Calls Tryz.prog 52 #[va,v] w' fun e w2=>e = .returned (.tuple #[.int .i64 (cmpO o ((1000:Int):Rat)).1,.int .i64 (cmpO o ((1000:Int):Rat)).2])∧Steps w' w2:=fun w' v k h=>rcmpO w' (ha.keeps k) h hz s2
 obtain⟨a1,a2,a3,a4,a5,a6,a7,a8,rfl⟩:=ha.shape
 generalize ((1:Int):Rat)=RA_ at *
 generalize ((1000:Int):Rat)=RB_ at *
 clear ha hz s1 s2
 cases o with
 | none=>
  simp only[cmpO]at C1 C2
  go_enter Tryz.func35,Tryz.ntmps35
  have kk:=Keeps.refl w
  go_wp2_with fail
  go_upto_region 1 with fail
  refine Reg.chn (fun N0 D v W=>Below w.heap.size w W∧Keeps w W∧N0≤W.heap.size∧Blk W (w.heap.size) 32 #[.bool a1,.slice a2 a3 a4,.bool a5,.slice a6 a7 a8]) [1,2] [(1,IsFr),(2,fun z_=>z_ = .tuple #[.int .i64 0,.int .i64 8])] [(1,GFr (RA_))] [(2,[(1,some 9)]),(8,[(1,some 9),(2,some 10)])] [] (fun N0 hN0=>⟨fun v=> ?_,fun D v v' W hv hj=> ?_,fun ops' Q' hops hQ=> ?_⟩)
  · exact⟨belowB,keepsB,leD hN0,ownK⟩
  · exact hj
  clear hN0
  refine Reg.RPf 8 (fun _ _ _ h=>h.2.2.2.r3) ?_
  refine Reg.RC_call rfl (tlt rfl) rfl (fun D v' W' hc hj hf K hK=> ?_) ?_
  ·
   clear hf
   go_step
   refine(O1 W').mono ?_
   rintro e W2 ⟨u,rfl,hu,hs⟩
   obtain⟨p1,p2,p3,p4,p5,p6,p7,p8,rfl⟩:=hu.shape
   exact hK.out _ W2 (Keeps.steps hs) (jb1 hj hs) hu ⟨_,_,_,_,_,_,_,_,rfl⟩
  rintro _ ⟨p1,p2,p3,p4,p5,p6,p7,p8,rfl⟩
  refine Reg.at33 rfl ?_
  refine Reg.RC_call rfl (tlt rfl) rfl (fun D v' W' hc hj hf K hK=> ?_) ?_
  ·
   have g1:GFr (RA_) _ W':=(hf (1,some 9) (.head _) rfl).2.2
   have g1:FR W' _ (RA_):=g1
   clear hf
   go_step
   refine(C1 W' _ (kk.trans hj.2.1) g1).mono ?_
   rintro e W2 ⟨rfl,hs⟩
   exact hK.out _ W2 (Keeps.steps hs) (jb1 hj hs) trivial rfl
  rintro _ rfl
  refine Reg.at33 rfl ?_
  repeat refine Reg.RP0 _ ?_
  refine Reg.RC_end (fun Dn v' w1 hd hj hf=> ?_)
  obtain⟨B,jk,jn,ok⟩:=hj
  replace kk:=kk.trans jk
  clear hd hf jk
  refine hQ _ _ ?_
  clear hQ hops Q' ops'
  obtain⟨ck0,ck1,ck2,ck3⟩:=ok.r3
  have lk:=ok.lt
  go_wp2_with fail
  have zk_1:w.heap.size<w1.heap.size:=ok.lt
  have zz1:=B.size
  go_upto_region 2 with fail
  refine Reg.chn (fun N0 D v W=>Below w.heap.size w W∧Keeps w1 W∧N0≤W.heap.size∧Blk W (w.heap.size) 32 #[.bool a1,.slice a2 a3 a4,.bool a5,.slice a6 a7 a8]) [1,2] [(1,IsFr),(2,fun z_=>z_ = .tuple #[.int .i64 0,.int .i64 8])] [(1,GFr (RB_))] [(2,[(1,some 15)]),(8,[(1,some 15),(2,some 16)])] [] (fun N0 hN0=>⟨fun v=> ?_,fun D v v' W hv hj=> ?_,fun ops' Q' hops hQ=> ?_⟩)
  · exact⟨belowB,keepsB,leD hN0,ownK⟩
  · exact hj
  clear ck0 ck1 ck2 ck3 lk
  clear hN0
  refine Reg.RPf 14 (fun _ _ _ h=>h.2.2.2.r3) ?_
  refine Reg.RC_call rfl (tlt rfl) rfl (fun D v' W' hc hj hf K hK=> ?_) ?_
  ·
   clear hf
   go_step
   refine(O2 W').mono ?_
   rintro e W2 ⟨u,rfl,hu,hs⟩
   obtain⟨q1,q2,q3,q4,q5,q6,q7,q8,rfl⟩:=hu.shape
   exact hK.out _ W2 (Keeps.steps hs) (jb1 hj hs) hu ⟨_,_,_,_,_,_,_,_,rfl⟩
  rintro _ ⟨q1,q2,q3,q4,q5,q6,q7,q8,rfl⟩
  refine Reg.at33 rfl ?_
  refine Reg.RC_call rfl (tlt rfl) rfl (fun D v' W' hc hj hf K hK=> ?_) ?_
  ·
   have g1:GFr (RB_) _ W':=(hf (1,some 15) (.head _) rfl).2.2
   have g1:FR W' _ (RB_):=g1
   clear hf
   go_step
   refine(C2 W' _ (kk.trans hj.2.1) g1).mono ?_
   rintro e W2 ⟨rfl,hs⟩
   exact hK.out _ W2 (Keeps.steps hs) (jb1 hj hs) trivial rfl
  rintro _ rfl
  refine Reg.at33 rfl ?_
  repeat refine Reg.RP0 _ ?_
  refine Reg.RC_end (fun Dn v' w2 hd hj hf=> ?_)
  obtain⟨B,jk,jn,ok⟩:=hj
  replace kk:=kk.trans jk
  clear hd hf jk
  refine hQ _ _ ?_
  clear hQ hops Q' ops'
  go_wp2_with fail
  refine bodyPost_ret (by simp[results,Tryz.results35,go_sem,]; rfl) rfl ?_
  exact⟨rfl,belowB⟩
 | some r=>
  obtain⟨x,hx⟩:∃x,cmpQ r RA_=x:=⟨_,rfl⟩
  obtain⟨y,hy⟩:∃y,cmpQ r RB_=y:=⟨_,rfl⟩
  simp only[cmpO,hx,hy]at C1 C2⊢
  clear hx hy
  by_cases x0:0≤x
  focus
   have dx:decide (0≤x)=true:=decide_eq_true x0
   rw[dx,Bool.true_and]
  rotate_left
  focus
   have dx:decide (0≤x)=false:=decide_eq_false x0
   rw[dx,Bool.false_and]
  rotate_left
  all_goals
   go_enter Tryz.func35,Tryz.ntmps35
   have kk:=Keeps.refl w
   go_wp2_with fail
   go_upto_region 1 with fail
   refine Reg.chn (fun N0 D v W=>Below w.heap.size w W∧Keeps w W∧N0≤W.heap.size∧Blk W (w.heap.size) 32 #[.bool a1,.slice a2 a3 a4,.bool a5,.slice a6 a7 a8]) [1,2] [(1,IsFr),(2,fun z_=>z_ = .tuple #[.int .i64 x,.int .i64 0])] [(1,GFr (RA_))] [(2,[(1,some 9)]),(8,[(1,some 9),(2,some 10)])] [] (fun N0 hN0=>⟨fun v=> ?_,fun D v v' W hv hj=> ?_,fun ops' Q' hops hQ=> ?_⟩)
   · exact⟨belowB,keepsB,leD hN0,ownK⟩
   · exact hj
   clear hN0
   refine Reg.RPf 8 (fun _ _ _ h=>h.2.2.2.r3) ?_
   refine Reg.RC_call rfl (tlt rfl) rfl (fun D v' W' hc hj hf K hK=> ?_) ?_
   ·
    clear hf
    go_step
    refine(O1 W').mono ?_
    rintro e W2 ⟨u,rfl,hu,hs⟩
    obtain⟨p1,p2,p3,p4,p5,p6,p7,p8,rfl⟩:=hu.shape
    exact hK.out _ W2 (Keeps.steps hs) (jb1 hj hs) hu ⟨_,_,_,_,_,_,_,_,rfl⟩
   rintro _ ⟨p1,p2,p3,p4,p5,p6,p7,p8,rfl⟩
   refine Reg.at33 rfl ?_
   refine Reg.RC_call rfl (tlt rfl) rfl (fun D v' W' hc hj hf K hK=> ?_) ?_
   ·
    have g1:GFr (RA_) _ W':=(hf (1,some 9) (.head _) rfl).2.2
    have g1:FR W' _ (RA_):=g1
    clear hf
    go_step
    refine(C1 W' _ (kk.trans hj.2.1) g1).mono ?_
    rintro e W2 ⟨rfl,hs⟩
    exact hK.out _ W2 (Keeps.steps hs) (jb1 hj hs) trivial rfl
   rintro _ rfl
   refine Reg.at33 rfl ?_
   repeat refine Reg.RP0 _ ?_
   refine Reg.RC_end (fun Dn v' w1 hd hj hf=> ?_)
   obtain⟨B,jk,jn,ok⟩:=hj
   replace kk:=kk.trans jk
   clear hd hf jk
   refine hQ _ _ ?_
   clear hQ hops Q' ops'
   obtain⟨ck0,ck1,ck2,ck3⟩:=ok.r3
   have lk:=ok.lt
   go_wp2_with fail
   have zk_1:w.heap.size<w1.heap.size:=ok.lt
   have zz1:=B.size
   go_upto_region 2 with fail
   refine Reg.chn (fun N0 D v W=>Below w.heap.size w W∧Keeps w1 W∧N0≤W.heap.size∧Blk W (w.heap.size) 32 #[.bool a1,.slice a2 a3 a4,.bool a5,.slice a6 a7 a8]) [1,2] [(1,IsFr),(2,fun z_=>z_ = .tuple #[.int .i64 y,.int .i64 0])] [(1,GFr (RB_))] [(2,[(1,some 15)]),(8,[(1,some 15),(2,some 16)])] [] (fun N0 hN0=>⟨fun v=> ?_,fun D v v' W hv hj=> ?_,fun ops' Q' hops hQ=> ?_⟩)
   · exact⟨belowB,keepsB,leD hN0,ownK⟩
   · exact hj
   clear ck0 ck1 ck2 ck3 lk
   clear hN0
   refine Reg.RPf 14 (fun _ _ _ h=>h.2.2.2.r3) ?_
   refine Reg.RC_call rfl (tlt rfl) rfl (fun D v' W' hc hj hf K hK=> ?_) ?_
   ·
    clear hf
    go_step
    refine(O2 W').mono ?_
    rintro e W2 ⟨u,rfl,hu,hs⟩
    obtain⟨q1,q2,q3,q4,q5,q6,q7,q8,rfl⟩:=hu.shape
    exact hK.out _ W2 (Keeps.steps hs) (jb1 hj hs) hu ⟨_,_,_,_,_,_,_,_,rfl⟩
   rintro _ ⟨q1,q2,q3,q4,q5,q6,q7,q8,rfl⟩
   refine Reg.at33 rfl ?_
   refine Reg.RC_call rfl (tlt rfl) rfl (fun D v' W' hc hj hf K hK=> ?_) ?_
   ·
    have g1:GFr (RB_) _ W':=(hf (1,some 15) (.head _) rfl).2.2
    have g1:FR W' _ (RB_):=g1
    clear hf
    go_step
    refine(C2 W' _ (kk.trans hj.2.1) g1).mono ?_
    rintro e W2 ⟨rfl,hs⟩
    exact hK.out _ W2 (Keeps.steps hs) (jb1 hj hs) trivial rfl
   rintro _ rfl
   refine Reg.at33 rfl ?_
   repeat refine Reg.RP0 _ ?_
   refine Reg.RC_end (fun Dn v' w2 hd hj hf=> ?_)
   obtain⟨B,jk,jn,ok⟩:=hj
   replace kk:=kk.trans jk
   clear hd hf jk
   refine hQ _ _ ?_
   clear hQ hops Q' ops'
   go_wp2_with fail
   refine bodyPost_ret (by simp[results,Tryz.results35,go_sem,]; rfl) rfl ?_
   exact⟨rfl,belowB⟩
def FarOk (w:World) (gc p1 p2 p3 p4:Nat) (l:List Int) (k:Rat):Prop:=Blk w p1 146 #[.pointer (some ⟨gc,0,none⟩)]∧
 (∃ (n1:Bool) (n2:Option Addr) (n3 n4:Nat) (s1:Bool) (s2:Option Addr) (s3 s4:Nat) (q1:Bool) (q2:Option Addr) (q3 q4:Nat),Blk w p2 148 #[.bool n1,.slice n2 n3 n4,.bool s1,.slice s2 s3 s4,.bool q1,.slice q2 q3 q4]∧
  Num w (.agg #[.bool n1,.slice n2 n3 n4]) (nI l)∧Num w (.agg #[.bool s1,.slice s2 s3 s4]) (sumI l))∧
 (∃ (k1:Bool) (k2:Option Addr) (k3 k4:Nat) (k5:Bool) (k6:Option Addr) (k7 k8:Nat),Blk w p3 32 #[.bool k1,.slice k2 k3 k4,.bool k5,.slice k6 k7 k8]∧Num w (.agg #[.bool k5,.slice k6 k7 k8]) k.den)∧
 (∃ (m1:Bool) (m2:Option Addr) (m3 m4:Nat),Blk w p4 30 #[.bool m1,.slice m2 m3 m4]∧Num w (.agg #[.bool m1,.slice m2 m3 m4]) (k.num*k.num*sprI l))
theorem FarOk.steps {w w':World} {gc p1 p2 p3 p4:Nat} {l:List Int} {k:Rat} (h:FarOk w gc p1 p2 p3 p4 l k) (s:Steps w w'):FarOk w' gc p1 p2 p3 p4 l k:=by
 have kp:=Keeps.steps s
 obtain⟨h1,⟨n1,n2,n3,n4,s1,s2,s3,s4,q1,q2,q3,q4,b2,f1,f2⟩,⟨k1,k2,k3,k4,k5,k6,k7,k8,b3,f3⟩,m1,m2,m3,m4,b4,f4⟩:=h
 exact⟨h1.steps s,⟨n1,n2,n3,n4,s1,s2,s3,s4,q1,q2,q3,q4,b2.steps s,f1.keeps kp,f2.keeps kp⟩,⟨k1,k2,k3,k4,k5,k6,k7,k8,b3.steps s,f3.keeps kp⟩,m1,m2,m3,m4,b4.steps s,f4.keeps kp⟩
theorem far_sizes {l:List Int} {k:Rat} {x:Int} (hv:valL l) (hk:sz k 4) (hx : -4294967296≤x∧x≤4294967296):absN x≤bp 2∧absN (nI l*x)≤bp 3∧absN (nI l*x-sumI l)≤bp 4∧absN (k.den:Int)≤bp 4∧absN ((nI l*x-sumI l)*k.den)≤bp 8∧absN (((nI l*x-sumI l)*k.den)*((nI l*x-sumI l)*k.den))≤bp 16∧absN (k.num*k.num)≤bp 8∧absN (k.num*k.num*sprI l)≤bp 13:=by
 have h0:absN x≤bp 2:=by rw[bp2_]; unfold absN; omega
 have h1:absN (nI l*x)≤bp 3:=absN_mul_le (i:=1) (j:=2) (val_n hv) h0
 have h2:absN (nI l*x-sumI l)≤bp 4:=absN_sub_le h1 (Int.le_trans (val_sum hv) (bp_mono (by omega)))
 have h3:absN (k.den:Int)≤bp 4:=by rw[den_abs]; exact hk.2
 have h4:absN ((nI l*x-sumI l)*k.den)≤bp 8:=absN_mul_le (i:=4) (j:=4) h2 h3
 have h5:absN (k.num*k.num)≤bp 8:=absN_mul_le (i:=4) (j:=4) hk.1 hk.1
 exact⟨h0,h1,h2,h3,h4,absN_mul_le (i:=8) (j:=8) h4 h4,h5,absN_mul_le (i:=8) (j:=5) h5 (val_spr hv)⟩
theorem vfar1 {gc p1 p2 p3 p4:Nat} {tc:TypeId} {l:List Int} {k:Rat} {x:Int} (w:World) (hc:Blk w gc tc #[.int .i64 0]) (h:FarOk w gc p1 p2 p3 p4 l k) (hv:valL l) (hl:l≠ []) (hk:sz k 4) (hx : -4294967296≤x∧x≤4294967296) :
  Calls Tryz.prog 103 #[.int .i64 x,.pointer (some ⟨p1,0,none⟩),.pointer (some ⟨p2,0,none⟩),.pointer (some ⟨p3,0,none⟩),.pointer (some ⟨p4,0,none⟩)] w fun e w'=>e = .returned (.bool (!keepB l k x))∧Steps w w':=by
 obtain⟨z0,z1,z2,z3,z4,z5,z6,z7⟩:=far_sizes hv hk hx
 have KC:∀w',Steps w w'→Blk w' gc tc #[.int .i64 0]:=fun w' s=>hc.steps s
 have fN:fits (nI l):=fits_bp (val_n hv) (by omega)
 have fS:fits (sumI l):=fits_bp (val_sum hv) (by omega)
 have f0:fits x:=fits_bp z0 (by omega)
 have f1:fits (nI l*x):=fits_bp z1 (by omega)
 have f2:fits (nI l*x-sumI l):=fits_bp z2 (by omega)
 have f3:fits (k.den:Int):=fits_bp z3 (by omega)
 have f4:fits ((nI l*x-sumI l)*k.den):=fits_bp z4 (by omega)
 have f5:fits (((nI l*x-sumI l)*k.den)*((nI l*x-sumI l)*k.den)):=fits_bp z5 (by omega)
 have f7:fits (k.num*k.num*sprI l):=fits_bp z7 (by omega)
 have FX:∀w',Calls Tryz.prog 105 #[.int .i64 x] w' fun e w2=>∃v,e = .returned v∧Num w2 v x∧Steps w' w2:=fun w'=>wfrom x w' (by omega) (by omega)
 have M1:∀w' u v,Steps w w'→Num w' u (nI l)→Num w' v x→Calls Tryz.prog 101 #[.pointer (some ⟨gc,0,none⟩),u,v] w' fun e w2=>∃v,e = .returned v∧Num w2 v (nI l*x)∧Steps w' w2:=fun w' u v s h1 h2=>vmul w' (KC w' s) h1 h2 fN f0 f1
 have SB:∀w' u v,Steps w w'→Num w' u (nI l*x)→Num w' v (sumI l)→Calls Tryz.prog 104 #[.pointer (some ⟨gc,0,none⟩),u,v] w' fun e w2=>∃v,e = .returned v∧Num w2 v (nI l*x-sumI l)∧Steps w' w2:=fun w' u v s h1 h2=>vsub w' (KC w' s) h1 h2 f1 fS f2
 have M2:∀w' u v,Steps w w'→Num w' u (nI l*x-sumI l)→Num w' v (k.den:Int)→Calls Tryz.prog 101 #[.pointer (some ⟨gc,0,none⟩),u,v] w' fun e w2=>∃v,e = .returned v∧Num w2 v ((nI l*x-sumI l)*k.den)∧Steps w' w2:=fun w' u v s h1 h2=>vmul w' (KC w' s) h1 h2 f2 f3 f4
 have M3:∀w' u v,Steps w w'→Num w' u ((nI l*x-sumI l)*k.den)→Num w' v ((nI l*x-sumI l)*k.den)→Calls Tryz.prog 101 #[.pointer (some ⟨gc,0,none⟩),u,v] w' fun e w2=>∃v,e = .returned v∧Num w2 v (((nI l*x-sumI l)*k.den)*((nI l*x-sumI l)*k.den))∧Steps w' w2:=fun w' u v s h1 h2=>vmul w' (KC w' s) h1 h2 f4 f4 f5
 have CM:∀w' u v,Num w' u (((nI l*x-sumI l)*k.den)*((nI l*x-sumI l)*k.den))→Num w' v (k.num*k.num*sprI l)→Calls Tryz.prog 76 #[u,v] w' fun e w2=>e = .returned (.tuple #[.int .i64 (cmpI (((nI l*x-sumI l)*k.den)*((nI l*x-sumI l)*k.den)) (k.num*k.num*sprI l)),.int .i64 0])∧Steps w' w2:=fun w' u v h1 h2=>wCmp w' h1 h2 f5 f7
 have KE:∀w',Steps w w'→Calls Tryz.prog 106 #[.pointer (some ⟨gc,0,none⟩),.agg #[.bool false,.slice none 0 0],.int .i64 0] w' fun e w2=>e = .returned (.agg #[.bool false,.slice none 0 0])∧Steps w' w2:=fun w' s=>vkeep _ _ _ _ w' (KC w' s)
 have RS:(!keepB l k x)=decide (0<cmpI (((nI l*x-sumI l)*k.den)*((nI l*x-sumI l)*k.den)) (k.num*k.num*sprI l)):=by
  rw[keep_prog hl]
  by_cases g:((nI l*x-sumI l)*k.den)*((nI l*x-sumI l)*k.den)≤k.num*k.num*sprI l
  · rw[decide_eq_true g,decide_eq_false (fun e=>by have:=cmpI_pos.1 e; omega)]; rfl
  · rw[decide_eq_false g,decide_eq_true (cmpI_pos.2 (by omega))]; rfl
 rw[RS]
 obtain⟨b1,⟨n1,n2,n3,n4,s1,s2,s3,s4,q1,q2,q3,q4,b2,g1,g2⟩,⟨k1,k2,k3,k4,k5,k6,k7,k8,b3,g3⟩,m1,m2,m3,m4,b4,g4⟩:=h
 have Fn:=Hid.mk_ g1
 have Fs:=Hid.mk_ g2
 have Fkd:=Hid.mk_ g3
 have Fm:=Hid.mk_ g4
 have oc:=b1
 have os:=b2
 have ok:=b3
 have om:=b4
 generalize cmpI (((nI l*x-sumI l)*k.den)*((nI l*x-sumI l)*k.den)) (k.num*k.num*sprI l)=C at *
 generalize ((nI l*x-sumI l)*k.den)*((nI l*x-sumI l)*k.den)=DD at *
 generalize k.num*k.num*sprI l=MO at *
 generalize (nI l*x-sumI l)*k.den=D at *
 generalize (nI l*x-sumI l)=E at *
 generalize nI l*x=NX at *
 generalize nI l=NN at *
 generalize sumI l=SS at *
 generalize (k.den:Int)=KD at *
 clear z0 z1 z2 z3 z4 z5 z6 z7 fN fS f0 f1 f2 f3 f4 f5 f7 hv hl hk hx g1 g2 g3 g4 b1 b2 b3 b4 hc KC RS
 go_enter Tryz.func103,Tryz.ntmps103
 have kk:=Keeps.refl w
 have B:=Below.refl w.heap.size w
 have lc:=oc.lt
 have ls:=os.lt
 have lk:=ok.lt
 have lm:=om.lt
 go_wp2_with fail
 clear lc ls lk lm
 go_upto_region 1 with fail
 refine Reg.chn (fun N0 D v W=>Below w.heap.size w W∧Keeps w W∧N0≤W.heap.size∧Blk W (p1) 146 #[.pointer (some ⟨gc,0,none⟩)]∧Blk W (p2) 148 #[.bool n1,.slice n2 n3 n4,.bool s1,.slice s2 s3 s4,.bool q1,.slice q2 q3 q4]∧Blk W (p3) 32 #[.bool k1,.slice k2 k3 k4,.bool k5,.slice k6 k7 k8]∧Blk W (p4) 30 #[.bool m1,.slice m2 m3 m4]∧(D 14=true→∃g:Nat,v 14 = .pointer (some ⟨g,0,none⟩)∧N0≤g∧g<W.heap.size∧(D 15=false→Blk W g 30 #[.bool false,.slice none 0 0])∧(D 15=true→D 13=true∧∃cs,v 13 = .agg cs∧Blk W g 30 cs))) [6,7,10,13,14,15] [(6,IsNu),(7,IsNu),(10,IsNu),(13,IsNu),(14,IsPtr)] [(6,GNu (x)),(7,GNu (NX)),(10,GNu (E)),(13,GNu (D))] [(7,[(6,some 16)]),(10,[(7,some 17)]),(13,[(10,some 20)]),(15,[(13,some 23),(14,some 7)]),(16,[(6,some 16),(7,some 17),(10,some 20),(13,some 23),(14,some 7)])] [(14,[15]),(13,[15])] (fun N0 hN0=>⟨fun v=> ?_,fun D v v' W hv hj=> ?_,fun ops' Q' hops hQ=> ?_⟩)
 · exact⟨belowB,keepsB,leD hN0,ownK,ownK,ownK,ownK,(fun h=>Bool.noConfusion h)⟩
 ·
  obtain⟨j0,jk,jn,b_c,b_s,b_k,b_m,a_14⟩:=hj
  exact⟨j0,jk,jn,b_c,b_s,b_k,b_m,fun h=>by obtain⟨g,e1,e2,e3,e4,e5⟩:=a_14 h; exact⟨g,(hv 14 h)▸e1,e2,e3,e4,fun h=>by obtain⟨d,cs,e,hb⟩:=e5 h; exact⟨d,cs,(hv 13 d)▸e,hb⟩⟩⟩
 have eN:=hN0.out
 try simp only[World.size_alloc,World.size_setCell,World.size_drew,World.heap_drewN]at eN
 have i_c:p1<N0:=by first | omega | (have h:=oc.lt; omega)
 have i_s:p2<N0:=by first | omega | (have h:=os.lt; omega)
 have i_k:p3<N0:=by first | omega | (have h:=ok.lt; omega)
 have i_m:p4<N0:=by first | omega | (have h:=om.lt; omega)
 have iw:w.heap.size≤N0:=by first | omega | (have h:=B.size; omega)
 clear hN0 eN
 refine Reg.RPf 10 (fun _ _ _ h=>h.2.2.2.1.q0) ?_
 refine Reg.RPf 11 (fun _ _ _ h=>h.2.2.2.1.q0) ?_
 refine Reg.RPf 12 (fun _ _ _ h=>h.2.2.2.1.q0) ?_
 refine Reg.RP0 13 ?_
 refine Reg.RPf 14 (fun _ _ _ h=>h.2.2.2.2.1.r1) ?_
 refine Reg.RP0 15 ?_
 refine Reg.RC_call rfl (tlt rfl) rfl (fun D v' W' hc hj hf K hK=> ?_) ?_
 ·
  obtain⟨j0,jk,jn,b_c,b_s,b_k,b_m,a_14⟩:=hj
  clear hf
  go_step
  refine(FX W').mono ?_
  rintro e W2 ⟨u,rfl,hu,hs⟩
  obtain⟨f1,f2,f3,f4,rfl⟩:=hu.shape
  exact hK.out _ W2 (Keeps.steps hs) ⟨jst j0 hs,jk.then_ hs,jsz jn hs,b_c.steps hs,b_s.steps hs,b_k.steps hs,b_m.steps hs,fun h=>by obtain⟨g,e1,e2,e3,e4,e5⟩:=a_14 h; exact⟨g,e1,e2,Nat.lt_of_lt_of_le e3 (hs).size,fun h=>(e4 h).steps hs,fun h=>by obtain⟨d,cs,e,hb⟩:=e5 h; exact⟨d,cs,e,hb.steps hs⟩⟩⟩ hu ⟨_,_,_,_,rfl⟩
 rintro _ ⟨f1,f2,f3,f4,rfl⟩
 refine Reg.at39 rfl ?_
 refine Reg.RC_call rfl (tlt rfl) rfl (fun D v' W' hc hj hf K hK=> ?_) ?_
 ·
  obtain⟨j0,jk,jn,b_c,b_s,b_k,b_m,a_14⟩:=hj
  have g6:GNu (x) _ W':=(hf (6,some 16) (.head _) rfl).2.2
  have g6:Num W' _ (x):=g6
  clear hf
  go_step
  refine(M1 W' _ _ j0 (Fn.out.keeps jk) g6).mono ?_
  rintro e W2 ⟨u,rfl,hu,hs⟩
  obtain⟨g1,g2,g3,g4,rfl⟩:=hu.shape
  exact hK.out _ W2 (Keeps.steps hs) ⟨jst j0 hs,jk.then_ hs,jsz jn hs,b_c.steps hs,b_s.steps hs,b_k.steps hs,b_m.steps hs,fun h=>by obtain⟨g,e1,e2,e3,e4,e5⟩:=a_14 h; exact⟨g,e1,e2,Nat.lt_of_lt_of_le e3 (hs).size,fun h=>(e4 h).steps hs,fun h=>by obtain⟨d,cs,e,hb⟩:=e5 h; exact⟨d,cs,e,hb.steps hs⟩⟩⟩ hu ⟨_,_,_,_,rfl⟩
 rintro _ ⟨g1,g2,g3,g4,rfl⟩
 refine Reg.at39 rfl ?_
 refine Reg.RP0 18 ?_
 refine Reg.RPf 19 (fun _ _ _ h=>And.intro h.2.2.2.2.1.q2 h.2.2.2.2.1.q3) ?_
 refine Reg.RC_call rfl (tlt rfl) rfl (fun D v' W' hc hj hf K hK=> ?_) ?_
 ·
  obtain⟨j0,jk,jn,b_c,b_s,b_k,b_m,a_14⟩:=hj
  have g7:GNu (NX) _ W':=(hf (7,some 17) (.head _) rfl).2.2
  have g7:Num W' _ (NX):=g7
  clear hf
  go_step
  refine(SB W' _ _ j0 g7 (Fs.out.keeps jk)).mono ?_
  rintro e W2 ⟨u,rfl,hu,hs⟩
  obtain⟨h1,h2,h3,h4,rfl⟩:=hu.shape
  exact hK.out _ W2 (Keeps.steps hs) ⟨jst j0 hs,jk.then_ hs,jsz jn hs,b_c.steps hs,b_s.steps hs,b_k.steps hs,b_m.steps hs,fun h=>by obtain⟨g,e1,e2,e3,e4,e5⟩:=a_14 h; exact⟨g,e1,e2,Nat.lt_of_lt_of_le e3 (hs).size,fun h=>(e4 h).steps hs,fun h=>by obtain⟨d,cs,e,hb⟩:=e5 h; exact⟨d,cs,e,hb.steps hs⟩⟩⟩ hu ⟨_,_,_,_,rfl⟩
 rintro _ ⟨h1,h2,h3,h4,rfl⟩
 refine Reg.at39 rfl ?_
 refine Reg.RP0 21 ?_
 refine Reg.RPf 22 (fun _ _ _ h=>And.intro h.2.2.2.2.2.1.q2 h.2.2.2.2.2.1.q3) ?_
 refine Reg.RC_call rfl (tlt rfl) rfl (fun D v' W' hc hj hf K hK=> ?_) ?_
 ·
  obtain⟨j0,jk,jn,b_c,b_s,b_k,b_m,a_14⟩:=hj
  have g10:GNu (E) _ W':=(hf (10,some 20) (.head _) rfl).2.2
  have g10:Num W' _ (E):=g10
  clear hf
  go_step
  refine(M2 W' _ _ j0 g10 (Fkd.out.keeps jk)).mono ?_
  rintro e W2 ⟨u,rfl,hu,hs⟩
  obtain⟨d1,d2,d3,d4,rfl⟩:=hu.shape
  exact hK.out _ W2 (Keeps.steps hs) ⟨jst j0 hs,jk.then_ hs,jsz jn hs,b_c.steps hs,b_s.steps hs,b_k.steps hs,b_m.steps hs,fun h=>by obtain⟨g,e1,e2,e3,e4,e5⟩:=a_14 h; exact⟨g,e1,e2,Nat.lt_of_lt_of_le e3 (hs).size,fun h=>(e4 h).steps hs,fun h=>Bool.noConfusion ((hc.2 15 (by decide)).symm.trans h)⟩⟩ hu ⟨_,_,_,_,rfl⟩
 rintro _ ⟨d1,d2,d3,d4,rfl⟩
 refine Reg.at39 rfl ?_
 refine Reg.RC_call rfl (tlt rfl) rfl (fun D v' W' hc hj hf K hK=> ?_) ?_
 ·
  obtain⟨j0,jk,jn,b_c,b_s,b_k,b_m,a_14⟩:=hj
  go_step
  have hs:∀o:Obj,Steps W' (W'.alloc o):=fun o=>(Below.refl _ _).alloc (Nat.le_refl _) o
  exact hK.out _ _ (Keeps.steps (hs _)) ⟨jst j0 (hs _),jk.then_ (hs _),jsz jn (hs _),b_c.steps (hs _),b_s.steps (hs _),b_k.steps (hs _),b_m.steps (hs _),fun _=>⟨W'.heap.size,rfl,jn,by rw[World.size_alloc]; omega,fun _=>Blk.new _ _ _,fun h=>Bool.noConfusion ((hc.2 15 (by decide)).symm.trans h)⟩⟩ trivial ⟨_,rfl⟩
 rintro _ ⟨p7,rfl⟩
 refine Reg.at39 rfl ?_
 refine Reg.RCs (fun D v' W' hc hj hf K hK=> ?_) (fun _ _=>Reg.RC_at (b:=⟨_,_⟩) rfl ?_)
 ·
  obtain⟨j0,jk,jn,b_c,b_s,b_k,b_m,a_14⟩:=hj
  have f:=hf (14,some 7) (.tail _ (.head _)) rfl
  have e6:v' 14 = .pointer (some ⟨p7,0,none⟩):=f.2.1
  obtain⟨g,e1,e2,e3,e4,e5⟩:=a_14 f.1
  obtain rfl:p7=g:=Reg.ptr_eq (e6.symm.trans e1)
  have hb:=e4 hc.1
  clear e4 e5
  have fc:=hf (13,some 23) (.head _) rfl
  have ec:v' 13 = .agg #[.bool d1,.slice d2 d3 d4]:=fc.2.1
  have ff:=hb.fr
  obtain⟨cc0,cc1⟩:=hb.r1
  go_step
  exact hK.out undef _ (wr2.k hb) ⟨(wr2.b j0),jk.trans (wr2.k hb),wr2.n jn,(wr2.f b_c),(wr2.f b_s),(wr2.f b_k),(wr2.f b_m),fun _=>⟨p7,e1,e2,by simpa using e3,fun h=>Bool.noConfusion h,fun _=>⟨fc.1,_,ec,(Blk.st (i:=1) (Blk.st (i:=0) hb))⟩⟩⟩ trivial trivial
 refine Reg.RC_end (fun Dn v' w1 hd hj hf=> ?_)
 obtain⟨B,jk,jn,oc,os,ok,om,a_14⟩:=hj
 have f:=hf (14,some 7) (.tail _ (.tail _ (.tail _ (.tail _ (.head _))))) rfl
 have e6_:v' 14 = .pointer (some ⟨p7,0,none⟩):=f.2.1
 obtain⟨g,e1_,zd,-,-,e5_⟩:=a_14 f.1
 obtain rfl:p7=g:=Reg.ptr_eq (e6_.symm.trans e1_)
 obtain⟨-,cs_,ee,od⟩:=e5_ (hd 15 (Nat.le_of_ble_eq_true rfl))
 have ef:v' 13 = .agg #[.bool d1,.slice d2 d3 d4]:=(hf (13,some 23) (.tail _ (.tail _ (.tail _ (.head _)))) rfl).2.1
 obtain rfl:#[.bool d1,.slice d2 d3 d4]=cs_:=by have:=ef.symm.trans ee; simpa only[Value.tuple.injEq,Value.agg.injEq,Array.mk.injEq,List.cons.injEq,and_true,true_and]using this
 clear ee ef f e5_ e1_ e6_
 have Fd:Hid (Num w1 (.agg #[.bool d1,.slice d2 d3 d4]) (D)):=(hf (13,some 23) (.tail _ (.tail _ (.tail _ (.head _)))) rfl).2.2
 replace Fn:=Hid.mk_ (Fn.out.keeps jk)
 replace Fs:=Hid.mk_ (Fs.out.keeps jk)
 replace Fkd:=Hid.mk_ (Fkd.out.keeps jk)
 replace Fm:=Hid.mk_ (Fm.out.keeps jk)
 replace kk:=kk.trans jk
 clear hd hf jk
 refine hQ _ _ ?_
 clear hQ hops Q' ops'
 have cc0:=oc.q0
 have lc:=oc.lt
 obtain⟨cm0,cm1⟩:=om.r1
 have lm:=om.lt
 obtain⟨cd0,cd1⟩:=od.r1
 have ld:=od.lt
 go_wp2_with fail
 have zd_1:p7<w1.heap.size:=od.lt
 have zc_1:p1<w1.heap.size:=oc.lt
 have zs_1:p2<w1.heap.size:=os.lt
 have zk_1:p3<w1.heap.size:=ok.lt
 have zm_1:p4<w1.heap.size:=om.lt
 have zz1:=B.size
 go_upto_region 2 with fail
 refine Reg.chn (fun N0 D v W=>Below w.heap.size w W∧Keeps w1 W∧N0≤W.heap.size∧Blk W (p1) 146 #[.pointer (some ⟨gc,0,none⟩)]∧Blk W (p2) 148 #[.bool n1,.slice n2 n3 n4,.bool s1,.slice s2 s3 s4,.bool q1,.slice q2 q3 q4]∧Blk W (p3) 32 #[.bool k1,.slice k2 k3 k4,.bool k5,.slice k6 k7 k8]∧Blk W (p4) 30 #[.bool m1,.slice m2 m3 m4]∧Blk W (p7) 30 #[.bool d1,.slice d2 d3 d4]) [3,5] [(3,IsNu),(5,fun z_=>z_ = .tuple #[.int .i64 C,.int .i64 0])] [(3,GNu (DD))] [(5,[(3,some 28)]),(11,[(3,some 28),(5,some 30)])] [] (fun N0 hN0=>⟨fun v=> ?_,fun D v v' W hv hj=> ?_,fun ops' Q' hops hQ=> ?_⟩)
 · exact⟨belowB,keepsB,leD hN0,ownK,ownK,ownK,ownK,ownK⟩
 · exact hj
 clear cc0 lc cm0 cm1 lm cd0 cd1 ld
 clear hN0
 refine Reg.RPf 25 (fun _ _ _ h=>h.2.2.2.1.q0) ?_
 refine Reg.RPf 26 (fun _ _ _ h=>h.2.2.2.2.2.2.2.r1) ?_
 refine Reg.RPf 27 (fun _ _ _ h=>h.2.2.2.2.2.2.2.r1) ?_
 refine Reg.RC_call rfl (tlt rfl) rfl (fun D v' W' hc hj hf K hK=> ?_) ?_
 ·
  clear hf
  go_step
  refine(M3 W' _ _ hj.1 (Fd.out.keeps hj.2.1) (Fd.out.keeps hj.2.1)).mono ?_
  rintro e W2 ⟨u,rfl,hu,hs⟩
  obtain⟨e1,e2,e3,e4,rfl⟩:=hu.shape
  exact hK.out _ W2 (Keeps.steps hs) (jb5 hj hs) hu ⟨_,_,_,_,rfl⟩
 rintro _ ⟨e1,e2,e3,e4,rfl⟩
 refine Reg.at39 rfl ?_
 refine Reg.RPf 29 (fun _ _ _ h=>h.2.2.2.2.2.2.1.r1) ?_
 refine Reg.RC_call rfl (tlt rfl) rfl (fun D v' W' hc hj hf K hK=> ?_) ?_
 ·
  have g3:GNu (DD) _ W':=(hf (3,some 28) (.head _) rfl).2.2
  have g3:Num W' _ (DD):=g3
  clear hf
  go_step
  refine(CM W' _ _ g3 (Fm.out.keeps hj.2.1)).mono ?_
  rintro e W2 ⟨rfl,hs⟩
  exact hK.out _ W2 (Keeps.steps hs) (jb5 hj hs) trivial rfl
 rintro _ rfl
 refine Reg.at39 rfl ?_
 repeat refine Reg.RP0 _ ?_
 refine Reg.RC_end (fun Dn v' w2 hd hj hf=> ?_)
 obtain⟨B,jk,jn,oc,os,ok,om,od⟩:=hj
 replace Fn:=Hid.mk_ (Fn.out.keeps jk)
 replace Fs:=Hid.mk_ (Fs.out.keeps jk)
 replace Fkd:=Hid.mk_ (Fkd.out.keeps jk)
 replace Fm:=Hid.mk_ (Fm.out.keeps jk)
 replace Fd:=Hid.mk_ (Fd.out.keeps jk)
 replace kk:=kk.trans jk
 clear hd hf jk
 refine hQ _ _ ?_
 clear hQ hops Q' ops'
 have cc0:=oc.q0
 have lc:=oc.lt
 go_wp2_with fail
 refine(KE _ belowB).mono ?_
 rintro e w3 ⟨rfl,st⟩
 have sk:=bA w2 st
 replace B:=bS B sk
 replace oc:=oc.steps sk
 replace os:=os.steps sk
 replace ok:=ok.steps sk
 replace om:=om.steps sk
 replace od:=od.steps sk
 replace Fn:=Hid.mk_ (Fn.out.steps sk)
 replace Fs:=Hid.mk_ (Fs.out.steps sk)
 replace Fkd:=Hid.mk_ (Fkd.out.steps sk)
 replace Fm:=Hid.mk_ (Fm.out.steps sk)
 replace Fd:=Hid.mk_ (Fd.out.steps sk)
 replace kk:=kk.then_ sk
 clear st sk cc0 lc
 go_wp2_with fail
 refine bodyPost_ret (by simp[results,Tryz.results103,go_sem,]; rfl) rfl ?_
 exact⟨rfl,belowB⟩
theorem vfar {gc:Nat} {tc:TypeId} {vl vk:Value} {l:List Int} {k:Rat} (w:World) (hc:Blk w gc tc #[.int .i64 0]) (hl:IntsR w vl l) (hv:valL l) (hk:FR w vk k) (zk:sz k 4) :
  Calls Tryz.prog 69 #[.pointer (some ⟨gc,0,none⟩),vl,vk] w fun e w'=>∃p1 p2 p3 p4,e = .returned (.func (.func 103) #[] #[.pointer (some ⟨p1,0,none⟩),.pointer (some ⟨p2,0,none⟩),.pointer (some ⟨p3,0,none⟩),.pointer (some ⟨p4,0,none⟩)])∧FarOk w' gc p1 p2 p3 p4 l k∧Steps w w':=by
 have KC:∀w',Steps w w'→Blk w' gc tc #[.int .i64 0]:=fun w' s=>hc.steps s
 have z5:absN (k.num*k.num)≤bp 8:=absN_mul_le (i:=4) (j:=4) zk.1 zk.1
 have z6:absN (k.num*k.num*sprI l)≤bp 13:=absN_mul_le (i:=8) (j:=5) z5 (val_spr hv)
 have fk:fits k.num:=fits_bp zk.1 (by omega)
 have TT:∀w',Steps w w'→Calls Tryz.prog 100 #[.pointer (some ⟨gc,0,none⟩),vl] w' fun e w2=>∃v,e = .returned v∧Sums w2 v l∧Steps w' w2:=fun w' s=>vtotal w' (KC w' s) (hl.steps s) hv
 have SP:∀w' v,Steps w w'→Sums w' v l→Calls Tryz.prog 102 #[.pointer (some ⟨gc,0,none⟩),v] w' fun e w2=>∃v,e = .returned v∧Num w2 v (sprI l)∧Steps w' w2:=fun w' v s h=>vspread w' (KC w' s) h hv
 have M1:∀w' u v,Steps w w'→Num w' u k.num→Num w' v k.num→Calls Tryz.prog 101 #[.pointer (some ⟨gc,0,none⟩),u,v] w' fun e w2=>∃v,e = .returned v∧Num w2 v (k.num*k.num)∧Steps w' w2:=fun w' u v s h1 h2=>vmul w' (KC w' s) h1 h2 fk fk (fits_bp z5 (by omega))
 have M2:∀w' u v,Steps w w'→Num w' u (k.num*k.num)→Num w' v (sprI l)→Calls Tryz.prog 101 #[.pointer (some ⟨gc,0,none⟩),u,v] w' fun e w2=>∃v,e = .returned v∧Num w2 v (k.num*k.num*sprI l)∧Steps w' w2:=fun w' u v s h1 h2=>vmul w' (KC w' s) h1 h2 (fits_bp z5 (by omega)) (fits_bp (val_spr hv) (by omega)) (fits_bp z6 (by omega))
 obtain⟨k2,k3,k4,k6,k7,k8,rfl,nk,dk,-⟩:=hk.nums
 obtain⟨k1,hk1⟩:∃g,decide (k<0)=g:=⟨_,rfl⟩
 rw[hk1]at nk⊢
 have Fk:=Hid.mk_ nk
 have Fd:=Hid.mk_ dk
 obtain⟨la,lc,rfl⟩:=hl.shape
 unfold FarOk
 generalize k.num*k.num*sprI l=MO at *
 generalize k.num*k.num=KK at *
 generalize k.num=KN at *
 generalize (k.den:Int)=KD at *
 generalize sprI l=SPR at *
 clear hc hl hv hk zk z5 z6 fk nk dk hk1 KC
 go_enter Tryz.func69,Tryz.ntmps69
 have kk:=Keeps.refl w
 go_wp2_with fail
 refine(TT _ belowB).mono ?_
 rintro e w1 ⟨vs,rfl,hvs,st⟩
 have B:=bA w st
 have kp:=kB w st
 replace kk:=kk.trans kp
 have oc:Blk w1 (w.heap.size) 146 #[.pointer (some ⟨gc,0,none⟩)]:=Blk.stepsK st
 have ok:Blk w1 (w.heap.size+1) 32 #[.bool k1,.slice k2 k3 k4,.bool false,.slice k6 k7 k8]:=Blk.stepsK st
 replace Fk:=Hid.mk_ (Fk.out.keeps kp)
 replace Fd:=Hid.mk_ (Fd.out.keeps kp)
 clear kp
 clear st
 have cc0:=oc.q0
 have lc:=oc.lt
 obtain⟨ck0,ck1,ck2,ck3⟩:=ok.r3
 have lk:=ok.lt
 have hvs0:=hvs
 obtain⟨n1,n2,n3,n4,s1,s2,s3,s4,q1,q2,q3,q4,rfl,hn_,hs_,-⟩:=hvs0
 have Fs:=Hid.mk_ hvs
 have Fn:=Hid.mk_ hn_
 have Fu:=Hid.mk_ hs_
 clear hvs hn_ hs_
 have zk_1:w.heap.size+1<w1.heap.size:=ok.lt
 have zz1:=B.size
 go_wp2_with fail
 go_upto_region 2 with fail
 refine Reg.chn (fun N0 D v W=>Below w.heap.size w W∧Keeps w1 W∧N0≤W.heap.size∧Blk W (w.heap.size) 146 #[.pointer (some ⟨gc,0,none⟩)]∧Blk W (w.heap.size+1) 32 #[.bool k1,.slice k2 k3 k4,.bool false,.slice k6 k7 k8]∧Blk W (w1.heap.size) 148 #[.bool n1,.slice n2 n3 n4,.bool s1,.slice s2 s3 s4,.bool q1,.slice q2 q3 q4]∧(D 11=true→∃g:Nat,v 11 = .pointer (some ⟨g,0,none⟩)∧N0≤g∧g<W.heap.size∧(D 12=false→Blk W g 30 #[.bool false,.slice none 0 0])∧(D 12=true→D 10=true∧∃cs,v 10 = .agg cs∧Blk W g 30 cs))) [6,9,10,11,12] [(6,IsNu),(9,IsNu),(10,IsNu),(11,IsPtr)] [(6,GNu (KK)),(9,GNu (SPR)),(10,GNu (MO))] [(10,[(6,some 18),(9,some 21)]),(12,[(10,some 22),(11,some 8)]),(13,[(6,some 18),(9,some 21),(10,some 22),(11,some 8)])] [(11,[12]),(10,[12])] (fun N0 hN0=>⟨fun v=> ?_,fun D v v' W hv hj=> ?_,fun ops' Q' hops hQ=> ?_⟩)
 · exact⟨belowB,keepsB,leD hN0,ownK,ownK,ownK,(fun h=>Bool.noConfusion h)⟩
 ·
  obtain⟨j0,jk,jn,b_c,b_k,b_s,a_11⟩:=hj
  exact⟨j0,jk,jn,b_c,b_k,b_s,fun h=>by obtain⟨g,e1,e2,e3,e4,e5⟩:=a_11 h; exact⟨g,(hv 11 h)▸e1,e2,e3,e4,fun h=>by obtain⟨d,cs,e,hb⟩:=e5 h; exact⟨d,cs,(hv 10 d)▸e,hb⟩⟩⟩
 have eN:=hN0.out
 try simp only[World.size_alloc,World.size_setCell,World.size_drew,World.heap_drewN]at eN
 have i_c:w.heap.size<N0:=by first | omega | (have h:=oc.lt; omega)
 have i_k:w.heap.size+1<N0:=by first | omega | (have h:=ok.lt; omega)
 have i_s:w1.heap.size<N0:=by first | omega | (have h:=os.lt; omega)
 have iw:w.heap.size≤N0:=by first | omega | (have h:=B.size; omega)
 clear cc0 lc ck0 ck1 ck2 ck3 lk
 clear hN0
 refine Reg.RPf 12 (fun _ _ _ h=>h.2.2.2.1.q0) ?_
 refine Reg.RPf 13 (fun _ _ _ h=>h.2.2.2.1.q0) ?_
 refine Reg.RP0 14 ?_
 refine Reg.RPf 15 (fun _ _ _ h=>h.2.2.2.2.1.r1) ?_
 refine Reg.RP0 16 ?_
 refine Reg.RPf 17 (fun _ _ _ h=>h.2.2.2.2.1.r1) ?_
 refine Reg.RC_call rfl (tlt rfl) rfl (fun D v' W' hc hj hf K hK=> ?_) ?_
 ·
  obtain⟨j0,jk,jn,b_c,b_k,b_s,a_11⟩:=hj
  clear hf
  go_step
  refine(M1 W' _ _ j0 (Fk.out.keeps jk) (Fk.out.keeps jk)).mono ?_
  rintro e W2 ⟨u,rfl,hu,hs⟩
  obtain⟨a1,a2,a3,a4,rfl⟩:=hu.shape
  exact hK.out _ W2 (Keeps.steps hs) ⟨jst j0 hs,jk.then_ hs,jsz jn hs,b_c.steps hs,b_k.steps hs,b_s.steps hs,fun h=>by obtain⟨g,e1,e2,e3,e4,e5⟩:=a_11 h; exact⟨g,e1,e2,Nat.lt_of_lt_of_le e3 (hs).size,fun h=>(e4 h).steps hs,fun h=>by obtain⟨d,cs,e,hb⟩:=e5 h; exact⟨d,cs,e,hb.steps hs⟩⟩⟩ hu ⟨_,_,_,_,rfl⟩
 rintro _ ⟨a1,a2,a3,a4,rfl⟩
 refine Reg.at24 rfl ?_
 refine Reg.RPf 19 (fun _ _ _ h=>h.2.2.2.1.q0) ?_
 refine Reg.RPf 20 (fun _ _ _ h=>h.2.2.2.2.2.1.r5) ?_
 refine Reg.RC_call rfl (tlt rfl) rfl (fun D v' W' hc hj hf K hK=> ?_) ?_
 ·
  obtain⟨j0,jk,jn,b_c,b_k,b_s,a_11⟩:=hj
  clear hf
  go_step
  refine(SP W' _ j0 (Fs.out.keeps jk)).mono ?_
  rintro e W2 ⟨u,rfl,hu,hs⟩
  obtain⟨b1,b2,b3,b4,rfl⟩:=hu.shape
  exact hK.out _ W2 (Keeps.steps hs) ⟨jst j0 hs,jk.then_ hs,jsz jn hs,b_c.steps hs,b_k.steps hs,b_s.steps hs,fun h=>by obtain⟨g,e1,e2,e3,e4,e5⟩:=a_11 h; exact⟨g,e1,e2,Nat.lt_of_lt_of_le e3 (hs).size,fun h=>(e4 h).steps hs,fun h=>by obtain⟨d,cs,e,hb⟩:=e5 h; exact⟨d,cs,e,hb.steps hs⟩⟩⟩ hu ⟨_,_,_,_,rfl⟩
 rintro _ ⟨b1,b2,b3,b4,rfl⟩
 refine Reg.at24 rfl ?_
 refine Reg.RC_call rfl (tlt rfl) rfl (fun D v' W' hc hj hf K hK=> ?_) ?_
 ·
  obtain⟨j0,jk,jn,b_c,b_k,b_s,a_11⟩:=hj
  have g6:GNu (KK) _ W':=(hf (6,some 18) (.head _) rfl).2.2
  have g6:Num W' _ (KK):=g6
  have g9:GNu (SPR) _ W':=(hf (9,some 21) (.tail _ (.head _)) rfl).2.2
  have g9:Num W' _ (SPR):=g9
  clear hf
  go_step
  refine(M2 W' _ _ j0 g6 g9).mono ?_
  rintro e W2 ⟨u,rfl,hu,hs⟩
  obtain⟨m1,m2,m3,m4,rfl⟩:=hu.shape
  exact hK.out _ W2 (Keeps.steps hs) ⟨jst j0 hs,jk.then_ hs,jsz jn hs,b_c.steps hs,b_k.steps hs,b_s.steps hs,fun h=>by obtain⟨g,e1,e2,e3,e4,e5⟩:=a_11 h; exact⟨g,e1,e2,Nat.lt_of_lt_of_le e3 (hs).size,fun h=>(e4 h).steps hs,fun h=>Bool.noConfusion ((hc.2 12 (by decide)).symm.trans h)⟩⟩ hu ⟨_,_,_,_,rfl⟩
 rintro _ ⟨m1,m2,m3,m4,rfl⟩
 refine Reg.at24 rfl ?_
 refine Reg.RC_call rfl (tlt rfl) rfl (fun D v' W' hc hj hf K hK=> ?_) ?_
 ·
  obtain⟨j0,jk,jn,b_c,b_k,b_s,a_11⟩:=hj
  go_step
  have hs:∀o:Obj,Steps W' (W'.alloc o):=fun o=>(Below.refl _ _).alloc (Nat.le_refl _) o
  exact hK.out _ _ (Keeps.steps (hs _)) ⟨jst j0 (hs _),jk.then_ (hs _),jsz jn (hs _),b_c.steps (hs _),b_k.steps (hs _),b_s.steps (hs _),fun _=>⟨W'.heap.size,rfl,jn,by rw[World.size_alloc]; omega,fun _=>Blk.new _ _ _,fun h=>Bool.noConfusion ((hc.2 12 (by decide)).symm.trans h)⟩⟩ trivial ⟨_,rfl⟩
 rintro _ ⟨p8,rfl⟩
 refine Reg.at24 rfl ?_
 refine Reg.RCs (fun D v' W' hc hj hf K hK=> ?_) (fun _ _=>Reg.RC_at (b:=⟨_,_⟩) rfl ?_)
 ·
  obtain⟨j0,jk,jn,b_c,b_k,b_s,a_11⟩:=hj
  have f:=hf (11,some 8) (.tail _ (.head _)) rfl
  have e6:v' 11 = .pointer (some ⟨p8,0,none⟩):=f.2.1
  obtain⟨g,e1,e2,e3,e4,e5⟩:=a_11 f.1
  obtain rfl:p8=g:=Reg.ptr_eq (e6.symm.trans e1)
  have hb:=e4 hc.1
  clear e4 e5
  have fc:=hf (10,some 22) (.head _) rfl
  have ec:v' 10 = .agg #[.bool m1,.slice m2 m3 m4]:=fc.2.1
  have ff:=hb.fr
  obtain⟨cc0,cc1⟩:=hb.r1
  go_step
  exact hK.out undef _ (wr2.k hb) ⟨(wr2.b j0),jk.trans (wr2.k hb),wr2.n jn,(wr2.f b_c),(wr2.f b_k),(wr2.f b_s),fun _=>⟨p8,e1,e2,by simpa using e3,fun h=>Bool.noConfusion h,fun _=>⟨fc.1,_,ec,(Blk.st (i:=1) (Blk.st (i:=0) hb))⟩⟩⟩ trivial trivial
 refine Reg.RC_end (fun Dn v' w2 hd hj hf=> ?_)
 obtain⟨B,jk,jn,oc,ok,os,a_11⟩:=hj
 have f:=hf (11,some 8) (.tail _ (.tail _ (.tail _ (.head _)))) rfl
 have e6_:v' 11 = .pointer (some ⟨p8,0,none⟩):=f.2.1
 obtain⟨g,e1_,zm,-,-,e5_⟩:=a_11 f.1
 obtain rfl:p8=g:=Reg.ptr_eq (e6_.symm.trans e1_)
 obtain⟨-,cs_,ee,om⟩:=e5_ (hd 12 (Nat.le_of_ble_eq_true rfl))
 have ef:v' 10 = .agg #[.bool m1,.slice m2 m3 m4]:=(hf (10,some 22) (.tail _ (.tail _ (.head _))) rfl).2.1
 obtain rfl:#[.bool m1,.slice m2 m3 m4]=cs_:=by have:=ef.symm.trans ee; simpa only[Value.tuple.injEq,Value.agg.injEq,Array.mk.injEq,List.cons.injEq,and_true,true_and]using this
 clear ee ef f e5_ e1_ e6_
 have Fm:Hid (Num w2 (.agg #[.bool m1,.slice m2 m3 m4]) (MO)):=(hf (10,some 22) (.tail _ (.tail _ (.head _))) rfl).2.2
 replace Fk:=Hid.mk_ (Fk.out.keeps jk)
 replace Fd:=Hid.mk_ (Fd.out.keeps jk)
 replace Fs:=Hid.mk_ (Fs.out.keeps jk)
 replace Fn:=Hid.mk_ (Fn.out.keeps jk)
 replace Fu:=Hid.mk_ (Fu.out.keeps jk)
 replace kk:=kk.trans jk
 clear hd hf jk
 refine hQ _ _ ?_
 clear hQ hops Q' ops'
 go_wp2_with fail
 refine bodyPost_ret (by simp[results,Tryz.results69,go_sem]; rfl) rfl ?_
 exact⟨_,_,_,_,rfl,⟨ownK,⟨_,_,_,_,_,_,_,_,_,_,_,_,ownK,Fn.out.keeps keepsB,Fu.out.keeps keepsB⟩,⟨_,_,_,_,_,_,_,_,ownK,Fd.out.keeps keepsB⟩,_,_,_,_,ownK,Fm.out.keeps keepsB⟩,belowB⟩
theorem prmean {vl:Value} {l:List Int} (w:World) (hl:IntsR w vl l) (hv:valL l) (h0:l≠ []) :
  Calls Tryz.prog 56 #[vl] w fun e w'=>∃v,e = .returned v∧FR w' v (meanQ l)∧Steps w w':=by
 have eS:sumI (l.take l.length)=sumI l:=by rw[List.take_length]
 have zS:sumI (l.take 0)=0:=rfl
 have NB:=hv.1
 have OF:∀w',Calls Tryz.prog 45 #[.int .i64 (sumI (l.take l.length)),.int .i64 (l.length:Int)] w' fun e w2=>∃v,e = .returned (.tuple #[v,.int .i64 0])∧FR w2 v (meanQ l)∧Steps w' w2:=fun w'=>by
  have h1:=sum_i64 hv l.length
  have h2:=hv.1
  have h3:(l.length:Int)≠0:=nI_ne0 h0
  have:=rofF (sumI (l.take l.length)) (l.length:Int) w' (by omega) (by omega) (by omega) (by omega) h3
  rw[eS]at this⊢
  exact this
 have ST:∀i,i<l.length→sumI (l.take (i+1))=sumI (l.take i)+l.getD i 0:=fun i hi=>sum_step hi
 have SR:∀i,-4294967296000≤sumI (l.take i)∧sumI (l.take i)≤4294967296000:=sum_i64 hv
 obtain⟨fS,hS⟩:∃f:Nat→Int,∀i,sumI (l.take i)=f i:=⟨_,fun _=>rfl⟩
 obtain⟨fX,hX⟩:∃f:Nat→Int,∀i,l.getD i 0=f i:=⟨_,fun _=>rfl⟩
 simp only[hS,hX]at OF ST SR zS
 have HX:=Hid.mk_ hX
 generalize meanQ l=mq at *
 obtain⟨la,lc,rfl⟩:=hl.shape
 have HL:=Hid.mk_ hl
 obtain⟨N,hN⟩:∃n,l.length=n:=⟨_,rfl⟩
 have HN:=Hid.mk_ hN
 rw[hN]at OF ST HL NB⊢
 clear hl hv h0 hN eS hS hX
 go_enter Tryz.func56,Tryz.ntmps56
 have kk:=Keeps.refl w
 go_wp2_with fail
 go_loopw [4,3] (fun sl0 sl1 wr=>∃ (i:Nat),i≤N∧sl0 = .int .i64 i∧sl1 = .int .i64 (fS i)∧Blk wr (w.heap.size) 32 #[.bool false,.slice none 0 0,.bool false,.slice none 0 0]∧Below w.heap.size w wr∧Keeps w wr) (fun sl0 sl1 _=>N-(intOf sl0).toNat)
 case atStart=>exact⟨0,by omega,rfl,(by rw[zS]),ownK,belowB,keepsB⟩
 case round=>
  try clear B
  try clear kk
  obtain⟨i,hi,rfl,rfl,or,B,kk⟩:=hrel
  rcases Nat.lt_or_ge i N with i4 | i4
  ·
   have hlt:decide ((i:Int)<(N:Int))=true:=decide_eq_true (by omega)
   obtain⟨b,of,rfl,hbl,hx0⟩:=HL.out.at' (t:=i) (by have:=HN.out; omega)
   rw[HX.out]at hx0
   have c0:wr.cell? ⟨b,of+i,none⟩=some (.int .i64 (fX i)):=(B.cell (p:=⟨b,_,none⟩) hbl).trans hx0
   have sti:=ST i i4
   have sri:=SR i
   have sri1:=SR (i+1)
   rw[sti]at sri1
   clear hx0
   go_wp2_with fail
   go_roundw
   case rel=>exact⟨i+1,by omega,by go_num,by rw[sti],ownK,belowB,kk.trans keepsB⟩
   case measure=>simp[intOf]; omega
  ·
   obtain rfl:i=N:=by omega
   have hlt:decide ((i:Int)<(i:Int))=false:=decide_eq_false (by omega)
   go_wp2_with fail
   refine(OF _).mono ?_
   rintro e w1 ⟨vq,rfl,hvq,st⟩
   have sk:=bA wr st
   replace B:=bS B sk
   replace or:=or.steps sk
   replace kk:=kk.then_ sk
   clear st sk
   obtain⟨cr0,cr1,cr2,cr3,fr,lr⟩:=or.s3
   obtain⟨q1,q2,q3,q4,q5,q6,q7,q8,rfl⟩:=hvq.shape
   have Fq:=Hid.mk_ hvq
   clear hvq
   have zr_1:w.heap.size<w1.heap.size:=or.lt
   have zz1:=B.size
   go_wp2_with fail
   refine bodyPost_ret (by simp[results,Tryz.results56,go_sem,cr0,cr1,cr2,cr3,fr,lr]; rfl) rfl ?_
   exact⟨_,rfl,Fq.out.keeps keepsB,belowB⟩
theorem prsquare {vm:Value} {m:Rat} {x:Int} (w:World) (hm:FR w vm m) (zm:sz m 2) (hx : -4294967296≤x∧x≤4294967296) :
  Calls Tryz.prog 58 #[.int .i64 x,vm] w fun e w'=>∃v,e = .returned v∧FR w' v (((x:Rat)-m)*((x:Rat)-m))∧Steps w w':=by
 have WH:∀w',Calls Tryz.prog 53 #[.int .i64 x] w' fun e w2=>∃v,e = .returned v∧FR w2 v (x:Rat)∧Steps w' w2:=fun w'=>pvwhole x w' (by omega) (by omega)
 have zd:sz ((x:Rat)-m) 5:=((sz_val hx).sub zm).mono (by omega)
 have SB:∀w' u v,FR w' u (x:Rat)→FR w' v m→Calls Tryz.prog 89 #[u,v] w' fun e w2=>∃v,e = .returned (.tuple #[v,.int .i64 0])∧FR w2 v ((x:Rat)-m)∧Steps w' w2:=fun w' u v h1 h2=>rSubQ w' h1 h2 (sz_val hx) zm (by omega)
 have ML:∀w' u v,FR w' u ((x:Rat)-m)→FR w' v ((x:Rat)-m)→Calls Tryz.prog 55 #[u,v] w' fun e w2=>∃v,e = .returned (.tuple #[v,.int .i64 0])∧FR w2 v (((x:Rat)-m)*((x:Rat)-m))∧Steps w' w2:=fun w' u v h1 h2=>rMulQ w' h1 h2 zd zd (by omega)
 obtain⟨m1,m2,m3,m4,m5,m6,m7,m8,rfl⟩:=hm.shape
 have Fm:=Hid.mk_ hm
 generalize ((x:Rat)-m)*((x:Rat)-m)=QQ at *
 generalize (x:Rat)-m=DQ at *
 generalize (x:Rat)=XQ at *
 clear hm zm hx zd
 go_enter Tryz.func58,Tryz.ntmps58
 have kk:=Keeps.refl w
 go_wp2_with fail
 go_upto_region 1 with fail
 refine Reg.chn (fun N0 D v W=>Below w.heap.size w W∧Keeps w W∧N0≤W.heap.size∧Blk W (w.heap.size) 32 #[.bool m1,.slice m2 m3 m4,.bool m5,.slice m6 m7 m8]∧Blk W (w.heap.size+1) 32 #[.bool false,.slice none 0 0,.bool false,.slice none 0 0]∧(D 7=true→∃g:Nat,v 7 = .pointer (some ⟨g,0,none⟩)∧N0≤g∧g<W.heap.size∧(D 8=false→Blk W g 32 #[.bool false,.slice none 0 0,.bool false,.slice none 0 0])∧(D 8=true→D 3=true∧∃cs,v 3 = .tuple #[.agg cs,.int .i64 0]∧Blk W g 32 cs))) [1,3,7,8] [(1,IsFr),(3,IsFrE 0),(7,IsPtr)] [(1,GFr (XQ)),(3,GFrE (DQ) 0)] [(3,[(1,some 11)]),(8,[(3,some 13),(7,some 5)]),(10,[(1,some 11),(3,some 13),(7,some 5)])] [(7,[8]),(3,[8])] (fun N0 hN0=>⟨fun v=> ?_,fun D v v' W hv hj=> ?_,fun ops' Q' hops hQ=> ?_⟩)
 · exact⟨belowB,keepsB,leD hN0,ownK,ownK,(fun h=>Bool.noConfusion h)⟩
 ·
  obtain⟨j0,jk,jn,b_m,b_r,a_7⟩:=hj
  exact⟨j0,jk,jn,b_m,b_r,fun h=>by obtain⟨g,e1,e2,e3,e4,e5⟩:=a_7 h; exact⟨g,(hv 7 h)▸e1,e2,e3,e4,fun h=>by obtain⟨d,cs,e,hb⟩:=e5 h; exact⟨d,cs,(hv 3 d)▸e,hb⟩⟩⟩
 have eN:=hN0.out
 try simp only[World.size_alloc,World.size_setCell,World.size_drew,World.heap_drewN]at eN
 have i_m:w.heap.size<N0:=by first | omega | (have h:=om.lt; omega)
 have i_r:w.heap.size+1<N0:=by first | omega | (have h:=or.lt; omega)
 have iw:w.heap.size≤N0:=by first | omega | (have h:=B.size; omega)
 clear hN0 eN
 refine Reg.RP0 10 ?_
 refine Reg.RC_call rfl (tlt rfl) rfl (fun D v' W' hc hj hf K hK=> ?_) ?_
 ·
  obtain⟨j0,jk,jn,b_m,b_r,a_7⟩:=hj
  clear hf
  go_step
  refine(WH W').mono ?_
  rintro e W2 ⟨u,rfl,hu,hs⟩
  obtain⟨x1,x2,x3,x4,x5,x6,x7,x8,rfl⟩:=hu.shape
  exact hK.out _ W2 (Keeps.steps hs) ⟨jst j0 hs,jk.then_ hs,jsz jn hs,b_m.steps hs,b_r.steps hs,fun h=>by obtain⟨g,e1,e2,e3,e4,e5⟩:=a_7 h; exact⟨g,e1,e2,Nat.lt_of_lt_of_le e3 (hs).size,fun h=>(e4 h).steps hs,fun h=>by obtain⟨d,cs,e,hb⟩:=e5 h; exact⟨d,cs,e,hb.steps hs⟩⟩⟩ hu ⟨_,_,_,_,_,_,_,_,rfl⟩
 rintro _ ⟨x1,x2,x3,x4,x5,x6,x7,x8,rfl⟩
 refine Reg.RC_at (b:=⟨#[_,_,_,_,_,_,_,_,_,_,_,_,_,_,_,_,_,_,_,_,_,_,_],_⟩) rfl ?_
 refine Reg.RPf 12 (fun _ _ _ h=>h.2.2.2.1.r3) ?_
 refine Reg.RC_call rfl (tlt rfl) rfl (fun D v' W' hc hj hf K hK=> ?_) ?_
 ·
  obtain⟨j0,jk,jn,b_m,b_r,a_7⟩:=hj
  have g1:GFr (XQ) _ W':=(hf (1,some 11) (.head _) rfl).2.2
  have g1:FR W' _ (XQ):=g1
  clear hf
  go_step
  refine(SB W' _ _ g1 (Fm.out.keeps jk)).mono ?_
  rintro e W2 ⟨u,rfl,hu,hs⟩
  obtain⟨d1,d2,d3,d4,d5,d6,d7,d8,rfl⟩:=hu.shape
  exact hK.out _ W2 (Keeps.steps hs) ⟨jst j0 hs,jk.then_ hs,jsz jn hs,b_m.steps hs,b_r.steps hs,fun h=>by obtain⟨g,e1,e2,e3,e4,e5⟩:=a_7 h; exact⟨g,e1,e2,Nat.lt_of_lt_of_le e3 (hs).size,fun h=>(e4 h).steps hs,fun h=>Bool.noConfusion ((hc.2 8 (by decide)).symm.trans h)⟩⟩ ⟨_,rfl,hu⟩ ⟨_,_,_,_,_,_,_,_,rfl⟩
 rintro _ ⟨d1,d2,d3,d4,d5,d6,d7,d8,rfl⟩
 refine Reg.RC_at (b:=⟨#[_,_,_,_,_,_,_,_,_,_,_,_,_,_,_,_,_,_,_,_,_,_,_],_⟩) rfl ?_
 repeat refine Reg.RP0 _ ?_
 refine Reg.RC_call rfl (tlt rfl) rfl (fun D v' W' hc hj hf K hK=> ?_) ?_
 ·
  obtain⟨j0,jk,jn,b_m,b_r,a_7⟩:=hj
  go_step
  have hs:∀o:Obj,Steps W' (W'.alloc o):=fun o=>(Below.refl _ _).alloc (Nat.le_refl _) o
  exact hK.out _ _ (Keeps.steps (hs _)) ⟨jst j0 (hs _),jk.then_ (hs _),jsz jn (hs _),b_m.steps (hs _),b_r.steps (hs _),fun _=>⟨W'.heap.size,rfl,jn,by rw[World.size_alloc]; omega,fun _=>Blk.new _ _ _,fun h=>Bool.noConfusion ((hc.2 8 (by decide)).symm.trans h)⟩⟩ trivial ⟨_,rfl⟩
 rintro _ ⟨p5,rfl⟩
 refine Reg.RC_at (b:=⟨#[_,_,_,_,_,_,_,_,_,_,_,_,_,_,_,_,_,_,_,_,_,_,_],_⟩) rfl ?_
 refine Reg.RCs (fun D v' W' hc hj hf K hK=> ?_) (fun _ _=>Reg.RC_at (b:=⟨_,_⟩) rfl ?_)
 ·
  obtain⟨j0,jk,jn,b_m,b_r,a_7⟩:=hj
  have f:=hf (7,some 5) (.tail _ (.head _)) rfl
  have e6:v' 7 = .pointer (some ⟨p5,0,none⟩):=f.2.1
  obtain⟨g,e1,e2,e3,e4,e5⟩:=a_7 f.1
  obtain rfl:p5=g:=Reg.ptr_eq (e6.symm.trans e1)
  have hb:=e4 hc.1
  clear e4 e5
  have fc:=hf (3,some 13) (.head _) rfl
  have ec:v' 3 = .tuple #[.agg #[.bool d1,.slice d2 d3 d4,.bool d5,.slice d6 d7 d8],.int .i64 0]:=fc.2.1
  have ff:=hb.fr
  obtain⟨cc0,cc1,cc2,cc3⟩:=hb.r3
  go_step
  exact hK.out undef _ (keeps4 hb rfl) ⟨(below4 j0 (by show w.heap.size≤p5; omega)),jk.trans (keeps4 hb rfl),by simpa using jn,(b_m).far4 (show w.heap.size≠p5 by omega),(b_r).far4 (show w.heap.size+1≠p5 by omega),fun _=>⟨p5,e1,e2,by simpa using e3,fun h=>Bool.noConfusion h,fun _=>⟨fc.1,_,ec,(Blk.set2 (cs':=#[.bool d1,.slice d2 d3 d4,.bool d5,.slice d6 d7 d8]) (Blk.set2 (cs':=#[.bool d1,.slice d2 d3 d4,.bool d5,.slice none 0 0]) (Blk.set2 (cs':=#[.bool d1,.slice d2 d3 d4,.bool false,.slice none 0 0]) (Blk.set2 (cs':=#[.bool d1,.slice none 0 0,.bool false,.slice none 0 0]) hb (i:=0) rfl) (i:=1) rfl) (i:=2) rfl) (i:=3) rfl)⟩⟩⟩ trivial trivial
 refine Reg.RP0 6 ?_
 refine Reg.RC_end (fun Dn v' w1 hd hj hf=> ?_)
 obtain⟨B,jk,jn,om,or,a_7⟩:=hj
 have f:=hf (7,some 5) (.tail _ (.tail _ (.head _))) rfl
 have e6_:v' 7 = .pointer (some ⟨p5,0,none⟩):=f.2.1
 obtain⟨g,e1_,zd,-,-,e5_⟩:=a_7 f.1
 obtain rfl:p5=g:=Reg.ptr_eq (e6_.symm.trans e1_)
 obtain⟨-,cs_,ee,od⟩:=e5_ (hd 8 (Nat.le_of_ble_eq_true rfl))
 have ef:v' 3 = .tuple #[.agg #[.bool d1,.slice d2 d3 d4,.bool d5,.slice d6 d7 d8],.int .i64 0]:=(hf (3,some 13) (.tail _ (.head _)) rfl).2.1
 obtain rfl:#[.bool d1,.slice d2 d3 d4,.bool d5,.slice d6 d7 d8]=cs_:=by have:=ef.symm.trans ee; simpa only[Value.tuple.injEq,Value.agg.injEq,Array.mk.injEq,List.cons.injEq,and_true,true_and]using this
 clear ee ef f e5_ e1_ e6_
 have Fd:=Hid.mk_ (GFrE.get (r:=DQ) (e:=0) (v:= .agg #[.bool d1,.slice d2 d3 d4,.bool d5,.slice d6 d7 d8]) (hf (3,some 13) (.tail _ (.head _)) rfl).2.2)
 replace Fm:=Hid.mk_ (Fm.out.keeps jk)
 replace kk:=kk.trans jk
 clear hd hf jk
 refine hQ _ _ ?_
 clear hQ hops Q' ops'
 obtain⟨cd0,cd1,cd2,cd3⟩:=od.r3
 have ld:=od.lt
 go_wp2_with fail
 refine(ML _ _ _ (Fd.out.keeps keepsB) (Fd.out.keeps keepsB)).mono ?_
 rintro e w2 ⟨vq,rfl,hvq,st⟩
 have sk:=bA w1 st
 replace B:=bS B sk
 replace om:=om.steps sk
 replace or:=or.steps sk
 replace od:=od.steps sk
 replace Fm:=Hid.mk_ (Fm.out.steps sk)
 replace Fd:=Hid.mk_ (Fd.out.steps sk)
 replace kk:=kk.then_ sk
 clear st sk cd0 cd1 cd2 cd3 ld
 have lm:=om.lt
 obtain⟨cr0,cr1,cr2,cr3,fr,lr⟩:=or.s3
 obtain⟨q1,q2,q3,q4,q5,q6,q7,q8,rfl⟩:=hvq.shape
 have Fq:=Hid.mk_ hvq
 clear hvq
 have zd_2:p5<w2.heap.size:=od.lt
 have zz2:=B.size
 go_wp2_with fail
 refine bodyPost_ret (by simp[results,Tryz.results58,go_sem,lm,cr0,cr1,cr2,cr3,fr,lr]; rfl) rfl ?_
 exact⟨_,rfl,Fq.out.keeps keepsB,belowB⟩
theorem prvariance {vl vm:Value} {l:List Int} (w:World) (hl:IntsR w vl l) (hv:valL l) (h0:l≠ []) (h24:l.length≤100) (hm:FR w vm (meanQ l)) :
  Calls Tryz.prog 57 #[vl,vm] w fun e w'=>∃v,e = .returned v∧FR w' v (varQ l)∧Steps w w':=by
 have zm:=sz_mean hv h0
 have W0:∀w',Calls Tryz.prog 53 #[.int .i64 0] w' fun e w2=>∃v,e = .returned v∧FR w2 v (devQ (meanQ l) (l.take 0))∧Steps w' w2:=fun w'=>pvwhole 0 w' (by decide) (by decide)
 have WN:∀w',Calls Tryz.prog 53 #[.int .i64 (l.length:Int)] w' fun e w2=>∃v,e = .returned v∧FR w2 v (nI l:Rat)∧Steps w' w2:=fun w'=>pvwhole (l.length:Int) w' (by omega) (by omega)
 have SQ:∀i,i<l.length→∀w' v,FR w' v (meanQ l)→Calls Tryz.prog 58 #[.int .i64 (l.getD i 0),v] w' fun e w2=>∃v,e = .returned v∧FR w2 v (((l.getD i 0:Rat)-meanQ l)*((l.getD i 0:Rat)-meanQ l))∧Steps w' w2:=fun i hi w' v h=>prsquare w' h zm (hv.get hi)
 have zq:∀i,i<l.length→sz (((l.getD i 0:Rat)-meanQ l)*((l.getD i 0:Rat)-meanQ l)) 10:=fun i hi=>sz_sq hv h0 (hv.get hi)
 have zs:∀i,sz (devQ (meanQ l) (l.take i)) 1200:=fun i=>by
  have h1:=sz_dev (m:=meanQ l) (k:=10) (l.take i) (fun x hx=>sz_sq hv h0 (hv.2 x (List.mem_of_mem_take hx)))
  refine h1.mono ?_
  have h2:(l.take i).length≤100:=by rw[List.length_take]; omega
  have h3:=Nat.mul_le_mul_left (10+1) h2
  omega
 have AD:∀i,i<l.length→∀w' u v,FR w' u (devQ (meanQ l) (l.take i))→FR w' v (((l.getD i 0:Rat)-meanQ l)*((l.getD i 0:Rat)-meanQ l))→Calls Tryz.prog 87 #[u,v] w' fun e w2=>∃v,e = .returned (.tuple #[v,.int .i64 0])∧FR w2 v (devQ (meanQ l) (l.take (i+1)))∧Steps w' w2:=fun i hi w' u v h1 h2=>by
  rw[dev_step _ hi]
  exact rAddQ w' h1 h2 (zs i) (zq i hi) (by omega)
 have nz:sz (nI l:Rat) 2:=sz_val (by unfold nI; omega)
 have DV:∀w' u v,FR w' u (devQ (meanQ l) (l.take l.length))→FR w' v (nI l:Rat)→Calls Tryz.prog 88 #[u,v] w' fun e w2=>∃v,e = .returned (.tuple #[v,.int .i64 0])∧FR w2 v (varQ l)∧Steps w' w2:=fun w' u v h1 h2=>by
  have:=rDivQ w' h1 h2 (zs l.length) nz (by omega) (nI_ne h0)
  rw[List.take_length,var_div h0]at this
  exact this
 obtain⟨fD,hD⟩:∃f:Nat→Rat,∀i,devQ (meanQ l) (l.take i)=f i:=⟨_,fun _=>rfl⟩
 obtain⟨fQ,hQ⟩:∃f:Nat→Rat,∀i,((l.getD i 0:Rat)-meanQ l)*((l.getD i 0:Rat)-meanQ l)=f i:=⟨_,fun _=>rfl⟩
 simp only[hD,hQ]at W0 SQ AD DV
 obtain⟨fX,hX⟩:∃f:Nat→Int,∀i,l.getD i 0=f i:=⟨_,fun _=>rfl⟩
 simp only[hX]at SQ
 have HX:=Hid.mk_ hX
 obtain⟨m1,m2,m3,m4,m5,m6,m7,m8,rfl⟩:=hm.shape
 have Fm:=Hid.mk_ hm
 generalize varQ l=VQ at *
 generalize meanQ l=MQ at *
 generalize (nI l:Rat)=NQ at *
 obtain⟨la,lc,rfl⟩:=hl.shape
 have HL:=Hid.mk_ hl
 obtain⟨N,hN⟩:∃n,l.length=n:=⟨_,rfl⟩
 have HN:=Hid.mk_ hN
 rw[hN]at WN SQ AD DV HL h24⊢
 clear hl hv h0 hm zm zq zs nz hD hQ hX hN
 go_enter Tryz.func57,Tryz.ntmps57
 have kk:=Keeps.refl w
 go_wp2_with fail
 refine(W0 _).mono ?_
 rintro e w1 ⟨vz,rfl,hvz,st⟩
 have B:=bA w st
 have kp:=kB w st
 replace kk:=kk.trans kp
 have om:Blk w1 (w.heap.size) 32 #[.bool m1,.slice m2 m3 m4,.bool m5,.slice m6 m7 m8]:=Blk.stepsK st
 have or:Blk w1 (w.heap.size+1) 32 #[.bool false,.slice none 0 0,.bool false,.slice none 0 0]:=Blk.stepsK st
 replace Fm:=Hid.mk_ (Fm.out.keeps kp)
 clear kp
 clear st
 obtain⟨z1,z2,z3,z4,z5,z6,z7,z8,rfl⟩:=hvz.shape
 have Fz:=Hid.mk_ hvz
 clear hvz
 have zr_1:w.heap.size+1<w1.heap.size:=or.lt
 have zz1:=B.size
 go_wp2_with fail
 go_loopw [6] (fun sl0 wr=>∃ (i:Nat) (y1:Bool) (y2:Option Addr) (y3 y4:Nat) (y5:Bool) (y6:Option Addr) (y7 y8:Nat),i≤N∧sl0 = .int .i64 i∧Blk wr (w1.heap.size) 32 #[.bool y1,.slice y2 y3 y4,.bool y5,.slice y6 y7 y8]∧FR wr (.agg #[.bool y1,.slice y2 y3 y4,.bool y5,.slice y6 y7 y8]) (fD i)∧Blk wr (w.heap.size) 32 #[.bool m1,.slice m2 m3 m4,.bool m5,.slice m6 m7 m8]∧Blk wr (w.heap.size+1) 32 #[.bool false,.slice none 0 0,.bool false,.slice none 0 0]∧Below w.heap.size w wr∧Keeps w1 wr) (fun sl0 _=>N-(intOf sl0).toNat)
 case atStart=>exact⟨0,_,_,_,_,_,_,_,_,by omega,rfl,ownK,Fz.out.keeps keepsB,ownK,ownK,belowB,keepsB⟩
 case round=>
  clear om or
  try clear B
  try clear kk
  clear Fz
  obtain⟨i,y1,y2,y3,y4,y5,y6,y7,y8,hi,rfl,os,fy,om,or,B,kk⟩:=hrel
  replace Fm:=Hid.mk_ (Fm.out.keeps kk)
  have Fy:=Hid.mk_ fy
  clear fy
  obtain⟨cm0,cm1,cm2,cm3⟩:=om.r3
  have lm:=om.lt
  have lr:=or.lt
  obtain⟨cs0,cs1,cs2,cs3⟩:=os.r3
  have ls:=os.lt
  rcases Nat.lt_or_ge i N with i4 | i4
  ·
   have hlt:decide ((i:Int)<(N:Int))=true:=decide_eq_true (by omega)
   obtain⟨b,of,rfl,hbl,hx0⟩:=HL.out.at' (t:=i) (by have:=HN.out; omega)
   rw[HX.out]at hx0
   have sqi:=SQ i i4
   have adi:=AD i i4
   go_wp2_with fail
   have zs_1:w1.heap.size<wr.heap.size:=os.lt
   have zz1:=B.size
   go_upto_region 5 with fail
   refine Reg.chn (fun N0 D v W=>Below w.heap.size w W∧Keeps wr W∧N0≤W.heap.size∧Blk W (w.heap.size) 32 #[.bool m1,.slice m2 m3 m4,.bool m5,.slice m6 m7 m8]∧Blk W (w.heap.size+1) 32 #[.bool false,.slice none 0 0,.bool false,.slice none 0 0]∧((D 11=false→Blk W (w1.heap.size) 32 #[.bool y1,.slice y2 y3 y4,.bool y5,.slice y6 y7 y8])∧(D 11=true→D 7=true∧∃cs,v 7 = .tuple #[.agg cs,.int .i64 0]∧Blk W (w1.heap.size) 32 cs))) [6,7,11] [(6,IsFr),(7,IsFrE 0)] [(6,GFr ((fQ i))),(7,GFrE ((fD (i+1))) 0)] [(7,[(6,some 23)]),(11,[(7,some 24)]),(12,[(6,some 23),(7,some 24)])] [(7,[11]),(0,[11])] (fun N0 hN0=>⟨fun v=> ?_,fun D v v' W hv hj=> ?_,fun ops' Q' hops hQ=> ?_⟩)
   · exact⟨belowB,keepsB,leD hN0,ownK,ownK,⟨fun _=>ownK,(fun h=>Bool.noConfusion h)⟩⟩
   ·
    obtain⟨j0,jk,jn,b_m,b_r,b_s⟩:=hj
    exact⟨j0,jk,jn,b_m,b_r,⟨b_s.1,fun h=>by obtain⟨d,cs,e,hb⟩:=b_s.2 h; exact⟨d,cs,(hv 7 d)▸e,hb⟩⟩⟩
   have eN:=hN0.out
   try simp only[World.size_alloc,World.size_setCell,World.size_drew,World.heap_drewN]at eN
   have i_m:w.heap.size<N0:=by first | omega | (have h:=om.lt; omega)
   have i_r:w.heap.size+1<N0:=by first | omega | (have h:=or.lt; omega)
   have i_s:w1.heap.size<N0:=by first | omega | (have h:=os.lt; omega)
   have iw:w.heap.size≤N0:=by first | omega | (have h:=B.size; omega)
   clear cm0 cm1 cm2 cm3 lm lr cs0 cs1 cs2 cs3 ls
   clear hN0
   apply Reg.RP rfl rfl rfl 17 rfl rfl
   ·
    intro D v' W' hc hj hf K hK
    obtain⟨j0,jk,jn,b_m,b_r,b_s⟩:=hj
    have b_s:=b_s.1 (hc.2 11 (by decide))
    obtain⟨c0,c1,c2,c3⟩:=b_s.r3
    go_step
    exact hK.out
   · rfl
   repeat refine Reg.RP0 _ ?_
   apply Reg.RP rfl rfl rfl 21 rfl rfl
   ·
    intro D v' W' hc hj hf K hK
    obtain⟨j0,jk,jn,b_m,b_r,b_s⟩:=hj
    have x0_:W'.cell? ⟨b,of+i,none⟩=some (.int .i64 (fX i)):=(j0.cell (p:=⟨b,_,none⟩) hbl).trans hx0
    go_step
    exact hK.out
   · rfl
   refine Reg.RPf 22 (fun _ _ _ h=>h.2.2.2.1.r3) ?_
   refine Reg.RC_call rfl (tlt rfl) rfl (fun D v' W' hc hj hf K hK=> ?_) ?_
   ·
    obtain⟨j0,jk,jn,b_m,b_r,b_s⟩:=hj
    clear hf
    go_step
    refine(sqi W' _ (Fm.out.keeps jk)).mono ?_
    rintro e W2 ⟨u,rfl,hu,hs⟩
    obtain⟨e1,e2,e3,e4,e5,e6,e7,e8,rfl⟩:=hu.shape
    exact hK.out _ W2 (Keeps.steps hs) ⟨jst j0 hs,jk.then_ hs,jsz jn hs,b_m.steps hs,b_r.steps hs,dS b_s hs⟩ hu ⟨_,_,_,_,_,_,_,_,rfl⟩
   rintro _ ⟨e1,e2,e3,e4,e5,e6,e7,e8,rfl⟩
   refine Reg.RC_at (b:=⟨#[_,_,_,_,_,_,_,_,_,_,_,_,_,_,_,_,_,_,_,_,_,_,_,_,_,_,_,_,_,_,_,_,_,_,_,_],_⟩) rfl ?_
   refine Reg.RC_call rfl (tlt rfl) rfl (fun D v' W' hc hj hf K hK=> ?_) ?_
   ·
    obtain⟨j0,jk,jn,b_m,b_r,b_s⟩:=hj
    have g6:GFr ((fQ i)) _ W':=(hf (6,some 23) (.head _) rfl).2.2
    have g6:FR W' _ ((fQ i)):=g6
    clear hf
    go_step
    refine(adi W' _ _ (Fy.out.keeps jk) g6).mono ?_
    rintro e W2 ⟨u,rfl,hu,hs⟩
    obtain⟨u1,u2,u3,u4,u5,u6,u7,u8,rfl⟩:=hu.shape
    exact hK.out _ W2 (Keeps.steps hs) ⟨jst j0 hs,jk.then_ hs,jsz jn hs,b_m.steps hs,b_r.steps hs,⟨fun h=>(b_s.1 h).steps hs,fun h=>Bool.noConfusion ((hc.2 11 (by decide)).symm.trans h)⟩⟩ ⟨_,rfl,hu⟩ ⟨_,_,_,_,_,_,_,_,rfl⟩
   rintro _ ⟨u1,u2,u3,u4,u5,u6,u7,u8,rfl⟩
   refine Reg.RC_at (b:=⟨#[_,_,_,_,_,_,_,_,_,_,_,_,_,_,_,_,_,_,_,_,_,_,_,_,_,_,_,_,_,_,_,_,_,_,_,_],_⟩) rfl ?_
   repeat refine Reg.RP0 _ ?_
   refine Reg.RCs (fun D v' W' hc hj hf K hK=> ?_) (fun _ _=>Reg.RC_at (b:=⟨_,_⟩) rfl ?_)
   ·
    obtain⟨j0,jk,jn,b_m,b_r,b_s⟩:=hj
    have hb:=b_s.1 hc.1
    have e2:w.heap.size≤w1.heap.size:=by omega
    have fc:=hf (7,some 24) (.head _) rfl
    have ec:v' 7 = .tuple #[.agg #[.bool u1,.slice u2 u3 u4,.bool u5,.slice u6 u7 u8],.int .i64 0]:=fc.2.1
    have ff:=hb.fr
    obtain⟨cc0,cc1,cc2,cc3⟩:=hb.r3
    go_step
    exact hK.out undef _ (keeps4 hb rfl) ⟨(below4 j0 (by show w.heap.size≤w1.heap.size; omega)),jk.trans (keeps4 hb rfl),by simpa using jn,(b_m).far4 (show w.heap.size≠w1.heap.size by omega),(b_r).far4 (show w.heap.size+1≠w1.heap.size by omega),⟨fun h=>Bool.noConfusion h,fun _=>⟨fc.1,_,ec,(Blk.set2 (cs':=#[.bool u1,.slice u2 u3 u4,.bool u5,.slice u6 u7 u8]) (Blk.set2 (cs':=#[.bool u1,.slice u2 u3 u4,.bool u5,.slice y6 y7 y8]) (Blk.set2 (cs':=#[.bool u1,.slice u2 u3 u4,.bool y5,.slice y6 y7 y8]) (Blk.set2 (cs':=#[.bool u1,.slice y2 y3 y4,.bool y5,.slice y6 y7 y8]) hb (i:=0) rfl) (i:=1) rfl) (i:=2) rfl) (i:=3) rfl)⟩⟩⟩ trivial trivial
   refine Reg.RC_end (fun Dn v' w2 hd hj hf=> ?_)
   obtain⟨B,jk,jn,om,or,b_s⟩:=hj
   obtain⟨-,cs_,ee,os⟩:=b_s.2 (hd 11 (Nat.le_of_ble_eq_true rfl))
   have ef:v' 7 = .tuple #[.agg #[.bool u1,.slice u2 u3 u4,.bool u5,.slice u6 u7 u8],.int .i64 0]:=(hf (7,some 24) (.tail _ (.head _)) rfl).2.1
   obtain rfl:#[.bool u1,.slice u2 u3 u4,.bool u5,.slice u6 u7 u8]=cs_:=by have:=ef.symm.trans ee; simpa only[Value.tuple.injEq,Value.agg.injEq,Array.mk.injEq,List.cons.injEq,and_true,true_and]using this
   clear b_s ee ef
   have Fu:=Hid.mk_ (GFrE.get (r:=(fD (i+1))) (e:=0) (v:= .agg #[.bool u1,.slice u2 u3 u4,.bool u5,.slice u6 u7 u8]) (hf (7,some 24) (.tail _ (.head _)) rfl).2.2)
   replace Fm:=Hid.mk_ (Fm.out.keeps jk)
   replace Fy:=Hid.mk_ (Fy.out.keeps jk)
   replace kk:=kk.trans jk
   clear hd hf jk
   refine hQ _ _ ?_
   clear hQ hops Q' ops'
   go_wp2_with fail
   go_roundw
   case rel=>exact⟨i+1,_,_,_,_,_,_,_,_,by omega,by go_num,ownK,Fu.out.keeps keepsB,ownK,ownK,belowB,kk.trans keepsB⟩
   case measure=>simp[intOf]; omega
  ·
   obtain rfl:i=N:=by omega
   have hlt:decide ((i:Int)<(i:Int))=false:=decide_eq_false (by omega)
   go_wp2_with fail
   have zs_1:w1.heap.size<wr.heap.size:=os.lt
   have zz1:=B.size
   go_upto_region 6 with fail
   refine Reg.chn (fun N0 D v W=>Below w.heap.size w W∧Keeps wr W∧N0≤W.heap.size∧Blk W (w.heap.size) 32 #[.bool m1,.slice m2 m3 m4,.bool m5,.slice m6 m7 m8]∧Blk W (w.heap.size+1) 32 #[.bool false,.slice none 0 0,.bool false,.slice none 0 0]∧Blk W (w1.heap.size) 32 #[.bool y1,.slice y2 y3 y4,.bool y5,.slice y6 y7 y8]∧(D 8=true→∃g:Nat,v 8 = .pointer (some ⟨g,0,none⟩)∧N0≤g∧g<W.heap.size∧(D 9=false→Blk W g 32 #[.bool false,.slice none 0 0,.bool false,.slice none 0 0])∧(D 9=true→D 4=true∧∃cs,v 4 = .tuple #[.agg cs,.int .i64 0]∧Blk W g 32 cs))) [3,4,8,9] [(3,IsFr),(4,IsFrE 0),(8,IsPtr)] [(3,GFr (NQ)),(4,GFrE (VQ) 0)] [(4,[(3,some 31)]),(9,[(4,some 32),(8,some 7)]),(11,[(3,some 31),(4,some 32),(8,some 7)])] [(8,[9]),(4,[9])] (fun N0 hN0=>⟨fun v=> ?_,fun D v v' W hv hj=> ?_,fun ops' Q' hops hQ=> ?_⟩)
   · exact⟨belowB,keepsB,leD hN0,ownK,ownK,ownK,(fun h=>Bool.noConfusion h)⟩
   ·
    obtain⟨j0,jk,jn,b_m,b_r,b_s,a_8⟩:=hj
    exact⟨j0,jk,jn,b_m,b_r,b_s,fun h=>by obtain⟨g,e1,e2,e3,e4,e5⟩:=a_8 h; exact⟨g,(hv 8 h)▸e1,e2,e3,e4,fun h=>by obtain⟨d,cs,e,hb⟩:=e5 h; exact⟨d,cs,(hv 4 d)▸e,hb⟩⟩⟩
   have eN:=hN0.out
   try simp only[World.size_alloc,World.size_setCell,World.size_drew,World.heap_drewN]at eN
   have i_m:w.heap.size<N0:=by first | omega | (have h:=om.lt; omega)
   have i_r:w.heap.size+1<N0:=by first | omega | (have h:=or.lt; omega)
   have i_s:w1.heap.size<N0:=by first | omega | (have h:=os.lt; omega)
   have iw:w.heap.size≤N0:=by first | omega | (have h:=B.size; omega)
   clear cm0 cm1 cm2 cm3 lm lr cs0 cs1 cs2 cs3 ls
   clear hN0
   refine Reg.RPf 28 (fun _ _ _ h=>h.2.2.2.2.2.1.r3) ?_
   repeat refine Reg.RP0 _ ?_
   refine Reg.RC_call rfl (tlt rfl) rfl (fun D v' W' hc hj hf K hK=> ?_) ?_
   ·
    obtain⟨j0,jk,jn,b_m,b_r,b_s,a_8⟩:=hj
    clear hf
    go_step
    refine(WN W').mono ?_
    rintro e W2 ⟨u,rfl,hu,hs⟩
    obtain⟨n1,n2,n3,n4,n5,n6,n7,n8,rfl⟩:=hu.shape
    exact hK.out _ W2 (Keeps.steps hs) ⟨jst j0 hs,jk.then_ hs,jsz jn hs,b_m.steps hs,b_r.steps hs,b_s.steps hs,fun h=>by obtain⟨g,e1,e2,e3,e4,e5⟩:=a_8 h; exact⟨g,e1,e2,Nat.lt_of_lt_of_le e3 (hs).size,fun h=>(e4 h).steps hs,fun h=>by obtain⟨d,cs,e,hb⟩:=e5 h; exact⟨d,cs,e,hb.steps hs⟩⟩⟩ hu ⟨_,_,_,_,_,_,_,_,rfl⟩
   rintro _ ⟨n1,n2,n3,n4,n5,n6,n7,n8,rfl⟩
   refine Reg.RC_at (b:=⟨#[_,_,_,_,_,_,_,_,_,_,_,_,_,_,_,_,_,_,_,_,_,_,_,_,_,_,_,_,_,_,_,_,_,_,_,_],_⟩) rfl ?_
   refine Reg.RC_call rfl (tlt rfl) rfl (fun D v' W' hc hj hf K hK=> ?_) ?_
   ·
    obtain⟨j0,jk,jn,b_m,b_r,b_s,a_8⟩:=hj
    have g3:GFr (NQ) _ W':=(hf (3,some 31) (.head _) rfl).2.2
    have g3:FR W' _ (NQ):=g3
    clear hf
    go_step
    refine(DV W' _ _ (Fy.out.keeps jk) g3).mono ?_
    rintro e W2 ⟨u,rfl,hu,hs⟩
    obtain⟨q1,q2,q3,q4,q5,q6,q7,q8,rfl⟩:=hu.shape
    exact hK.out _ W2 (Keeps.steps hs) ⟨jst j0 hs,jk.then_ hs,jsz jn hs,b_m.steps hs,b_r.steps hs,b_s.steps hs,fun h=>by obtain⟨g,e1,e2,e3,e4,e5⟩:=a_8 h; exact⟨g,e1,e2,Nat.lt_of_lt_of_le e3 (hs).size,fun h=>(e4 h).steps hs,fun h=>Bool.noConfusion ((hc.2 9 (by decide)).symm.trans h)⟩⟩ ⟨_,rfl,hu⟩ ⟨_,_,_,_,_,_,_,_,rfl⟩
   rintro _ ⟨q1,q2,q3,q4,q5,q6,q7,q8,rfl⟩
   refine Reg.RC_at (b:=⟨#[_,_,_,_,_,_,_,_,_,_,_,_,_,_,_,_,_,_,_,_,_,_,_,_,_,_,_,_,_,_,_,_,_,_,_,_],_⟩) rfl ?_
   repeat refine Reg.RP0 _ ?_
   refine Reg.RC_call rfl (tlt rfl) rfl (fun D v' W' hc hj hf K hK=> ?_) ?_
   ·
    obtain⟨j0,jk,jn,b_m,b_r,b_s,a_8⟩:=hj
    go_step
    have hs:∀o:Obj,Steps W' (W'.alloc o):=fun o=>(Below.refl _ _).alloc (Nat.le_refl _) o
    exact hK.out _ _ (Keeps.steps (hs _)) ⟨jst j0 (hs _),jk.then_ (hs _),jsz jn (hs _),b_m.steps (hs _),b_r.steps (hs _),b_s.steps (hs _),fun _=>⟨W'.heap.size,rfl,jn,by rw[World.size_alloc]; omega,fun _=>Blk.new _ _ _,fun h=>Bool.noConfusion ((hc.2 9 (by decide)).symm.trans h)⟩⟩ trivial ⟨_,rfl⟩
   rintro _ ⟨p7,rfl⟩
   refine Reg.RC_at (b:=⟨#[_,_,_,_,_,_,_,_,_,_,_,_,_,_,_,_,_,_,_,_,_,_,_,_,_,_,_,_,_,_,_,_,_,_,_,_],_⟩) rfl ?_
   refine Reg.RCs (fun D v' W' hc hj hf K hK=> ?_) (fun _ _=>Reg.RC_at (b:=⟨_,_⟩) rfl ?_)
   ·
    obtain⟨j0,jk,jn,b_m,b_r,b_s,a_8⟩:=hj
    have f:=hf (8,some 7) (.tail _ (.head _)) rfl
    have e6:v' 8 = .pointer (some ⟨p7,0,none⟩):=f.2.1
    obtain⟨g,e1,e2,e3,e4,e5⟩:=a_8 f.1
    obtain rfl:p7=g:=Reg.ptr_eq (e6.symm.trans e1)
    have hb:=e4 hc.1
    clear e4 e5
    have fc:=hf (4,some 32) (.head _) rfl
    have ec:v' 4 = .tuple #[.agg #[.bool q1,.slice q2 q3 q4,.bool q5,.slice q6 q7 q8],.int .i64 0]:=fc.2.1
    have ff:=hb.fr
    obtain⟨cc0,cc1,cc2,cc3⟩:=hb.r3
    go_step
    exact hK.out undef _ (keeps4 hb rfl) ⟨(below4 j0 (by show w.heap.size≤p7; omega)),jk.trans (keeps4 hb rfl),by simpa using jn,(b_m).far4 (show w.heap.size≠p7 by omega),(b_r).far4 (show w.heap.size+1≠p7 by omega),(b_s).far4 (show w1.heap.size≠p7 by omega),fun _=>⟨p7,e1,e2,by simpa using e3,fun h=>Bool.noConfusion h,fun _=>⟨fc.1,_,ec,(Blk.set2 (cs':=#[.bool q1,.slice q2 q3 q4,.bool q5,.slice q6 q7 q8]) (Blk.set2 (cs':=#[.bool q1,.slice q2 q3 q4,.bool q5,.slice none 0 0]) (Blk.set2 (cs':=#[.bool q1,.slice q2 q3 q4,.bool false,.slice none 0 0]) (Blk.set2 (cs':=#[.bool q1,.slice none 0 0,.bool false,.slice none 0 0]) hb (i:=0) rfl) (i:=1) rfl) (i:=2) rfl) (i:=3) rfl)⟩⟩⟩ trivial trivial
   refine Reg.RP0 8 ?_
   refine Reg.RC_end (fun Dn v' w2 hd hj hf=> ?_)
   obtain⟨B,jk,jn,om,or,os,a_8⟩:=hj
   have f:=hf (8,some 7) (.tail _ (.tail _ (.head _))) rfl
   have e6_:v' 8 = .pointer (some ⟨p7,0,none⟩):=f.2.1
   obtain⟨g,e1_,zq,-,-,e5_⟩:=a_8 f.1
   obtain rfl:p7=g:=Reg.ptr_eq (e6_.symm.trans e1_)
   obtain⟨-,cs_,ee,oq⟩:=e5_ (hd 9 (Nat.le_of_ble_eq_true rfl))
   have ef:v' 4 = .tuple #[.agg #[.bool q1,.slice q2 q3 q4,.bool q5,.slice q6 q7 q8],.int .i64 0]:=(hf (4,some 32) (.tail _ (.head _)) rfl).2.1
   obtain rfl:#[.bool q1,.slice q2 q3 q4,.bool q5,.slice q6 q7 q8]=cs_:=by have:=ef.symm.trans ee; simpa only[Value.tuple.injEq,Value.agg.injEq,Array.mk.injEq,List.cons.injEq,and_true,true_and]using this
   clear ee ef f e5_ e1_ e6_
   have Fq:=Hid.mk_ (GFrE.get (r:=VQ) (e:=0) (v:= .agg #[.bool q1,.slice q2 q3 q4,.bool q5,.slice q6 q7 q8]) (hf (4,some 32) (.tail _ (.head _)) rfl).2.2)
   replace Fm:=Hid.mk_ (Fm.out.keeps jk)
   replace Fy:=Hid.mk_ (Fy.out.keeps jk)
   replace kk:=kk.trans jk
   clear hd hf jk
   refine hQ _ _ ?_
   clear hQ hops Q' ops'
   have lm:=om.lt
   obtain⟨cr0,cr1,cr2,cr3,fr,lr⟩:=or.s3
   obtain⟨cq0,cq1,cq2,cq3⟩:=oq.r3
   have lq:=oq.lt
   go_wp2_with fail
   refine bodyPost_ret (by simp[results,Tryz.results57,go_sem,lm,cr0,cr1,cr2,cr3,fr,lr,cq0,cq1,cq2,cq3,lq]; rfl) rfl ?_
   exact⟨_,rfl,Fq.out.keeps keepsB,belowB⟩
end Go.Proofs.YtdkcffnmlllamaaGreat
